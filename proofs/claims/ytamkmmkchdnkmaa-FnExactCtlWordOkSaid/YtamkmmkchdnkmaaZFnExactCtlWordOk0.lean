import Derived.Test.YtamkmmkchdnkmaaY1
set_option linter.unusedVariables false
namespace Go.Proofs.Ytamkmmkchdnkmaa.CW
open Go Go.RowKit Go.Aw
structure S_laws_PlantFoe where
  f0 : ByteArray
  f1 : ByteArray
def z_laws_PlantFoe : S_laws_PlantFoe := ⟨(⟨#[]⟩ : ByteArray), (⟨#[]⟩ : ByteArray)⟩
def rd_laws_PlantFoe (xs : List S_laws_PlantFoe) (i : Int) : S_laws_PlantFoe := xs.getD i.toNat z_laws_PlantFoe
structure S_laws_PlantPlace where
  f0 : ByteArray
  f1 : Int
  f2 : ByteArray
def z_laws_PlantPlace : S_laws_PlantPlace := ⟨(⟨#[]⟩ : ByteArray), (0 : Int), (⟨#[]⟩ : ByteArray)⟩
def rd_laws_PlantPlace (xs : List S_laws_PlantPlace) (i : Int) : S_laws_PlantPlace := xs.getD i.toNat z_laws_PlantPlace
structure S_laws_PlantValve where
  f0 : ByteArray
  f1 : ByteArray
  f2 : ByteArray
  f3 : ByteArray
def z_laws_PlantValve : S_laws_PlantValve := ⟨(⟨#[]⟩ : ByteArray), (⟨#[]⟩ : ByteArray), (⟨#[]⟩ : ByteArray), (⟨#[]⟩ : ByteArray)⟩
def rd_laws_PlantValve (xs : List S_laws_PlantValve) (i : Int) : S_laws_PlantValve := xs.getD i.toNat z_laws_PlantValve
structure S_laws_ClaimUse where
  f0 : ByteArray
  f1 : Int
  f2 : Int
def z_laws_ClaimUse : S_laws_ClaimUse := ⟨(⟨#[]⟩ : ByteArray), (0 : Int), (0 : Int)⟩
def rd_laws_ClaimUse (xs : List S_laws_ClaimUse) (i : Int) : S_laws_ClaimUse := xs.getD i.toNat z_laws_ClaimUse
structure S_impl_PlantFoe where
  f0 : ByteArray
  f1 : ByteArray
def z_impl_PlantFoe : S_impl_PlantFoe := ⟨(⟨#[]⟩ : ByteArray), (⟨#[]⟩ : ByteArray)⟩
def rd_impl_PlantFoe (xs : List S_impl_PlantFoe) (i : Int) : S_impl_PlantFoe := xs.getD i.toNat z_impl_PlantFoe
structure S_impl_PlantPlace where
  f0 : ByteArray
  f1 : Int
  f2 : ByteArray
def z_impl_PlantPlace : S_impl_PlantPlace := ⟨(⟨#[]⟩ : ByteArray), (0 : Int), (⟨#[]⟩ : ByteArray)⟩
def rd_impl_PlantPlace (xs : List S_impl_PlantPlace) (i : Int) : S_impl_PlantPlace := xs.getD i.toNat z_impl_PlantPlace
structure S_impl_PlantValve where
  f0 : ByteArray
  f1 : ByteArray
  f2 : ByteArray
  f3 : ByteArray
def z_impl_PlantValve : S_impl_PlantValve := ⟨(⟨#[]⟩ : ByteArray), (⟨#[]⟩ : ByteArray), (⟨#[]⟩ : ByteArray), (⟨#[]⟩ : ByteArray)⟩
def rd_impl_PlantValve (xs : List S_impl_PlantValve) (i : Int) : S_impl_PlantValve := xs.getD i.toNat z_impl_PlantValve
structure S_impl_ClaimUse where
  f0 : ByteArray
  f1 : Int
  f2 : Int
def z_impl_ClaimUse : S_impl_ClaimUse := ⟨(⟨#[]⟩ : ByteArray), (0 : Int), (0 : Int)⟩
def rd_impl_ClaimUse (xs : List S_impl_ClaimUse) (i : Int) : S_impl_ClaimUse := xs.getD i.toNat z_impl_ClaimUse
structure S_A2_string where
  f0 : ByteArray
  f1 : ByteArray
def z_A2_string : S_A2_string := ⟨(⟨#[]⟩ : ByteArray), (⟨#[]⟩ : ByteArray)⟩
def rd_A2_string (xs : List S_A2_string) (i : Int) : S_A2_string := xs.getD i.toNat z_A2_string
structure S_laws_Plant where
  f0 : List ByteArray
  f1 : List S_laws_PlantFoe
  f2 : List S_laws_PlantPlace
  f3 : List S_laws_PlantValve
def z_laws_Plant : S_laws_Plant := ⟨([] : List ByteArray), ([] : List S_laws_PlantFoe), ([] : List S_laws_PlantPlace), ([] : List S_laws_PlantValve)⟩
def rd_laws_Plant (xs : List S_laws_Plant) (i : Int) : S_laws_Plant := xs.getD i.toNat z_laws_Plant
structure S_laws_ClaimWant where
  f0 : Int
  f1 : Int
  f2 : List ByteArray
  f3 : List S_laws_ClaimUse
  f4 : List ByteArray
  f5 : List ByteArray
def z_laws_ClaimWant : S_laws_ClaimWant := ⟨(0 : Int), (0 : Int), ([] : List ByteArray), ([] : List S_laws_ClaimUse), ([] : List ByteArray), ([] : List ByteArray)⟩
def rd_laws_ClaimWant (xs : List S_laws_ClaimWant) (i : Int) : S_laws_ClaimWant := xs.getD i.toNat z_laws_ClaimWant
structure S_laws_CtlWord where
  f0 : Int
  f1 : ByteArray
  f2 : Int
  f3 : S_laws_ClaimWant
  f4 : Int
  f5 : Bool
def z_laws_CtlWord : S_laws_CtlWord := ⟨(0 : Int), (⟨#[]⟩ : ByteArray), (0 : Int), z_laws_ClaimWant, (0 : Int), false⟩
def rd_laws_CtlWord (xs : List S_laws_CtlWord) (i : Int) : S_laws_CtlWord := xs.getD i.toNat z_laws_CtlWord
def ok_laws_PlantFoe (y : S_laws_PlantFoe) : Prop := (y.f0.size ≤ 140737488351232) ∧ (y.f1.size ≤ 140737488351232)
def ok_laws_PlantPlace (y : S_laws_PlantPlace) : Prop := (y.f0.size ≤ 140737488351232) ∧ ((Lit.int .i64 y.f1).wf = true) ∧ (y.f2.size ≤ 140737488351232)
def ok_laws_PlantValve (y : S_laws_PlantValve) : Prop := (y.f0.size ≤ 140737488351232) ∧ (y.f1.size ≤ 140737488351232) ∧ (y.f2.size ≤ 140737488351232) ∧ (y.f3.size ≤ 140737488351232)
def ok_laws_Plant (y : S_laws_Plant) : Prop := ((y.f0.length ≤ 9223372036854775807 ∧ y.f0.length * 16 ≤ 140737488351232) ∧ ∀ z ∈ y.f0, z.size ≤ 140737488351232) ∧ ((y.f1.length ≤ 9223372036854775807 ∧ y.f1.length * 32 ≤ 140737488351232) ∧ ∀ z ∈ y.f1, ok_laws_PlantFoe z) ∧ ((y.f2.length ≤ 9223372036854775807 ∧ y.f2.length * 40 ≤ 140737488351232) ∧ ∀ z ∈ y.f2, ok_laws_PlantPlace z) ∧ ((y.f3.length ≤ 9223372036854775807 ∧ y.f3.length * 64 ≤ 140737488351232) ∧ ∀ z ∈ y.f3, ok_laws_PlantValve z)
def ok_laws_ClaimUse (y : S_laws_ClaimUse) : Prop := (y.f0.size ≤ 140737488351232) ∧ ((Lit.int .i64 y.f1).wf = true) ∧ ((Lit.int .i64 y.f2).wf = true)
def ok_laws_ClaimWant (y : S_laws_ClaimWant) : Prop := ((Lit.int .i64 y.f0).wf = true) ∧ ((Lit.int .i64 y.f1).wf = true) ∧ ((y.f2.length ≤ 9223372036854775807 ∧ y.f2.length * 16 ≤ 140737488351232) ∧ ∀ z ∈ y.f2, z.size ≤ 140737488351232) ∧ ((y.f3.length ≤ 9223372036854775807 ∧ y.f3.length * 32 ≤ 140737488351232) ∧ ∀ z ∈ y.f3, ok_laws_ClaimUse z) ∧ ((y.f4.length ≤ 9223372036854775807 ∧ y.f4.length * 16 ≤ 140737488351232) ∧ ∀ z ∈ y.f4, z.size ≤ 140737488351232) ∧ ((y.f5.length ≤ 9223372036854775807 ∧ y.f5.length * 16 ≤ 140737488351232) ∧ ∀ z ∈ y.f5, z.size ≤ 140737488351232)
def ok_laws_CtlWord (y : S_laws_CtlWord) : Prop := ((Lit.int .i64 y.f0).wf = true) ∧ (y.f1.size ≤ 140737488351232) ∧ ((Lit.int .i64 y.f2).wf = true) ∧ (ok_laws_ClaimWant y.f3) ∧ ((Lit.int .i64 y.f4).wf = true) ∧ (True)
def laws_szStringS.l0 : Nat → List ByteArray → Int → Int → Option (Int)
  | 0, _, _, _ => none
  | k + 1, l0, x1, x5 => (if x5 < (l0.length : Int) then (if 0 ≤ x5 then (if (wrap64 (x1 - ((rdOf ByteArray.empty l0 x5).size : Int))) < 0 then (some (-1)) else (laws_szStringS.l0 k l0 (wrap64 (x1 - ((rdOf ByteArray.empty l0 x5).size : Int))) (wrap64 (x5 + 1)))) else none) else (some x1))
def laws_szStringS.f (k : Nat) (l0 : List ByteArray) (a1 : Int) : Option (Int) := (if (wrap64 (a1 - (l0.length : Int))) < 0 then (some (-1)) else (laws_szStringS.l0 k l0 (wrap64 (a1 - (l0.length : Int))) 0))
def laws_szPlantFoe.f (a0_0 : ByteArray) (a0_1 : ByteArray) (a1 : Int) : Option (Int) := (if (wrap64 (a1 - (a0_0.size : Int))) < 0 then (some (-1)) else (if (wrap64 ((wrap64 (a1 - (a0_0.size : Int))) - (a0_1.size : Int))) < 0 then (some (-1)) else (some (wrap64 ((wrap64 (a1 - (a0_0.size : Int))) - (a0_1.size : Int))))))
def laws_szPlantFoeS.l0 : Nat → List S_laws_PlantFoe → Int → Int → Option (Int)
  | 0, _, _, _ => none
  | k + 1, l0, x1, x5 => (if x5 < (l0.length : Int) then (if 0 ≤ x5 then ((laws_szPlantFoe.f ((rd_laws_PlantFoe l0 x5).f0) ((rd_laws_PlantFoe l0 x5).f1) x1).bind fun t8 => (if t8 < 0 then (some (-1)) else (laws_szPlantFoeS.l0 k l0 t8 (wrap64 (x5 + 1))))) else none) else (some x1))
def laws_szPlantFoeS.f (k : Nat) (l0 : List S_laws_PlantFoe) (a1 : Int) : Option (Int) := (if (wrap64 (a1 - (l0.length : Int))) < 0 then (some (-1)) else (laws_szPlantFoeS.l0 k l0 (wrap64 (a1 - (l0.length : Int))) 0))
def laws_szPlantPlace.f (a0_0 : ByteArray) (a0_1 : Int) (a0_2 : ByteArray) (a1 : Int) : Option (Int) := (if (wrap64 (a1 - (a0_0.size : Int))) < 0 then (some (-1)) else (if (wrap64 ((wrap64 (a1 - (a0_0.size : Int))) - (a0_2.size : Int))) < 0 then (some (-1)) else (some (wrap64 ((wrap64 (a1 - (a0_0.size : Int))) - (a0_2.size : Int))))))
def laws_szPlantPlaceS.l0 : Nat → List S_laws_PlantPlace → Int → Int → Option (Int)
  | 0, _, _, _ => none
  | k + 1, l0, x1, x5 => (if x5 < (l0.length : Int) then (if 0 ≤ x5 then ((laws_szPlantPlace.f ((rd_laws_PlantPlace l0 x5).f0) ((rd_laws_PlantPlace l0 x5).f1) ((rd_laws_PlantPlace l0 x5).f2) x1).bind fun t20 => (if t20 < 0 then (some (-1)) else (laws_szPlantPlaceS.l0 k l0 t20 (wrap64 (x5 + 1))))) else none) else (some x1))
def laws_szPlantPlaceS.f (k : Nat) (l0 : List S_laws_PlantPlace) (a1 : Int) : Option (Int) := (if (wrap64 (a1 - (l0.length : Int))) < 0 then (some (-1)) else (laws_szPlantPlaceS.l0 k l0 (wrap64 (a1 - (l0.length : Int))) 0))
def laws_szPlantValve.f (a0_0 : ByteArray) (a0_1 : ByteArray) (a0_2 : ByteArray) (a0_3 : ByteArray) (a1 : Int) : Option (Int) := (if (wrap64 (a1 - (a0_0.size : Int))) < 0 then (some (-1)) else (if (wrap64 ((wrap64 (a1 - (a0_0.size : Int))) - (a0_1.size : Int))) < 0 then (some (-1)) else (if (wrap64 ((wrap64 ((wrap64 (a1 - (a0_0.size : Int))) - (a0_1.size : Int))) - (a0_2.size : Int))) < 0 then (some (-1)) else (if (wrap64 ((wrap64 ((wrap64 ((wrap64 (a1 - (a0_0.size : Int))) - (a0_1.size : Int))) - (a0_2.size : Int))) - (a0_3.size : Int))) < 0 then (some (-1)) else (some (wrap64 ((wrap64 ((wrap64 ((wrap64 (a1 - (a0_0.size : Int))) - (a0_1.size : Int))) - (a0_2.size : Int))) - (a0_3.size : Int))))))))
def laws_szPlantValveS.l0 : Nat → List S_laws_PlantValve → Int → Int → Option (Int)
  | 0, _, _, _ => none
  | k + 1, l0, x1, x5 => (if x5 < (l0.length : Int) then (if 0 ≤ x5 then ((laws_szPlantValve.f ((rd_laws_PlantValve l0 x5).f0) ((rd_laws_PlantValve l0 x5).f1) ((rd_laws_PlantValve l0 x5).f2) ((rd_laws_PlantValve l0 x5).f3) x1).bind fun t36 => (if t36 < 0 then (some (-1)) else (laws_szPlantValveS.l0 k l0 t36 (wrap64 (x5 + 1))))) else none) else (some x1))
def laws_szPlantValveS.f (k : Nat) (l0 : List S_laws_PlantValve) (a1 : Int) : Option (Int) := (if (wrap64 (a1 - (l0.length : Int))) < 0 then (some (-1)) else (laws_szPlantValveS.l0 k l0 (wrap64 (a1 - (l0.length : Int))) 0))
def laws_szPlant.f (k : Nat) (a0_0 : List ByteArray) (a0_1 : List S_laws_PlantFoe) (a0_2 : List S_laws_PlantPlace) (a0_3 : List S_laws_PlantValve) (a1 : Int) : Option (Int) := ((laws_szStringS.f k a0_0 a1).bind fun t38 => (if t38 < 0 then (some (-1)) else ((laws_szPlantFoeS.f k a0_1 t38).bind fun t40 => (if t40 < 0 then (some (-1)) else ((laws_szPlantPlaceS.f k a0_2 t40).bind fun t42 => (if t42 < 0 then (some (-1)) else ((laws_szPlantValveS.f k a0_3 t42).bind fun t44 => (if t44 < 0 then (some (-1)) else (some t44)))))))))
def laws_szClaimUse.f (a0_0 : ByteArray) (a0_1 : Int) (a0_2 : Int) (a1 : Int) : Option (Int) := (if (wrap64 (a1 - (a0_0.size : Int))) < 0 then (some (-1)) else (some (wrap64 (a1 - (a0_0.size : Int)))))
def laws_szClaimUseS.l0 : Nat → List S_laws_ClaimUse → Int → Int → Option (Int)
  | 0, _, _, _ => none
  | k + 1, l0, x1, x5 => (if x5 < (l0.length : Int) then (if 0 ≤ x5 then ((laws_szClaimUse.f ((rd_laws_ClaimUse l0 x5).f0) ((rd_laws_ClaimUse l0 x5).f1) ((rd_laws_ClaimUse l0 x5).f2) x1).bind fun t60 => (if t60 < 0 then (some (-1)) else (laws_szClaimUseS.l0 k l0 t60 (wrap64 (x5 + 1))))) else none) else (some x1))
def laws_szClaimUseS.f (k : Nat) (l0 : List S_laws_ClaimUse) (a1 : Int) : Option (Int) := (if (wrap64 (a1 - (l0.length : Int))) < 0 then (some (-1)) else (laws_szClaimUseS.l0 k l0 (wrap64 (a1 - (l0.length : Int))) 0))
def laws_szClaimWant.f (k : Nat) (a0_0 : Int) (a0_1 : Int) (a0_2 : List ByteArray) (a0_3 : List S_laws_ClaimUse) (a0_4 : List ByteArray) (a0_5 : List ByteArray) (a1 : Int) : Option (Int) := ((laws_szStringS.f k a0_2 a1).bind fun t62 => (if t62 < 0 then (some (-1)) else ((laws_szClaimUseS.f k a0_3 t62).bind fun t64 => (if t64 < 0 then (some (-1)) else ((laws_szStringS.f k a0_4 t64).bind fun t66 => (if t66 < 0 then (some (-1)) else ((laws_szStringS.f k a0_5 t66).bind fun t68 => (if t68 < 0 then (some (-1)) else (some t68)))))))))
def laws_szCtlWord.f (k : Nat) (a0_0 : Int) (a0_1 : ByteArray) (a0_2 : Int) (a0_3 : Int) (a0_4 : Int) (a0_5 : List ByteArray) (a0_6 : List S_laws_ClaimUse) (a0_7 : List ByteArray) (a0_8 : List ByteArray) (a0_9 : Int) (a0_10 : Bool) (a1 : Int) : Option (Int) := (if (wrap64 (a1 - (a0_1.size : Int))) < 0 then (some (-1)) else ((laws_szClaimWant.f k a0_3 a0_4 a0_5 a0_6 a0_7 a0_8 (wrap64 (a1 - (a0_1.size : Int)))).bind fun t70 => (if t70 < 0 then (some (-1)) else (some t70))))
def laws_toStringS.l0 : Nat → List ByteArray → List ByteArray → Int → Option (List ByteArray)
  | 0, _, _, _ => none
  | k + 1, l0, x3, x4 => (if x4 < (l0.length : Int) then (if 0 ≤ x4 then (if x4 < (x3.length : Int) then (laws_toStringS.l0 k l0 (x3.set (x4).toNat (rdOf ByteArray.empty l0 x4)) (wrap64 (x4 + 1))) else none) else none) else (some x3))
def laws_toStringS.f (k : Nat) (l0 : List ByteArray) : Option (List ByteArray) := (if (l0.length : Int) * 16 ≤ 140737488355328 then (laws_toStringS.l0 k l0 (List.replicate ((l0.length : Int)).toNat (⟨#[]⟩ : ByteArray)) 0) else none)
def laws_toPlantFoe.f (a0_0 : ByteArray) (a0_1 : ByteArray) : Option (ByteArray × ByteArray) := (some (a0_0, a0_1))
def laws_toPlantFoeS.l0 : Nat → List S_laws_PlantFoe → List S_impl_PlantFoe → Int → Option (List S_impl_PlantFoe)
  | 0, _, _, _ => none
  | k + 1, l0, x3, x4 => (if x4 < (l0.length : Int) then (if 0 ≤ x4 then ((laws_toPlantFoe.f ((rd_laws_PlantFoe l0 x4).f0) ((rd_laws_PlantFoe l0 x4).f1)).bind fun t95 => (if x4 < (x3.length : Int) then (laws_toPlantFoeS.l0 k l0 (x3.set (x4).toNat (⟨t95.1, t95.2⟩ : S_impl_PlantFoe)) (wrap64 (x4 + 1))) else none)) else none) else (some x3))
def laws_toPlantFoeS.f (k : Nat) (l0 : List S_laws_PlantFoe) : Option (List S_impl_PlantFoe) := (if (l0.length : Int) * 32 ≤ 140737488355328 then (laws_toPlantFoeS.l0 k l0 (List.replicate ((l0.length : Int)).toNat z_impl_PlantFoe) 0) else none)
def laws_toPlantPlace.f (a0_0 : ByteArray) (a0_1 : Int) (a0_2 : ByteArray) : Option (ByteArray × Int × ByteArray) := (some (a0_0, a0_1, a0_2))
def laws_toPlantPlaceS.l0 : Nat → List S_laws_PlantPlace → List S_impl_PlantPlace → Int → Option (List S_impl_PlantPlace)
  | 0, _, _, _ => none
  | k + 1, l0, x3, x4 => (if x4 < (l0.length : Int) then (if 0 ≤ x4 then ((laws_toPlantPlace.f ((rd_laws_PlantPlace l0 x4).f0) ((rd_laws_PlantPlace l0 x4).f1) ((rd_laws_PlantPlace l0 x4).f2)).bind fun t116 => (if x4 < (x3.length : Int) then (laws_toPlantPlaceS.l0 k l0 (x3.set (x4).toNat (⟨t116.1, t116.2.1, t116.2.2⟩ : S_impl_PlantPlace)) (wrap64 (x4 + 1))) else none)) else none) else (some x3))
def laws_toPlantPlaceS.f (k : Nat) (l0 : List S_laws_PlantPlace) : Option (List S_impl_PlantPlace) := (if (l0.length : Int) * 40 ≤ 140737488355328 then (laws_toPlantPlaceS.l0 k l0 (List.replicate ((l0.length : Int)).toNat z_impl_PlantPlace) 0) else none)
def laws_toPlantValve.f (a0_0 : ByteArray) (a0_1 : ByteArray) (a0_2 : ByteArray) (a0_3 : ByteArray) : Option (ByteArray × ByteArray × ByteArray × ByteArray) := (some (a0_0, a0_1, a0_2, a0_3))
def laws_toPlantValveS.l0 : Nat → List S_laws_PlantValve → List S_impl_PlantValve → Int → Option (List S_impl_PlantValve)
  | 0, _, _, _ => none
  | k + 1, l0, x3, x4 => (if x4 < (l0.length : Int) then (if 0 ≤ x4 then ((laws_toPlantValve.f ((rd_laws_PlantValve l0 x4).f0) ((rd_laws_PlantValve l0 x4).f1) ((rd_laws_PlantValve l0 x4).f2) ((rd_laws_PlantValve l0 x4).f3)).bind fun t141 => (if x4 < (x3.length : Int) then (laws_toPlantValveS.l0 k l0 (x3.set (x4).toNat (⟨t141.1, t141.2.1, t141.2.2.1, t141.2.2.2⟩ : S_impl_PlantValve)) (wrap64 (x4 + 1))) else none)) else none) else (some x3))
def laws_toPlantValveS.f (k : Nat) (l0 : List S_laws_PlantValve) : Option (List S_impl_PlantValve) := (if (l0.length : Int) * 64 ≤ 140737488355328 then (laws_toPlantValveS.l0 k l0 (List.replicate ((l0.length : Int)).toNat z_impl_PlantValve) 0) else none)
def laws_toPlant.f (k : Nat) (a0_0 : List ByteArray) (a0_1 : List S_laws_PlantFoe) (a0_2 : List S_laws_PlantPlace) (a0_3 : List S_laws_PlantValve) : Option ((List ByteArray) × (List S_impl_PlantFoe) × (List S_impl_PlantPlace) × (List S_impl_PlantValve)) := ((laws_toStringS.f k a0_0).bind fun t143 => ((laws_toPlantFoeS.f k a0_1).bind fun t145 => ((laws_toPlantPlaceS.f k a0_2).bind fun t147 => ((laws_toPlantValveS.f k a0_3).bind fun t149 => (some (t143, t145, t147, t149))))))
def laws_toClaimUse.f (a0_0 : ByteArray) (a0_1 : Int) (a0_2 : Int) : Option (ByteArray × Int × Int) := (some (a0_0, a0_1, a0_2))
def laws_toClaimUseS.l0 : Nat → List S_laws_ClaimUse → List S_impl_ClaimUse → Int → Option (List S_impl_ClaimUse)
  | 0, _, _, _ => none
  | k + 1, l0, x3, x4 => (if x4 < (l0.length : Int) then (if 0 ≤ x4 then ((laws_toClaimUse.f ((rd_laws_ClaimUse l0 x4).f0) ((rd_laws_ClaimUse l0 x4).f1) ((rd_laws_ClaimUse l0 x4).f2)).bind fun t178 => (if x4 < (x3.length : Int) then (laws_toClaimUseS.l0 k l0 (x3.set (x4).toNat (⟨t178.1, t178.2.1, t178.2.2⟩ : S_impl_ClaimUse)) (wrap64 (x4 + 1))) else none)) else none) else (some x3))
def laws_toClaimUseS.f (k : Nat) (l0 : List S_laws_ClaimUse) : Option (List S_impl_ClaimUse) := (if (l0.length : Int) * 32 ≤ 140737488355328 then (laws_toClaimUseS.l0 k l0 (List.replicate ((l0.length : Int)).toNat z_impl_ClaimUse) 0) else none)
def laws_toClaimWant.f (k : Nat) (a0_0 : Int) (a0_1 : Int) (a0_2 : List ByteArray) (a0_3 : List S_laws_ClaimUse) (a0_4 : List ByteArray) (a0_5 : List ByteArray) : Option (Int × Int × (List ByteArray) × (List S_impl_ClaimUse) × (List ByteArray) × (List ByteArray)) := ((laws_toStringS.f k a0_2).bind fun t180 => ((laws_toClaimUseS.f k a0_3).bind fun t182 => ((laws_toStringS.f k a0_4).bind fun t184 => ((laws_toStringS.f k a0_5).bind fun t186 => (some (a0_0, a0_1, t180, t182, t184, t186))))))
def laws_toCtlWord.f (k : Nat) (a0_0 : Int) (a0_1 : ByteArray) (a0_2 : Int) (a0_3 : Int) (a0_4 : Int) (a0_5 : List ByteArray) (a0_6 : List S_laws_ClaimUse) (a0_7 : List ByteArray) (a0_8 : List ByteArray) (a0_9 : Int) (a0_10 : Bool) : Option (Int × ByteArray × Int × Int × Int × (List ByteArray) × (List S_impl_ClaimUse) × (List ByteArray) × (List ByteArray) × Int × Bool) := ((laws_toClaimWant.f k a0_3 a0_4 a0_5 a0_6 a0_7 a0_8).bind fun t188 => (some (a0_0, a0_1, a0_2, t188.1, t188.2.1, t188.2.2.1, t188.2.2.2.1, t188.2.2.2.2.1, t188.2.2.2.2.2, a0_9, a0_10)))
def spec_l1In.f (a0 : Int) (a1 : Int) (a2 : Int) : Option (Bool) := (if a0 ≥ a1 then (some (decide (a0 ≤ a2))) else (some false))
def spec_l2NameOk.l0 : Nat → ByteArray → Int → Option (Bool)
  | 0, _, _ => none
  | k + 1, a0, x3 => (if x3 < (a0.size : Int) then (if 0 ≤ x3 then (if (bt a0 x3) ≥ 97 then (if (bt a0 x3) ≤ 122 then (spec_l2NameOk.l0 k a0 (wrap64 (x3 + 1))) else (if (bt a0 x3) ≥ 48 then (if (bt a0 x3) ≤ 57 then (spec_l2NameOk.l0 k a0 (wrap64 (x3 + 1))) else (if (bt a0 x3) = 45 then (spec_l2NameOk.l0 k a0 (wrap64 (x3 + 1))) else (some false))) else (if (bt a0 x3) = 45 then (spec_l2NameOk.l0 k a0 (wrap64 (x3 + 1))) else (some false)))) else (if (bt a0 x3) ≥ 48 then (if (bt a0 x3) ≤ 57 then (spec_l2NameOk.l0 k a0 (wrap64 (x3 + 1))) else (if (bt a0 x3) = 45 then (spec_l2NameOk.l0 k a0 (wrap64 (x3 + 1))) else (some false))) else (if (bt a0 x3) = 45 then (spec_l2NameOk.l0 k a0 (wrap64 (x3 + 1))) else (some false)))) else none) else (some true))
def spec_l2NameOk.f (k : Nat) (a0 : ByteArray) : Option (Bool) := ((spec_l1In.f (a0.size : Int) 1 8).bind fun t221 => (if t221 = true then (spec_l2NameOk.l0 k a0 0) else (some false)))
def spec_l2Has.l0 : Nat → List ByteArray → ByteArray → Int → Option (Bool)
  | 0, _, _, _ => none
  | k + 1, l0, a1, x5 => (if x5 < (l0.length : Int) then (if 0 ≤ x5 then (if (rdOf ByteArray.empty l0 x5).toList = a1.toList then (some true) else (spec_l2Has.l0 k l0 a1 (wrap64 (x5 + 1)))) else none) else (some false))
def spec_l2Has.f (k : Nat) (l0 : List ByteArray) (a1 : ByteArray) : Option (Bool) := (spec_l2Has.l0 k l0 a1 0)
def spec_l2Before.f (a0_0 : ByteArray) (a0_1 : ByteArray) (a1_0 : ByteArray) (a1_1 : ByteArray) : Option (Bool) := (if (Op.bytesLess a0_0.toList a1_0.toList) = true then (some true) else (if a0_0.toList = a1_0.toList then (some (Op.bytesLess a0_1.toList a1_1.toList)) else (some false)))
def spec_l2StuffsOk.l1 : Nat → List ByteArray → List S_impl_PlantFoe → Int → Option (Bool)
  | 0, _, _, _ => none
  | k + 1, a0_0, a0_1, x4 => (if x4 < (a0_1.length : Int) then (if 0 ≤ x4 then (if (Op.bytesLess ((rd_impl_PlantFoe a0_1 x4).f0).toList ((rd_impl_PlantFoe a0_1 x4).f1).toList) = true then ((spec_l2Has.f k a0_0 ((rd_impl_PlantFoe a0_1 x4).f0)).bind fun t257 => (if t257 = true then ((spec_l2Has.f k a0_0 ((rd_impl_PlantFoe a0_1 x4).f1)).bind fun t258 => (if t258 = true then (if x4 > 0 then (if 0 ≤ (wrap64 (x4 - 1)) then (if (wrap64 (x4 - 1)) < (a0_1.length : Int) then ((spec_l2Before.f ((rd_impl_PlantFoe a0_1 (wrap64 (x4 - 1))).f0) ((rd_impl_PlantFoe a0_1 (wrap64 (x4 - 1))).f1) ((rd_impl_PlantFoe a0_1 x4).f0) ((rd_impl_PlantFoe a0_1 x4).f1)).bind fun t259 => (if t259 = true then (spec_l2StuffsOk.l1 k a0_0 a0_1 (wrap64 (x4 + 1))) else (some false))) else none) else none) else (spec_l2StuffsOk.l1 k a0_0 a0_1 (wrap64 (x4 + 1)))) else (some false))) else (some false))) else (some false)) else none) else (some true))
def spec_l2StuffsOk.l0 : Nat → List ByteArray → List S_impl_PlantFoe → Int → Option (Bool)
  | 0, _, _, _ => none
  | k + 1, a0_0, a0_1, x3 => (if x3 < (a0_0.length : Int) then (if 0 ≤ x3 then ((spec_l2NameOk.f k (rdOf ByteArray.empty a0_0 x3)).bind fun t247 => (if t247 = true then (if x3 > 0 then (if 0 ≤ (wrap64 (x3 - 1)) then (if (wrap64 (x3 - 1)) < (a0_0.length : Int) then (if (Op.bytesLess (rdOf ByteArray.empty a0_0 (wrap64 (x3 - 1))).toList (rdOf ByteArray.empty a0_0 x3).toList) = true then (spec_l2StuffsOk.l0 k a0_0 a0_1 (wrap64 (x3 + 1))) else (some false)) else none) else none) else (spec_l2StuffsOk.l0 k a0_0 a0_1 (wrap64 (x3 + 1)))) else (some false))) else none) else (spec_l2StuffsOk.l1 k a0_0 a0_1 0))
def spec_l2StuffsOk.f (k : Nat) (a0_0 : List ByteArray) (a0_1 : List S_impl_PlantFoe) (a0_2 : List S_impl_PlantPlace) (a0_3 : List S_impl_PlantValve) : Option (Bool) := (if (a0_0.length : Int) > 8 then (some false) else (if (a0_1.length : Int) > 12 then (some false) else (spec_l2StuffsOk.l0 k a0_0 a0_1 0)))
def spec_l2PlacesOk.l0 : Nat → List S_impl_PlantPlace → Int → Option (Bool)
  | 0, _, _ => none
  | k + 1, a0_2, x3 => (if x3 < (a0_2.length : Int) then (if 0 ≤ x3 then ((spec_l2NameOk.f k ((rd_impl_PlantPlace a0_2 x3).f0)).bind fun t282 => (if t282 = true then (if x3 > 0 then (if 0 ≤ (wrap64 (x3 - 1)) then (if (wrap64 (x3 - 1)) < (a0_2.length : Int) then (if (Op.bytesLess ((rd_impl_PlantPlace a0_2 (wrap64 (x3 - 1))).f0).toList ((rd_impl_PlantPlace a0_2 x3).f0).toList) = true then ((spec_l1In.f ((rd_impl_PlantPlace a0_2 x3).f1) 0 1000).bind fun t283 => (if t283 = true then ((spec_l2NameOk.f k ((rd_impl_PlantPlace a0_2 x3).f2)).bind fun t284 => (if t284 = true then (spec_l2PlacesOk.l0 k a0_2 (wrap64 (x3 + 1))) else (some false))) else (some false))) else (some false)) else none) else none) else ((spec_l1In.f ((rd_impl_PlantPlace a0_2 x3).f1) 0 1000).bind fun t285 => (if t285 = true then ((spec_l2NameOk.f k ((rd_impl_PlantPlace a0_2 x3).f2)).bind fun t286 => (if t286 = true then (spec_l2PlacesOk.l0 k a0_2 (wrap64 (x3 + 1))) else (some false))) else (some false)))) else (some false))) else none) else (some true))
def spec_l2PlacesOk.f (k : Nat) (a0_0 : List ByteArray) (a0_1 : List S_impl_PlantFoe) (a0_2 : List S_impl_PlantPlace) (a0_3 : List S_impl_PlantValve) : Option (Bool) := (if (a0_2.length : Int) > 14 then (some false) else (spec_l2PlacesOk.l0 k a0_2 0))
def spec_l2Place.l0 : Nat → List S_impl_PlantPlace → ByteArray → Int → Option (Int)
  | 0, _, _, _ => none
  | k + 1, a0_2, a1, x5 => (if x5 < (a0_2.length : Int) then (if 0 ≤ x5 then (if ((rd_impl_PlantPlace a0_2 x5).f0).toList = a1.toList then (some x5) else (spec_l2Place.l0 k a0_2 a1 (wrap64 (x5 + 1)))) else none) else (some (-1)))
def spec_l2Place.f (k : Nat) (a0_0 : List ByteArray) (a0_1 : List S_impl_PlantFoe) (a0_2 : List S_impl_PlantPlace) (a0_3 : List S_impl_PlantValve) (a1 : ByteArray) : Option (Int) := (spec_l2Place.l0 k a0_2 a1 0)
def spec_l2ValvesOk.l0 : Nat → List ByteArray → List S_impl_PlantFoe → List S_impl_PlantPlace → List S_impl_PlantValve → Int → Option (Bool)
  | 0, _, _, _, _, _ => none
  | k + 1, a0_0, a0_1, a0_2, a0_3, x3 => (if x3 < (a0_3.length : Int) then (if 0 ≤ x3 then ((spec_l2NameOk.f k ((rd_impl_PlantValve a0_3 x3).f0)).bind fun t325 => (if t325 = true then (if x3 > 0 then (if 0 ≤ (wrap64 (x3 - 1)) then (if (wrap64 (x3 - 1)) < (a0_3.length : Int) then (if (Op.bytesLess ((rd_impl_PlantValve a0_3 (wrap64 (x3 - 1))).f0).toList ((rd_impl_PlantValve a0_3 x3).f0).toList) = true then (if (Op.bytesLess ((rd_impl_PlantValve a0_3 x3).f1).toList ((rd_impl_PlantValve a0_3 x3).f2).toList) = true then ((spec_l2Place.f k a0_0 a0_1 a0_2 a0_3 ((rd_impl_PlantValve a0_3 x3).f1)).bind fun t326 => (if t326 < 0 then (some false) else ((spec_l2Place.f k a0_0 a0_1 a0_2 a0_3 ((rd_impl_PlantValve a0_3 x3).f2)).bind fun t327 => (if t327 < 0 then (some false) else ((spec_l2NameOk.f k ((rd_impl_PlantValve a0_3 x3).f3)).bind fun t328 => (if t328 = true then (spec_l2ValvesOk.l0 k a0_0 a0_1 a0_2 a0_3 (wrap64 (x3 + 1))) else (some false))))))) else (some false)) else (some false)) else none) else none) else (if (Op.bytesLess ((rd_impl_PlantValve a0_3 x3).f1).toList ((rd_impl_PlantValve a0_3 x3).f2).toList) = true then ((spec_l2Place.f k a0_0 a0_1 a0_2 a0_3 ((rd_impl_PlantValve a0_3 x3).f1)).bind fun t329 => (if t329 < 0 then (some false) else ((spec_l2Place.f k a0_0 a0_1 a0_2 a0_3 ((rd_impl_PlantValve a0_3 x3).f2)).bind fun t330 => (if t330 < 0 then (some false) else ((spec_l2NameOk.f k ((rd_impl_PlantValve a0_3 x3).f3)).bind fun t331 => (if t331 = true then (spec_l2ValvesOk.l0 k a0_0 a0_1 a0_2 a0_3 (wrap64 (x3 + 1))) else (some false))))))) else (some false))) else (some false))) else none) else (some true))
def spec_l2ValvesOk.f (k : Nat) (a0_0 : List ByteArray) (a0_1 : List S_impl_PlantFoe) (a0_2 : List S_impl_PlantPlace) (a0_3 : List S_impl_PlantValve) : Option (Bool) := (if (a0_3.length : Int) > 18 then (some false) else (spec_l2ValvesOk.l0 k a0_0 a0_1 a0_2 a0_3 0))
def spec_PlantValid.f (k : Nat) (a0_0 : List ByteArray) (a0_1 : List S_impl_PlantFoe) (a0_2 : List S_impl_PlantPlace) (a0_3 : List S_impl_PlantValve) : Option (Bool) := ((spec_l2StuffsOk.f k a0_0 a0_1 a0_2 a0_3).bind fun t335 => (if t335 = true then ((spec_l2PlacesOk.f k a0_0 a0_1 a0_2 a0_3).bind fun t336 => (if t336 = true then ((spec_l2ValvesOk.f k a0_0 a0_1 a0_2 a0_3).bind fun t337 => (some t337)) else (some false))) else (some false)))
def spec_l4Insert.l0 : Nat → List ByteArray → ByteArray → Int → Option (List ByteArray)
  | 0, _, _, _ => none
  | k + 1, l0, a1, x5 => (if x5 < (l0.length : Int) then (if 0 ≤ x5 then (if (Op.bytesLess (rdOf ByteArray.empty l0 x5).toList a1.toList) = true then (spec_l4Insert.l0 k l0 a1 (wrap64 (x5 + 1))) else (if (rdOf ByteArray.empty l0 x5).toList = a1.toList then (some l0) else (if x5 ≤ (l0.length : Int) then (if (0 + (x5).toNat) * 16 ≤ 140737488355328 then (if (0 + (x5).toNat + 1) * 16 ≤ 140737488355328 then (if (0 + (x5).toNat + 1 + (l0.length - (x5).toNat)) * 16 ≤ 140737488355328 then (some (((([] : List ByteArray) ++ (l0.take (x5).toNat)) ++ ([a1] : List ByteArray)) ++ (l0.drop (x5).toNat))) else none) else none) else none) else none))) else none) else (if 0 ≤ x5 then (if x5 ≤ (l0.length : Int) then (if (0 + (x5).toNat) * 16 ≤ 140737488355328 then (if (0 + (x5).toNat + 1) * 16 ≤ 140737488355328 then (if (0 + (x5).toNat + 1 + (l0.length - (x5).toNat)) * 16 ≤ 140737488355328 then (some (((([] : List ByteArray) ++ (l0.take (x5).toNat)) ++ ([a1] : List ByteArray)) ++ (l0.drop (x5).toNat))) else none) else none) else none) else none) else none))
def spec_l4Insert.f (k : Nat) (l0 : List ByteArray) (a1 : ByteArray) : Option (List ByteArray) := (spec_l4Insert.l0 k l0 a1 0)
def spec_CtlStations.l1 : Nat → List S_impl_PlantValve → List ByteArray → Int → Option (List ByteArray)
  | 0, _, _, _ => none
  | k + 1, a0_3, x3_1, x5 => (if x5 < (a0_3.length : Int) then (if 0 ≤ x5 then ((spec_l4Insert.f k x3_1 ((rd_impl_PlantValve a0_3 x5).f3)).bind fun t379 => (spec_CtlStations.l1 k a0_3 t379 (wrap64 (x5 + 1)))) else none) else (some x3_1))
def spec_CtlStations.l0 : Nat → List S_impl_PlantPlace → List S_impl_PlantValve → List ByteArray → Int → Option (List ByteArray)
  | 0, _, _, _, _ => none
  | k + 1, a0_2, a0_3, x3, x4 => (if x4 < (a0_2.length : Int) then (if 0 ≤ x4 then ((spec_l4Insert.f k x3 ((rd_impl_PlantPlace a0_2 x4).f2)).bind fun t376 => (spec_CtlStations.l0 k a0_2 a0_3 t376 (wrap64 (x4 + 1)))) else none) else (spec_CtlStations.l1 k a0_3 x3 0))
def spec_CtlStations.f (k : Nat) (a0_0 : List ByteArray) (a0_1 : List S_impl_PlantFoe) (a0_2 : List S_impl_PlantPlace) (a0_3 : List S_impl_PlantValve) : Option (List ByteArray) := ((spec_PlantValid.f k a0_0 a0_1 a0_2 a0_3).bind fun t373 => (if t373 = true then (spec_CtlStations.l0 k a0_2 a0_3 ([] : List ByteArray) 0) else (some ([] : List ByteArray))))
def spec_l21In.f (a0 : Int) (a1 : Int) (a2 : Int) : Option (Bool) := (if a0 ≥ a1 then (some (decide (a0 ≤ a2))) else (some false))
def spec_l21NameOk.l0 : Nat → ByteArray → Int → Option (Bool)
  | 0, _, _ => none
  | k + 1, a0, x3 => (if x3 < (a0.size : Int) then (if 0 ≤ x3 then (if (bt a0 x3) ≥ 97 then (if (bt a0 x3) ≤ 122 then (spec_l21NameOk.l0 k a0 (wrap64 (x3 + 1))) else (if (bt a0 x3) ≥ 48 then (if (bt a0 x3) ≤ 57 then (spec_l21NameOk.l0 k a0 (wrap64 (x3 + 1))) else (if (bt a0 x3) = 45 then (spec_l21NameOk.l0 k a0 (wrap64 (x3 + 1))) else (some false))) else (if (bt a0 x3) = 45 then (spec_l21NameOk.l0 k a0 (wrap64 (x3 + 1))) else (some false)))) else (if (bt a0 x3) ≥ 48 then (if (bt a0 x3) ≤ 57 then (spec_l21NameOk.l0 k a0 (wrap64 (x3 + 1))) else (if (bt a0 x3) = 45 then (spec_l21NameOk.l0 k a0 (wrap64 (x3 + 1))) else (some false))) else (if (bt a0 x3) = 45 then (spec_l21NameOk.l0 k a0 (wrap64 (x3 + 1))) else (some false)))) else none) else (some true))
def spec_l21NameOk.f (k : Nat) (a0 : ByteArray) : Option (Bool) := ((spec_l21In.f (a0.size : Int) 1 8).bind fun t458 => (if t458 = true then (spec_l21NameOk.l0 k a0 0) else (some false)))
def spec_l21UsesOk.l0 : Nat → Int → List S_impl_ClaimUse → Int → Option (Bool)
  | 0, _, _, _ => none
  | k + 1, a0_1, a0_3, x3 => (if x3 < (a0_3.length : Int) then (if 0 ≤ x3 then ((spec_l21NameOk.f k ((rd_impl_ClaimUse a0_3 x3).f0)).bind fun t477 => (if t477 = true then (if x3 > 0 then (if 0 ≤ (wrap64 (x3 - 1)) then (if (wrap64 (x3 - 1)) < (a0_3.length : Int) then (if (Op.bytesLess ((rd_impl_ClaimUse a0_3 (wrap64 (x3 - 1))).f0).toList ((rd_impl_ClaimUse a0_3 x3).f0).toList) = true then ((spec_l21In.f ((rd_impl_ClaimUse a0_3 x3).f1) 1 3).bind fun t478 => (if t478 = true then (if ((rd_impl_ClaimUse a0_3 x3).f1) = 3 then (if ((rd_impl_ClaimUse a0_3 x3).f2) = 0 then (spec_l21UsesOk.l0 k a0_1 a0_3 (wrap64 (x3 + 1))) else (some false)) else (if a0_1 = 1 then ((spec_l21In.f ((rd_impl_ClaimUse a0_3 x3).f2) 1 1000).bind fun t479 => (if t479 = true then (spec_l21UsesOk.l0 k a0_1 a0_3 (wrap64 (x3 + 1))) else (some false))) else (some false))) else (some false))) else (some false)) else none) else none) else ((spec_l21In.f ((rd_impl_ClaimUse a0_3 x3).f1) 1 3).bind fun t480 => (if t480 = true then (if ((rd_impl_ClaimUse a0_3 x3).f1) = 3 then (if ((rd_impl_ClaimUse a0_3 x3).f2) = 0 then (spec_l21UsesOk.l0 k a0_1 a0_3 (wrap64 (x3 + 1))) else (some false)) else (if a0_1 = 1 then ((spec_l21In.f ((rd_impl_ClaimUse a0_3 x3).f2) 1 1000).bind fun t481 => (if t481 = true then (spec_l21UsesOk.l0 k a0_1 a0_3 (wrap64 (x3 + 1))) else (some false))) else (some false))) else (some false)))) else (some false))) else none) else (some true))
def spec_l21UsesOk.f (k : Nat) (a0_0 : Int) (a0_1 : Int) (a0_2 : List ByteArray) (a0_3 : List S_impl_ClaimUse) (a0_4 : List ByteArray) (a0_5 : List ByteArray) : Option (Bool) := (if (a0_3.length : Int) > 8 then (some false) else (spec_l21UsesOk.l0 k a0_1 a0_3 0))
def spec_l21NamesOk.l0 : Nat → List ByteArray → Int → Option (Bool)
  | 0, _, _ => none
  | k + 1, l0, x5 => (if x5 < (l0.length : Int) then (if 0 ≤ x5 then ((spec_l21NameOk.f k (rdOf ByteArray.empty l0 x5)).bind fun t506 => (if t506 = true then (if x5 > 0 then (if 0 ≤ (wrap64 (x5 - 1)) then (if (wrap64 (x5 - 1)) < (l0.length : Int) then (if (Op.bytesLess (rdOf ByteArray.empty l0 (wrap64 (x5 - 1))).toList (rdOf ByteArray.empty l0 x5).toList) = true then (spec_l21NamesOk.l0 k l0 (wrap64 (x5 + 1))) else (some false)) else none) else none) else (spec_l21NamesOk.l0 k l0 (wrap64 (x5 + 1)))) else (some false))) else none) else (some true))
def spec_l21NamesOk.f (k : Nat) (l0 : List ByteArray) (a1 : Int) : Option (Bool) := (if (l0.length : Int) > a1 then (some false) else (spec_l21NamesOk.l0 k l0 0))
def spec_l21Has.l0 : Nat → List ByteArray → ByteArray → Int → Option (Bool)
  | 0, _, _, _ => none
  | k + 1, l0, a1, x5 => (if x5 < (l0.length : Int) then (if 0 ≤ x5 then (if (rdOf ByteArray.empty l0 x5).toList = a1.toList then (some true) else (spec_l21Has.l0 k l0 a1 (wrap64 (x5 + 1)))) else none) else (some false))
def spec_l21Has.f (k : Nat) (l0 : List ByteArray) (a1 : ByteArray) : Option (Bool) := (spec_l21Has.l0 k l0 a1 0)
def spec_l21Share.l0 : Nat → List ByteArray → List ByteArray → Int → Option (Bool)
  | 0, _, _, _ => none
  | k + 1, l0, l1, x5 => (if x5 < (l0.length : Int) then (if 0 ≤ x5 then ((spec_l21Has.f k l1 (rdOf ByteArray.empty l0 x5)).bind fun t556 => (if t556 = true then (some true) else (spec_l21Share.l0 k l0 l1 (wrap64 (x5 + 1))))) else none) else (some false))
def spec_l21Share.f (k : Nat) (l0 : List ByteArray) (l1 : List ByteArray) : Option (Bool) := (spec_l21Share.l0 k l0 l1 0)
def spec_ClaimWantOk.f (k : Nat) (a0_0 : Int) (a0_1 : Int) (a0_2 : List ByteArray) (a0_3 : List S_impl_ClaimUse) (a0_4 : List ByteArray) (a0_5 : List ByteArray) : Option (Bool) := ((spec_l21In.f a0_0 1 1000000).bind fun t573 => (if t573 = true then ((spec_l21In.f a0_1 1 3).bind fun t574 => (if t574 = true then ((spec_l21UsesOk.f k a0_0 a0_1 a0_2 a0_3 a0_4 a0_5).bind fun t575 => (if t575 = true then ((spec_l21NamesOk.f k a0_4 12).bind fun t576 => (if t576 = true then ((spec_l21NamesOk.f k a0_5 12).bind fun t577 => (if t577 = true then ((spec_l21Share.f k a0_4 a0_5).bind fun t578 => (if t578 = true then (some false) else (if (wrap64 ((wrap64 ((a0_3.length : Int) + (a0_4.length : Int))) + (a0_5.length : Int))) = 0 then (some false) else (if a0_1 = 1 then ((spec_l21NamesOk.f k a0_2 8).bind fun t579 => (if t579 = true then (some ((decide (a0_1 = 1)) == (decide ((a0_2.length : Int) > 0)))) else (some false))) else (if (a0_4.length : Int) > 0 then (some false) else ((spec_l21NamesOk.f k a0_2 8).bind fun t580 => (if t580 = true then (some ((decide (a0_1 = 1)) == (decide ((a0_2.length : Int) > 0)))) else (some false)))))))) else (some false))) else (some false))) else (some false))) else (some false))) else (some false)))
def spec_l32NoWant.f (a0_0 : Int) (a0_1 : Int) (a0_2 : List ByteArray) (a0_3 : List S_impl_ClaimUse) (a0_4 : List ByteArray) (a0_5 : List ByteArray) : Option (Bool) := (if a0_0 = 0 then (if a0_1 = 0 then (some (decide ((wrap64 ((wrap64 ((wrap64 ((a0_2.length : Int) + (a0_3.length : Int))) + (a0_4.length : Int))) + (a0_5.length : Int))) = 0))) else (some false)) else (some false))
def spec_CtlWordOk.j0 : Nat → Int → Int → Int → Int → List ByteArray → List S_impl_ClaimUse → List ByteArray → List ByteArray → Int → Bool → Option (Bool)
  | 0, _, _, _, _, _, _, _, _, _, _ => none
  | k + 1, a1_0, a1_2, a1_3, a1_4, a1_5, a1_6, a1_7, a1_8, a1_9, a1_10 => (if a1_0 = 6 then ((spec_l1In.f a1_9 0 1000).bind fun t659 => (if t659 = true then (if a1_10 = true then (if a1_0 = 7 then (if a1_0 = 1 then ((spec_ClaimWantOk.f k a1_3 a1_4 a1_5 a1_6 a1_7 a1_8).bind fun t660 => (if t660 = true then (some (decide (a1_3 = a1_2))) else (some false))) else ((spec_l32NoWant.f a1_3 a1_4 a1_5 a1_6 a1_7 a1_8).bind fun t661 => (some t661))) else (some false)) else (if a1_0 = 1 then ((spec_ClaimWantOk.f k a1_3 a1_4 a1_5 a1_6 a1_7 a1_8).bind fun t662 => (if t662 = true then (some (decide (a1_3 = a1_2))) else (some false))) else ((spec_l32NoWant.f a1_3 a1_4 a1_5 a1_6 a1_7 a1_8).bind fun t663 => (some t663)))) else (some false))) else (if a1_0 = 7 then ((spec_l1In.f a1_9 0 1000).bind fun t664 => (if t664 = true then (if a1_10 = true then (if a1_0 = 1 then ((spec_ClaimWantOk.f k a1_3 a1_4 a1_5 a1_6 a1_7 a1_8).bind fun t665 => (if t665 = true then (some (decide (a1_3 = a1_2))) else (some false))) else ((spec_l32NoWant.f a1_3 a1_4 a1_5 a1_6 a1_7 a1_8).bind fun t666 => (some t666))) else (if a1_0 = 1 then ((spec_ClaimWantOk.f k a1_3 a1_4 a1_5 a1_6 a1_7 a1_8).bind fun t667 => (if t667 = true then (some (decide (a1_3 = a1_2))) else (some false))) else ((spec_l32NoWant.f a1_3 a1_4 a1_5 a1_6 a1_7 a1_8).bind fun t668 => (some t668)))) else (some false))) else (if a1_9 = 0 then ((spec_l1In.f a1_9 0 1000).bind fun t669 => (if t669 = true then (if a1_10 = true then (some false) else (if a1_0 = 1 then ((spec_ClaimWantOk.f k a1_3 a1_4 a1_5 a1_6 a1_7 a1_8).bind fun t670 => (if t670 = true then (some (decide (a1_3 = a1_2))) else (some false))) else ((spec_l32NoWant.f a1_3 a1_4 a1_5 a1_6 a1_7 a1_8).bind fun t671 => (some t671)))) else (some false))) else (some false))))
def spec_CtlWordOk.f (k : Nat) (a0_0 : List ByteArray) (a0_1 : List S_impl_PlantFoe) (a0_2 : List S_impl_PlantPlace) (a0_3 : List S_impl_PlantValve) (a1_0 : Int) (a1_1 : ByteArray) (a1_2 : Int) (a1_3 : Int) (a1_4 : Int) (a1_5 : List ByteArray) (a1_6 : List S_impl_ClaimUse) (a1_7 : List ByteArray) (a1_8 : List ByteArray) (a1_9 : Int) (a1_10 : Bool) : Option (Bool) := ((spec_PlantValid.f k a0_0 a0_1 a0_2 a0_3).bind fun t654 => (if t654 = true then ((spec_l1In.f a1_0 1 10).bind fun t655 => (if t655 = true then ((spec_l1In.f a1_2 1 1000000).bind fun t656 => (if t656 = true then ((spec_CtlStations.f k a0_0 a0_1 a0_2 a0_3).bind fun t672 => ((spec_l2Has.f k t672 a1_1).bind fun t673 => (if ((decide (a1_0 < 9)) != t673) = true then (some false) else (if a1_0 ≥ 9 then (if a1_1.toList = (⟨#[]⟩ : ByteArray).toList then (spec_CtlWordOk.j0 k a1_0 a1_2 a1_3 a1_4 a1_5 a1_6 a1_7 a1_8 a1_9 a1_10) else (some false)) else (spec_CtlWordOk.j0 k a1_0 a1_2 a1_3 a1_4 a1_5 a1_6 a1_7 a1_8 a1_9 a1_10))))) else (some false))) else (some false))) else (some false)))
def impl_isName.l0 : Nat → ByteArray → Int → Option (Bool)
  | 0, _, _ => none
  | k + 1, a0, x7 => (if x7 < (a0.size : Int) then (if 0 ≤ x7 then (if (bt a0 x7) < 97 then (if (bt a0 x7) < 48 then (if (bt a0 x7) = 45 then (impl_isName.l0 k a0 (wrap64 (x7 + 1))) else (some false)) else (if (bt a0 x7) > 57 then (if (bt a0 x7) = 45 then (impl_isName.l0 k a0 (wrap64 (x7 + 1))) else (some false)) else (impl_isName.l0 k a0 (wrap64 (x7 + 1))))) else (if (bt a0 x7) > 122 then (if (bt a0 x7) < 48 then (if (bt a0 x7) = 45 then (impl_isName.l0 k a0 (wrap64 (x7 + 1))) else (some false)) else (if (bt a0 x7) > 57 then (if (bt a0 x7) = 45 then (impl_isName.l0 k a0 (wrap64 (x7 + 1))) else (some false)) else (impl_isName.l0 k a0 (wrap64 (x7 + 1))))) else (impl_isName.l0 k a0 (wrap64 (x7 + 1))))) else none) else (if (a0.size : Int) ≥ 1 then (some (decide ((a0.size : Int) ≤ 8))) else (some false)))
def impl_isName.f (k : Nat) (a0 : ByteArray) : Option (Bool) := (impl_isName.l0 k a0 0)
def impl_rising.l0 : Nat → List ByteArray → Int → Option (Bool)
  | 0, _, _ => none
  | k + 1, l0, x3 => (if x3 < (l0.length : Int) then (if 0 ≤ (wrap64 (x3 - 1)) then (if (wrap64 (x3 - 1)) < (l0.length : Int) then (if 0 ≤ x3 then (if (Op.bytesLess (rdOf ByteArray.empty l0 (wrap64 (x3 - 1))).toList (rdOf ByteArray.empty l0 x3).toList) = true then (impl_rising.l0 k l0 (wrap64 (x3 + 1))) else (some false)) else none) else none) else none) else (some true))
def impl_rising.f (k : Nat) (l0 : List ByteArray) : Option (Bool) := (impl_rising.l0 k l0 1)
def impl_names.l0 : Nat → List ByteArray → Int → Option (Bool)
  | 0, _, _ => none
  | k + 1, l0, x7 => (if x7 < (l0.length : Int) then (if 0 ≤ x7 then ((impl_isName.f k (rdOf ByteArray.empty l0 x7)).bind fun t751 => (if t751 = true then (impl_names.l0 k l0 (wrap64 (x7 + 1))) else (some false))) else none) else ((impl_rising.f k l0).bind fun t753 => (some t753)))
def impl_names.f (k : Nat) (l0 : List ByteArray) : Option (Bool) := (impl_names.l0 k l0 0)
def impl_Plant_pairs.l0 : Nat → List S_impl_PlantFoe → List S_A2_string → Int → Option (List S_A2_string)
  | 0, _, _, _ => none
  | k + 1, a0_1, x2, x8 => (if x8 < (a0_1.length : Int) then (if 0 ≤ x8 then (if (x2.length + 1) * 32 ≤ 140737488355328 then (impl_Plant_pairs.l0 k a0_1 (x2 ++ ([(⟨(rd_impl_PlantFoe a0_1 x8).f0, (rd_impl_PlantFoe a0_1 x8).f1⟩ : S_A2_string)] : List S_A2_string)) (wrap64 (x8 + 1))) else none) else none) else (some x2))
def impl_Plant_pairs.f (k : Nat) (a0_0 : List ByteArray) (a0_1 : List S_impl_PlantFoe) (a0_2 : List S_impl_PlantPlace) (a0_3 : List S_impl_PlantValve) : Option (List S_A2_string) := (impl_Plant_pairs.l0 k a0_1 [] 0)
def impl_foesOk.l0 : Nat → List S_A2_string → Int → Int → Option (Bool)
  | 0, _, _, _ => none
  | k + 1, l0, a1, x9 => (if x9 < (l0.length : Int) then (if 0 ≤ x9 then ((impl_isName.f k ((rd_A2_string l0 x9).f0)).bind fun t793 => (if t793 = true then ((impl_isName.f k ((rd_A2_string l0 x9).f1)).bind fun t794 => (if t794 = true then (if (Op.bytesLess ((rd_A2_string l0 x9).f0).toList ((rd_A2_string l0 x9).f1).toList) = true then (if x9 > 0 then (if 0 ≤ (wrap64 (x9 - 1)) then (if (wrap64 (x9 - 1)) < (l0.length : Int) then (if (Op.bytesLess ((rd_A2_string l0 x9).f0).toList ((rd_A2_string l0 (wrap64 (x9 - 1))).f0).toList) = true then (some false) else (if ((rd_A2_string l0 (wrap64 (x9 - 1))).f0).toList = ((rd_A2_string l0 x9).f0).toList then (if (Op.bytesLess ((rd_A2_string l0 (wrap64 (x9 - 1))).f1).toList ((rd_A2_string l0 x9).f1).toList) = true then (impl_foesOk.l0 k l0 a1 (wrap64 (x9 + 1))) else (some false)) else (impl_foesOk.l0 k l0 a1 (wrap64 (x9 + 1))))) else none) else none) else (impl_foesOk.l0 k l0 a1 (wrap64 (x9 + 1)))) else (some false)) else (some false))) else (some false))) else none) else (some (decide ((l0.length : Int) ≤ a1))))
def impl_foesOk.f (k : Nat) (l0 : List S_A2_string) (a1 : Int) : Option (Bool) := (impl_foesOk.l0 k l0 a1 0)
def slices_Index_string_string.l0 : Nat → List ByteArray → ByteArray → Int → Option (Int)
  | 0, _, _, _ => none
  | k + 1, l0, a1, x8 => (if x8 < (l0.length : Int) then (if 0 ≤ x8 then (if a1.toList = (rdOf ByteArray.empty l0 x8).toList then (some x8) else (slices_Index_string_string.l0 k l0 a1 (wrap64 (x8 + 1)))) else none) else (some (-1)))
def slices_Index_string_string.f (k : Nat) (l0 : List ByteArray) (a1 : ByteArray) : Option (Int) := (slices_Index_string_string.l0 k l0 a1 0)
def slices_Contains_string_string.f (k : Nat) (l0 : List ByteArray) (a1 : ByteArray) : Option (Bool) := ((slices_Index_string_string.f k l0 a1).bind fun t865 => (some (decide (t865 ≥ 0))))
def impl_has.f (k : Nat) (l0 : List ByteArray) (a1 : ByteArray) : Option (Bool) := ((slices_Contains_string_string.f k l0 a1).bind fun t867 => (some t867))
def impl_Plant_place.l0 : Nat → List S_impl_PlantPlace → ByteArray → Int → Option (ByteArray × Int × ByteArray × Bool)
  | 0, _, _, _ => none
  | k + 1, a0_2, a1, x11 => (if x11 < (a0_2.length : Int) then (if 0 ≤ x11 then (if ((rd_impl_PlantPlace a0_2 x11).f0).toList = a1.toList then (some ((rd_impl_PlantPlace a0_2 x11).f0, (rd_impl_PlantPlace a0_2 x11).f1, (rd_impl_PlantPlace a0_2 x11).f2, true)) else (impl_Plant_place.l0 k a0_2 a1 (wrap64 (x11 + 1)))) else none) else (some ((⟨#[]⟩ : ByteArray), 0, (⟨#[]⟩ : ByteArray), false)))
def impl_Plant_place.f (k : Nat) (a0_0 : List ByteArray) (a0_1 : List S_impl_PlantFoe) (a0_2 : List S_impl_PlantPlace) (a0_3 : List S_impl_PlantValve) (a1 : ByteArray) : Option (ByteArray × Int × ByteArray × Bool) := (impl_Plant_place.l0 k a0_2 a1 0)
mutual
def impl_PlantValid.j0 : Nat → List ByteArray → List S_impl_PlantFoe → List S_impl_PlantPlace → List S_impl_PlantValve → Int → Bool → Option (Bool)
  | 0, _, _, _, _, _, _ => none
  | k + 1, a0_0, a0_1, a0_2, a0_3, x111, x170 => (if x170 = true then (some false) else (impl_PlantValid.l2 k a0_0 a0_1 a0_2 a0_3 (wrap64 (x111 + 1))))
def impl_PlantValid.l2 : Nat → List ByteArray → List S_impl_PlantFoe → List S_impl_PlantPlace → List S_impl_PlantValve → Int → Option (Bool)
  | 0, _, _, _, _, _ => none
  | k + 1, a0_0, a0_1, a0_2, a0_3, x111 => (if x111 < (a0_3.length : Int) then (if 0 ≤ x111 then ((impl_Plant_place.f k a0_0 a0_1 a0_2 a0_3 ((rd_impl_PlantValve a0_3 x111).f1)).bind fun t948 => ((impl_Plant_place.f k a0_0 a0_1 a0_2 a0_3 ((rd_impl_PlantValve a0_3 x111).f2)).bind fun t949 => ((impl_isName.f k ((rd_impl_PlantValve a0_3 x111).f0)).bind fun t952 => (if t952 = true then (if t948.2.2.2 = true then (if t949.2.2.2 = true then (if (Op.bytesLess ((rd_impl_PlantValve a0_3 x111).f1).toList ((rd_impl_PlantValve a0_3 x111).f2).toList) = true then ((impl_isName.f k ((rd_impl_PlantValve a0_3 x111).f3)).bind fun t953 => (if t953 = true then (if x111 > 0 then (if 0 ≤ (wrap64 (x111 - 1)) then (if (wrap64 (x111 - 1)) < (a0_3.length : Int) then (impl_PlantValid.j0 k a0_0 a0_1 a0_2 a0_3 x111 (!(Op.bytesLess ((rd_impl_PlantValve a0_3 (wrap64 (x111 - 1))).f0).toList ((rd_impl_PlantValve a0_3 x111).f0).toList))) else none) else none) else (impl_PlantValid.j0 k a0_0 a0_1 a0_2 a0_3 x111 false)) else (impl_PlantValid.j0 k a0_0 a0_1 a0_2 a0_3 x111 true))) else (impl_PlantValid.j0 k a0_0 a0_1 a0_2 a0_3 x111 true)) else (impl_PlantValid.j0 k a0_0 a0_1 a0_2 a0_3 x111 true)) else (impl_PlantValid.j0 k a0_0 a0_1 a0_2 a0_3 x111 true)) else (impl_PlantValid.j0 k a0_0 a0_1 a0_2 a0_3 x111 true))))) else none) else (some true))
end
def impl_PlantValid.l1 : Nat → List ByteArray → List S_impl_PlantFoe → List S_impl_PlantPlace → List S_impl_PlantValve → Int → Option (Bool)
  | 0, _, _, _, _, _ => none
  | k + 1, a0_0, a0_1, a0_2, a0_3, x66 => (if x66 < (a0_2.length : Int) then (if 0 ≤ x66 then ((impl_isName.f k ((rd_impl_PlantPlace a0_2 x66).f0)).bind fun t930 => (if t930 = true then (if ((rd_impl_PlantPlace a0_2 x66).f1) < 0 then (some false) else (if ((rd_impl_PlantPlace a0_2 x66).f1) > 1000 then (some false) else ((impl_isName.f k ((rd_impl_PlantPlace a0_2 x66).f2)).bind fun t931 => (if t931 = true then (if x66 > 0 then (if 0 ≤ (wrap64 (x66 - 1)) then (if (wrap64 (x66 - 1)) < (a0_2.length : Int) then (if (Op.bytesLess ((rd_impl_PlantPlace a0_2 (wrap64 (x66 - 1))).f0).toList ((rd_impl_PlantPlace a0_2 x66).f0).toList) = true then (impl_PlantValid.l1 k a0_0 a0_1 a0_2 a0_3 (wrap64 (x66 + 1))) else (some false)) else none) else none) else (impl_PlantValid.l1 k a0_0 a0_1 a0_2 a0_3 (wrap64 (x66 + 1)))) else (some false))))) else (some false))) else none) else (impl_PlantValid.l2 k a0_0 a0_1 a0_2 a0_3 0))
def impl_PlantValid.l0 : Nat → List ByteArray → List S_impl_PlantFoe → List S_impl_PlantPlace → List S_impl_PlantValve → Int → Option (Bool)
  | 0, _, _, _, _, _ => none
  | k + 1, a0_0, a0_1, a0_2, a0_3, x44 => (if x44 < (a0_1.length : Int) then (if 0 ≤ x44 then ((impl_has.f k a0_0 ((rd_impl_PlantFoe a0_1 x44).f0)).bind fun t922 => (if t922 = true then ((impl_has.f k a0_0 ((rd_impl_PlantFoe a0_1 x44).f1)).bind fun t923 => (if t923 = true then (impl_PlantValid.l0 k a0_0 a0_1 a0_2 a0_3 (wrap64 (x44 + 1))) else (some false))) else (some false))) else none) else (impl_PlantValid.l1 k a0_0 a0_1 a0_2 a0_3 0))
def impl_PlantValid.f (k : Nat) (a0_0 : List ByteArray) (a0_1 : List S_impl_PlantFoe) (a0_2 : List S_impl_PlantPlace) (a0_3 : List S_impl_PlantValve) : Option (Bool) := (if (a0_0.length : Int) > 8 then (some false) else ((impl_names.f k a0_0).bind fun t913 => (if t913 = true then ((impl_Plant_pairs.f k a0_0 a0_1 a0_2 a0_3).bind fun t914 => ((impl_foesOk.f k t914 12).bind fun t915 => (if t915 = true then (if (a0_2.length : Int) > 14 then (some false) else (if (a0_3.length : Int) > 18 then (some false) else (impl_PlantValid.l0 k a0_0 a0_1 a0_2 a0_3 0))) else (some false)))) else (some false))))
def sort_Strings.f (l0 : List ByteArray) : Option (List ByteArray) := sortSf l0
def impl_with.l0 : Nat → List ByteArray → List ByteArray → List ByteArray → Int → Option (List ByteArray)
  | 0, _, _, _, _ => none
  | k + 1, l0, l1, x5, x12 => (if x12 < (l1.length : Int) then (if 0 ≤ x12 then ((impl_has.f k x5 (rdOf ByteArray.empty l1 x12)).bind fun t1002 => (if t1002 = true then (impl_with.l0 k l0 l1 x5 (wrap64 (x12 + 1))) else (if (x5.length + 1) * 16 ≤ 140737488355328 then (impl_with.l0 k l0 l1 (x5 ++ ([rdOf ByteArray.empty l1 x12] : List ByteArray)) (wrap64 (x12 + 1))) else none))) else none) else ((sort_Strings.f x5).bind fun t1004 => (some t1004)))
def impl_with.f (k : Nat) (l0 : List ByteArray) (l1 : List ByteArray) : Option (List ByteArray) := (if l0.length * 16 ≤ 140737488355328 then (impl_with.l0 k l0 l1 l0 0) else none)
def impl_stations.l1 : Nat → List S_impl_PlantValve → List ByteArray → Int → Option (List ByteArray)
  | 0, _, _, _ => none
  | k + 1, a0_3, x3_1, x24 => (if x24 < (a0_3.length : Int) then (if 0 ≤ x24 then ((impl_with.f k x3_1 ([(rd_impl_PlantValve a0_3 x24).f3] : List ByteArray)).bind fun t1068 => (impl_stations.l1 k a0_3 t1068 (wrap64 (x24 + 1)))) else none) else (some x3_1))
def impl_stations.l0 : Nat → List S_impl_PlantPlace → List S_impl_PlantValve → List ByteArray → Int → Option (List ByteArray)
  | 0, _, _, _, _ => none
  | k + 1, a0_2, a0_3, x3, x11 => (if x11 < (a0_2.length : Int) then (if 0 ≤ x11 then ((impl_with.f k x3 ([(rd_impl_PlantPlace a0_2 x11).f2] : List ByteArray)).bind fun t1065 => (impl_stations.l0 k a0_2 a0_3 t1065 (wrap64 (x11 + 1)))) else none) else (impl_stations.l1 k a0_3 x3 0))
def impl_stations.f (k : Nat) (a0_0 : List ByteArray) (a0_1 : List S_impl_PlantFoe) (a0_2 : List S_impl_PlantPlace) (a0_3 : List S_impl_PlantValve) : Option (List ByteArray) := (impl_stations.l0 k a0_2 a0_3 [] 0)
def impl_ClaimWantOk.l1 : Nat → Int → List S_impl_ClaimUse → List ByteArray → List ByteArray → Int → Option (Bool)
  | 0, _, _, _, _, _ => none
  | k + 1, a0_1, a0_3, a0_4, a0_5, x130 => (if x130 < (a0_4.length : Int) then (if 0 ≤ x130 then ((impl_has.f k a0_5 (rdOf ByteArray.empty a0_4 x130)).bind fun t1112 => (if t1112 = true then (some false) else (impl_ClaimWantOk.l1 k a0_1 a0_3 a0_4 a0_5 (wrap64 (x130 + 1))))) else none) else (if (a0_4.length : Int) = 0 then (some (decide ((wrap64 ((wrap64 ((a0_3.length : Int) + (a0_4.length : Int))) + (a0_5.length : Int))) > 0))) else (if a0_1 = 1 then (some (decide ((wrap64 ((wrap64 ((a0_3.length : Int) + (a0_4.length : Int))) + (a0_5.length : Int))) > 0))) else (some false))))
mutual
def impl_ClaimWantOk.j0 : Nat → Int → List S_impl_ClaimUse → List ByteArray → List ByteArray → Int → Option (Bool)
  | 0, _, _, _, _, _ => none
  | k + 1, a0_1, a0_3, a0_4, a0_5, x78 => (if ((rd_impl_ClaimUse a0_3 x78).f1) = 3 then (if ((rd_impl_ClaimUse a0_3 x78).f2) = 0 then (impl_ClaimWantOk.l0 k a0_1 a0_3 a0_4 a0_5 (wrap64 (x78 + 1))) else (some false)) else (if ((rd_impl_ClaimUse a0_3 x78).f1) = 1 then (if ((rd_impl_ClaimUse a0_3 x78).f2) < 1 then (some false) else (if ((rd_impl_ClaimUse a0_3 x78).f2) > 1000 then (some false) else (if a0_1 = 1 then (impl_ClaimWantOk.l0 k a0_1 a0_3 a0_4 a0_5 (wrap64 (x78 + 1))) else (some false)))) else (if ((rd_impl_ClaimUse a0_3 x78).f1) = 2 then (if ((rd_impl_ClaimUse a0_3 x78).f2) < 1 then (some false) else (if ((rd_impl_ClaimUse a0_3 x78).f2) > 1000 then (some false) else (if a0_1 = 1 then (impl_ClaimWantOk.l0 k a0_1 a0_3 a0_4 a0_5 (wrap64 (x78 + 1))) else (some false)))) else (some false))))
def impl_ClaimWantOk.l0 : Nat → Int → List S_impl_ClaimUse → List ByteArray → List ByteArray → Int → Option (Bool)
  | 0, _, _, _, _, _ => none
  | k + 1, a0_1, a0_3, a0_4, a0_5, x78 => (if x78 < (a0_3.length : Int) then (if 0 ≤ x78 then ((impl_isName.f k ((rd_impl_ClaimUse a0_3 x78).f0)).bind fun t1108 => (if t1108 = true then (if x78 > 0 then (if 0 ≤ (wrap64 (x78 - 1)) then (if (wrap64 (x78 - 1)) < (a0_3.length : Int) then (if (Op.bytesLess ((rd_impl_ClaimUse a0_3 (wrap64 (x78 - 1))).f0).toList ((rd_impl_ClaimUse a0_3 x78).f0).toList) = true then (impl_ClaimWantOk.j0 k a0_1 a0_3 a0_4 a0_5 x78) else (some false)) else none) else none) else (impl_ClaimWantOk.j0 k a0_1 a0_3 a0_4 a0_5 x78)) else (some false))) else none) else (impl_ClaimWantOk.l1 k a0_1 a0_3 a0_4 a0_5 0))
end
def impl_ClaimWantOk.f (k : Nat) (a0_0 : Int) (a0_1 : Int) (a0_2 : List ByteArray) (a0_3 : List S_impl_ClaimUse) (a0_4 : List ByteArray) (a0_5 : List ByteArray) : Option (Bool) := (if a0_0 < 1 then (some false) else (if a0_0 > 1000000 then (some false) else (if a0_1 < 1 then (some false) else (if a0_1 > 3 then (some false) else (if (a0_2.length : Int) > 8 then (some false) else ((impl_names.f k a0_2).bind fun t1094 => (if t1094 = true then (if ((decide ((a0_2.length : Int) > 0)) != (decide (a0_1 = 1))) = true then (some false) else (if (a0_3.length : Int) > 8 then (some false) else (if (a0_4.length : Int) > 12 then (some false) else (if (a0_5.length : Int) > 12 then (some false) else ((impl_names.f k a0_4).bind fun t1099 => (if t1099 = true then ((impl_names.f k a0_5).bind fun t1100 => (if t1100 = true then (impl_ClaimWantOk.l0 k a0_1 a0_3 a0_4 a0_5 0) else (some false))) else (some false))))))) else (some false))))))))
def slices_Equal_string_string.l0 : Nat → List ByteArray → List ByteArray → Int → Option (Bool)
  | 0, _, _, _ => none
  | k + 1, l0, l1, x13 => (if x13 < (l0.length : Int) then (if 0 ≤ x13 then (if x13 < (l1.length : Int) then (if (rdOf ByteArray.empty l0 x13).toList = (rdOf ByteArray.empty l1 x13).toList then (slices_Equal_string_string.l0 k l0 l1 (wrap64 (x13 + 1))) else (some false)) else none) else none) else (some true))
def slices_Equal_string_string.f (k : Nat) (l0 : List ByteArray) (l1 : List ByteArray) : Option (Bool) := (if (l0.length : Int) = (l1.length : Int) then (slices_Equal_string_string.l0 k l0 l1 0) else (some false))
def impl_ClaimUse.l0 : Nat → List S_impl_ClaimUse → List S_impl_ClaimUse → Int → Option (Bool)
  | 0, _, _, _ => none
  | k + 1, l0, l1, x13 => (if x13 < (l0.length : Int) then (if 0 ≤ x13 then (if x13 < (l1.length : Int) then (if (decide (((rd_impl_ClaimUse l0 x13).f0).toList = ((rd_impl_ClaimUse l1 x13).f0).toList) && (decide (((rd_impl_ClaimUse l0 x13).f1) = ((rd_impl_ClaimUse l1 x13).f1)) && (decide (((rd_impl_ClaimUse l0 x13).f2) = ((rd_impl_ClaimUse l1 x13).f2)) && true))) = true then (impl_ClaimUse.l0 k l0 l1 (wrap64 (x13 + 1))) else (some false)) else none) else none) else (some true))
def impl_ClaimUse.f (k : Nat) (l0 : List S_impl_ClaimUse) (l1 : List S_impl_ClaimUse) : Option (Bool) := (if (l0.length : Int) = (l1.length : Int) then (impl_ClaimUse.l0 k l0 l1 0) else (some false))
def impl_ClaimWant_is.f (k : Nat) (a0_0 : Int) (a0_1 : Int) (a0_2 : List ByteArray) (a0_3 : List S_impl_ClaimUse) (a0_4 : List ByteArray) (a0_5 : List ByteArray) (a1_0 : Int) (a1_1 : Int) (a1_2 : List ByteArray) (a1_3 : List S_impl_ClaimUse) (a1_4 : List ByteArray) (a1_5 : List ByteArray) : Option (Bool) := (if a0_0 = a1_0 then (if a0_1 = a1_1 then ((slices_Equal_string_string.f k a0_2 a1_2).bind fun t1196 => (if t1196 = true then ((impl_ClaimUse.f k a0_3 a1_3).bind fun t1197 => (if t1197 = true then ((slices_Equal_string_string.f k a0_4 a1_4).bind fun t1198 => (if t1198 = true then ((slices_Equal_string_string.f k a0_5 a1_5).bind fun t1199 => (some t1199)) else (some false))) else (some false))) else (some false))) else (some false)) else (some false))
def impl_wordOk.j0 : Nat → Int → Int → Int → Int → List ByteArray → List S_impl_ClaimUse → List ByteArray → List ByteArray → Option (Bool)
  | 0, _, _, _, _, _, _, _, _ => none
  | k + 1, a1_0, a1_2, a1_3, a1_4, a1_5, a1_6, a1_7, a1_8 => (if a1_0 = 1 then ((impl_ClaimWantOk.f k a1_3 a1_4 a1_5 a1_6 a1_7 a1_8).bind fun t1219 => (if t1219 = true then (some (decide (a1_3 = a1_2))) else (some false))) else ((impl_ClaimWant_is.f k a1_3 a1_4 a1_5 a1_6 a1_7 a1_8 0 0 [] [] [] []).bind fun t1220 => (some t1220)))
def impl_wordOk.j1 : Nat → Int → Int → Int → Int → List ByteArray → List S_impl_ClaimUse → List ByteArray → List ByteArray → Int → Bool → Option (Bool)
  | 0, _, _, _, _, _, _, _, _, _, _ => none
  | k + 1, a1_0, a1_2, a1_3, a1_4, a1_5, a1_6, a1_7, a1_8, a1_9, a1_10 => (if a1_9 = 0 then (if a1_10 = true then (if a1_0 = 7 then (impl_wordOk.j0 k a1_0 a1_2 a1_3 a1_4 a1_5 a1_6 a1_7 a1_8) else (some false)) else (impl_wordOk.j0 k a1_0 a1_2 a1_3 a1_4 a1_5 a1_6 a1_7 a1_8)) else (if a1_0 = 6 then (if a1_10 = true then (if a1_0 = 7 then (impl_wordOk.j0 k a1_0 a1_2 a1_3 a1_4 a1_5 a1_6 a1_7 a1_8) else (some false)) else (impl_wordOk.j0 k a1_0 a1_2 a1_3 a1_4 a1_5 a1_6 a1_7 a1_8)) else (if a1_0 = 7 then (if a1_10 = true then (impl_wordOk.j0 k a1_0 a1_2 a1_3 a1_4 a1_5 a1_6 a1_7 a1_8) else (impl_wordOk.j0 k a1_0 a1_2 a1_3 a1_4 a1_5 a1_6 a1_7 a1_8)) else (some false))))
def impl_wordOk.f (k : Nat) (a0_0 : List ByteArray) (a0_1 : List S_impl_PlantFoe) (a0_2 : List S_impl_PlantPlace) (a0_3 : List S_impl_PlantValve) (a1_0 : Int) (a1_1 : ByteArray) (a1_2 : Int) (a1_3 : Int) (a1_4 : Int) (a1_5 : List ByteArray) (a1_6 : List S_impl_ClaimUse) (a1_7 : List ByteArray) (a1_8 : List ByteArray) (a1_9 : Int) (a1_10 : Bool) : Option (Bool) := (if a1_0 < 1 then (some false) else (if a1_0 > 10 then (some false) else (if a1_2 < 1 then (some false) else (if a1_2 > 1000000 then (some false) else (if a1_9 < 0 then (some false) else (if a1_9 > 1000 then (some false) else (if a1_0 ≥ 9 then (if a1_1.toList = (⟨#[]⟩ : ByteArray).toList then (if a1_0 < 9 then ((impl_stations.f k a0_0 a0_1 a0_2 a0_3).bind fun t1221 => ((impl_has.f k t1221 a1_1).bind fun t1222 => (if t1222 = true then (impl_wordOk.j1 k a1_0 a1_2 a1_3 a1_4 a1_5 a1_6 a1_7 a1_8 a1_9 a1_10) else (some false)))) else (impl_wordOk.j1 k a1_0 a1_2 a1_3 a1_4 a1_5 a1_6 a1_7 a1_8 a1_9 a1_10)) else (some false)) else (if a1_0 < 9 then ((impl_stations.f k a0_0 a0_1 a0_2 a0_3).bind fun t1223 => ((impl_has.f k t1223 a1_1).bind fun t1224 => (if t1224 = true then (impl_wordOk.j1 k a1_0 a1_2 a1_3 a1_4 a1_5 a1_6 a1_7 a1_8 a1_9 a1_10) else (some false)))) else (impl_wordOk.j1 k a1_0 a1_2 a1_3 a1_4 a1_5 a1_6 a1_7 a1_8 a1_9 a1_10)))))))))
def impl_CtlWordOk.f (k : Nat) (a0_0 : List ByteArray) (a0_1 : List S_impl_PlantFoe) (a0_2 : List S_impl_PlantPlace) (a0_3 : List S_impl_PlantValve) (a1_0 : Int) (a1_1 : ByteArray) (a1_2 : Int) (a1_3 : Int) (a1_4 : Int) (a1_5 : List ByteArray) (a1_6 : List S_impl_ClaimUse) (a1_7 : List ByteArray) (a1_8 : List ByteArray) (a1_9 : Int) (a1_10 : Bool) : Option (Bool) := ((impl_PlantValid.f k a0_0 a0_1 a0_2 a0_3).bind fun t1227 => (if t1227 = true then ((impl_wordOk.f k a0_0 a0_1 a0_2 a0_3 a1_0 a1_1 a1_2 a1_3 a1_4 a1_5 a1_6 a1_7 a1_8 a1_9 a1_10).bind fun t1228 => (some t1228)) else (some false)))
def laws_eqStringS.l0 : Nat → List ByteArray → List ByteArray → Int → Option (Bool)
  | 0, _, _, _ => none
  | k + 1, l0, l1, x5 => (if x5 < (l0.length : Int) then (if 0 ≤ x5 then (if x5 < (l1.length : Int) then (if (rdOf ByteArray.empty l0 x5).toList = (rdOf ByteArray.empty l1 x5).toList then (laws_eqStringS.l0 k l0 l1 (wrap64 (x5 + 1))) else (some false)) else none) else none) else (some true))
def laws_eqStringS.f (k : Nat) (l0 : List ByteArray) (l1 : List ByteArray) : Option (Bool) := (if (l0.length : Int) = (l1.length : Int) then (laws_eqStringS.l0 k l0 l1 0) else (some false))
def laws_eqPlantFoe.f (a0_0 : ByteArray) (a0_1 : ByteArray) (a1_0 : ByteArray) (a1_1 : ByteArray) : Option (Bool) := (if a0_0.toList = a1_0.toList then (if a0_1.toList = a1_1.toList then (some true) else (some false)) else (some false))
def laws_eqPlantFoeS.l0 : Nat → List S_impl_PlantFoe → List S_impl_PlantFoe → Int → Option (Bool)
  | 0, _, _, _ => none
  | k + 1, l0, l1, x5 => (if x5 < (l0.length : Int) then (if 0 ≤ x5 then (if x5 < (l1.length : Int) then ((laws_eqPlantFoe.f ((rd_impl_PlantFoe l0 x5).f0) ((rd_impl_PlantFoe l0 x5).f1) ((rd_impl_PlantFoe l1 x5).f0) ((rd_impl_PlantFoe l1 x5).f1)).bind fun t1306 => (if t1306 = true then (laws_eqPlantFoeS.l0 k l0 l1 (wrap64 (x5 + 1))) else (some false))) else none) else none) else (some true))
def laws_eqPlantFoeS.f (k : Nat) (l0 : List S_impl_PlantFoe) (l1 : List S_impl_PlantFoe) : Option (Bool) := (if (l0.length : Int) = (l1.length : Int) then (laws_eqPlantFoeS.l0 k l0 l1 0) else (some false))
def laws_eqPlantPlace.f (a0_0 : ByteArray) (a0_1 : Int) (a0_2 : ByteArray) (a1_0 : ByteArray) (a1_1 : Int) (a1_2 : ByteArray) : Option (Bool) := (if a0_0.toList = a1_0.toList then (if a0_1 = a1_1 then (if a0_2.toList = a1_2.toList then (some true) else (some false)) else (some false)) else (some false))
def laws_eqPlantPlaceS.l0 : Nat → List S_impl_PlantPlace → List S_impl_PlantPlace → Int → Option (Bool)
  | 0, _, _, _ => none
  | k + 1, l0, l1, x5 => (if x5 < (l0.length : Int) then (if 0 ≤ x5 then (if x5 < (l1.length : Int) then ((laws_eqPlantPlace.f ((rd_impl_PlantPlace l0 x5).f0) ((rd_impl_PlantPlace l0 x5).f1) ((rd_impl_PlantPlace l0 x5).f2) ((rd_impl_PlantPlace l1 x5).f0) ((rd_impl_PlantPlace l1 x5).f1) ((rd_impl_PlantPlace l1 x5).f2)).bind fun t1356 => (if t1356 = true then (laws_eqPlantPlaceS.l0 k l0 l1 (wrap64 (x5 + 1))) else (some false))) else none) else none) else (some true))
def laws_eqPlantPlaceS.f (k : Nat) (l0 : List S_impl_PlantPlace) (l1 : List S_impl_PlantPlace) : Option (Bool) := (if (l0.length : Int) = (l1.length : Int) then (laws_eqPlantPlaceS.l0 k l0 l1 0) else (some false))
def laws_eqPlantValve.f (a0_0 : ByteArray) (a0_1 : ByteArray) (a0_2 : ByteArray) (a0_3 : ByteArray) (a1_0 : ByteArray) (a1_1 : ByteArray) (a1_2 : ByteArray) (a1_3 : ByteArray) : Option (Bool) := (if a0_0.toList = a1_0.toList then (if a0_1.toList = a1_1.toList then (if a0_2.toList = a1_2.toList then (if a0_3.toList = a1_3.toList then (some true) else (some false)) else (some false)) else (some false)) else (some false))
def laws_eqPlantValveS.l0 : Nat → List S_impl_PlantValve → List S_impl_PlantValve → Int → Option (Bool)
  | 0, _, _, _ => none
  | k + 1, l0, l1, x5 => (if x5 < (l0.length : Int) then (if 0 ≤ x5 then (if x5 < (l1.length : Int) then ((laws_eqPlantValve.f ((rd_impl_PlantValve l0 x5).f0) ((rd_impl_PlantValve l0 x5).f1) ((rd_impl_PlantValve l0 x5).f2) ((rd_impl_PlantValve l0 x5).f3) ((rd_impl_PlantValve l1 x5).f0) ((rd_impl_PlantValve l1 x5).f1) ((rd_impl_PlantValve l1 x5).f2) ((rd_impl_PlantValve l1 x5).f3)).bind fun t1412 => (if t1412 = true then (laws_eqPlantValveS.l0 k l0 l1 (wrap64 (x5 + 1))) else (some false))) else none) else none) else (some true))
def laws_eqPlantValveS.f (k : Nat) (l0 : List S_impl_PlantValve) (l1 : List S_impl_PlantValve) : Option (Bool) := (if (l0.length : Int) = (l1.length : Int) then (laws_eqPlantValveS.l0 k l0 l1 0) else (some false))
def laws_eqPlant.f (k : Nat) (a0_0 : List ByteArray) (a0_1 : List S_impl_PlantFoe) (a0_2 : List S_impl_PlantPlace) (a0_3 : List S_impl_PlantValve) (a1_0 : List ByteArray) (a1_1 : List S_impl_PlantFoe) (a1_2 : List S_impl_PlantPlace) (a1_3 : List S_impl_PlantValve) : Option (Bool) := ((laws_eqStringS.f k a0_0 a1_0).bind fun t1415 => (if t1415 = true then ((laws_eqPlantFoeS.f k a0_1 a1_1).bind fun t1418 => (if t1418 = true then ((laws_eqPlantPlaceS.f k a0_2 a1_2).bind fun t1421 => (if t1421 = true then ((laws_eqPlantValveS.f k a0_3 a1_3).bind fun t1424 => (if t1424 = true then (some true) else (some false))) else (some false))) else (some false))) else (some false)))
def laws_eqClaimUse.f (a0_0 : ByteArray) (a0_1 : Int) (a0_2 : Int) (a1_0 : ByteArray) (a1_1 : Int) (a1_2 : Int) : Option (Bool) := (if a0_0.toList = a1_0.toList then (if a0_1 = a1_1 then (if a0_2 = a1_2 then (some true) else (some false)) else (some false)) else (some false))
def laws_eqClaimUseS.l0 : Nat → List S_impl_ClaimUse → List S_impl_ClaimUse → Int → Option (Bool)
  | 0, _, _, _ => none
  | k + 1, l0, l1, x5 => (if x5 < (l0.length : Int) then (if 0 ≤ x5 then (if x5 < (l1.length : Int) then ((laws_eqClaimUse.f ((rd_impl_ClaimUse l0 x5).f0) ((rd_impl_ClaimUse l0 x5).f1) ((rd_impl_ClaimUse l0 x5).f2) ((rd_impl_ClaimUse l1 x5).f0) ((rd_impl_ClaimUse l1 x5).f1) ((rd_impl_ClaimUse l1 x5).f2)).bind fun t1526 => (if t1526 = true then (laws_eqClaimUseS.l0 k l0 l1 (wrap64 (x5 + 1))) else (some false))) else none) else none) else (some true))
def laws_eqClaimUseS.f (k : Nat) (l0 : List S_impl_ClaimUse) (l1 : List S_impl_ClaimUse) : Option (Bool) := (if (l0.length : Int) = (l1.length : Int) then (laws_eqClaimUseS.l0 k l0 l1 0) else (some false))
def laws_eqClaimWant.f (k : Nat) (a0_0 : Int) (a0_1 : Int) (a0_2 : List ByteArray) (a0_3 : List S_impl_ClaimUse) (a0_4 : List ByteArray) (a0_5 : List ByteArray) (a1_0 : Int) (a1_1 : Int) (a1_2 : List ByteArray) (a1_3 : List S_impl_ClaimUse) (a1_4 : List ByteArray) (a1_5 : List ByteArray) : Option (Bool) := (if a0_0 = a1_0 then (if a0_1 = a1_1 then ((laws_eqStringS.f k a0_2 a1_2).bind fun t1529 => (if t1529 = true then ((laws_eqClaimUseS.f k a0_3 a1_3).bind fun t1532 => (if t1532 = true then ((laws_eqStringS.f k a0_4 a1_4).bind fun t1535 => (if t1535 = true then ((laws_eqStringS.f k a0_5 a1_5).bind fun t1538 => (if t1538 = true then (some true) else (some false))) else (some false))) else (some false))) else (some false))) else (some false)) else (some false))
def laws_eqCtlWord.f (k : Nat) (a0_0 : Int) (a0_1 : ByteArray) (a0_2 : Int) (a0_3 : Int) (a0_4 : Int) (a0_5 : List ByteArray) (a0_6 : List S_impl_ClaimUse) (a0_7 : List ByteArray) (a0_8 : List ByteArray) (a0_9 : Int) (a0_10 : Bool) (a1_0 : Int) (a1_1 : ByteArray) (a1_2 : Int) (a1_3 : Int) (a1_4 : Int) (a1_5 : List ByteArray) (a1_6 : List S_impl_ClaimUse) (a1_7 : List ByteArray) (a1_8 : List ByteArray) (a1_9 : Int) (a1_10 : Bool) : Option (Bool) := (if a0_0 = a1_0 then (if a0_1.toList = a1_1.toList then (if a0_2 = a1_2 then ((laws_eqClaimWant.f k a0_3 a0_4 a0_5 a0_6 a0_7 a0_8 a1_3 a1_4 a1_5 a1_6 a1_7 a1_8).bind fun t1541 => (if t1541 = true then (if a0_9 = a1_9 then (if (a0_10 != a1_10) = true then (some false) else (some true)) else (some false)) else (some false))) else (some false)) else (some false)) else (some false))
def laws_FnExactCtlWordOk.f (k : Nat) (a0_0 : List ByteArray) (a0_1 : List S_laws_PlantFoe) (a0_2 : List S_laws_PlantPlace) (a0_3 : List S_laws_PlantValve) (a1_0 : Int) (a1_1 : ByteArray) (a1_2 : Int) (a1_3 : Int) (a1_4 : Int) (a1_5 : List ByteArray) (a1_6 : List S_laws_ClaimUse) (a1_7 : List ByteArray) (a1_8 : List ByteArray) (a1_9 : Int) (a1_10 : Bool) : Option (Bool) := ((laws_szPlant.f k a0_0 a0_1 a0_2 a0_3 1048576).bind fun t1543 => (if t1543 < 0 then (some true) else ((laws_szCtlWord.f k a1_0 a1_1 a1_2 a1_3 a1_4 a1_5 a1_6 a1_7 a1_8 a1_9 a1_10 t1543).bind fun t1545 => (if t1545 < 0 then (some true) else ((laws_toPlant.f k a0_0 a0_1 a0_2 a0_3).bind fun t1549 => ((laws_toCtlWord.f k a1_0 a1_1 a1_2 a1_3 a1_4 a1_5 a1_6 a1_7 a1_8 a1_9 a1_10).bind fun t1550 => ((spec_CtlWordOk.f k t1549.1 t1549.2.1 t1549.2.2.1 t1549.2.2.2 t1550.1 t1550.2.1 t1550.2.2.1 t1550.2.2.2.1 t1550.2.2.2.2.1 t1550.2.2.2.2.2.1 t1550.2.2.2.2.2.2.1 t1550.2.2.2.2.2.2.2.1 t1550.2.2.2.2.2.2.2.2.1 t1550.2.2.2.2.2.2.2.2.2.1 t1550.2.2.2.2.2.2.2.2.2.2).bind fun t1551 => ((laws_toPlant.f k a0_0 a0_1 a0_2 a0_3).bind fun t1553 => ((laws_toCtlWord.f k a1_0 a1_1 a1_2 a1_3 a1_4 a1_5 a1_6 a1_7 a1_8 a1_9 a1_10).bind fun t1555 => ((impl_CtlWordOk.f k t1553.1 t1553.2.1 t1553.2.2.1 t1553.2.2.2 t1555.1 t1555.2.1 t1555.2.2.1 t1555.2.2.2.1 t1555.2.2.2.2.1 t1555.2.2.2.2.2.1 t1555.2.2.2.2.2.2.1 t1555.2.2.2.2.2.2.2.1 t1555.2.2.2.2.2.2.2.2.1 t1555.2.2.2.2.2.2.2.2.2.1 t1555.2.2.2.2.2.2.2.2.2.2).bind fun t1557 => (if (t1557 != t1551) = true then (some false) else ((laws_toPlant.f k a0_0 a0_1 a0_2 a0_3).bind fun t1562 => ((laws_eqPlant.f k t1553.1 t1553.2.1 t1553.2.2.1 t1553.2.2.2 t1562.1 t1562.2.1 t1562.2.2.1 t1562.2.2.2).bind fun t1563 => (if t1563 = true then ((laws_toCtlWord.f k a1_0 a1_1 a1_2 a1_3 a1_4 a1_5 a1_6 a1_7 a1_8 a1_9 a1_10).bind fun t1568 => ((laws_eqCtlWord.f k t1555.1 t1555.2.1 t1555.2.2.1 t1555.2.2.2.1 t1555.2.2.2.2.1 t1555.2.2.2.2.2.1 t1555.2.2.2.2.2.2.1 t1555.2.2.2.2.2.2.2.1 t1555.2.2.2.2.2.2.2.2.1 t1555.2.2.2.2.2.2.2.2.2.1 t1555.2.2.2.2.2.2.2.2.2.2 t1568.1 t1568.2.1 t1568.2.2.1 t1568.2.2.2.1 t1568.2.2.2.2.1 t1568.2.2.2.2.2.1 t1568.2.2.2.2.2.2.1 t1568.2.2.2.2.2.2.2.1 t1568.2.2.2.2.2.2.2.2.1 t1568.2.2.2.2.2.2.2.2.2.1 t1568.2.2.2.2.2.2.2.2.2.2).bind fun t1569 => (if t1569 = true then (some true) else (some false)))) else (some false)))))))))))))))
end Go.Proofs.Ytamkmmkchdnkmaa.CW
namespace Go.Proofs.Ytamkmmkchdnkmaa.Pure
open Go Go.RowKit Go.Aw Go.Proofs.Ytamkmmkchdnkmaa.CW
set_option linter.unusedVariables false
set_option linter.unusedSimpArgs false
/-! ### general words -/
theorem ev_pos {α : Type} {c : Prop} {d : Decidable c} {g f : Nat → Option α} {r : α} (h : c) (k : Ev g r) : Ev (fun n => @ite _ c d (g n) (f n)) r := Ev.congr (fun _ => if_pos h) k
theorem ev_neg {α : Type} {c : Prop} {d : Decidable c} {g f : Nat → Option α} {r : α} (h : ¬ c) (k : Ev f r) : Ev (fun n => @ite _ c d (g n) (f n)) r := Ev.congr (fun _ => if_neg h) k
theorem ev_ret {α : Type} {a r : α} (h : a = r) : Ev (fun _ => some a) r := h ▸ Ev.now a
theorem ev_let {α β : Type} {g : Option α} {a : α} {r : β} {f : Nat → α → Option β} (h : g = some a) (k : Ev (fun n => f n a) r) : Ev (fun n => g.bind (f n)) r := by
  subst h; exact k
theorem ev_eq {α : Type} {g : Nat → Option α} {a r : α} (k : Ev g a) (h : a = r) : Ev g r := h ▸ k
theorem ev_split {α : Type} {c : Prop} {d : Decidable c} {g f : Nat → Option α} {r : α} (h : c → Ev g r) (k : ¬ c → Ev f r) : Ev (fun n => @ite _ c d (g n) (f n)) r := by
  by_cases q : c
  · exact ev_pos q (h q)
  · exact ev_neg q (k q)
/-- a value that is called on -/
theorem ev_of {α β : Type} {g : Nat → Option α} {a : α} {r : β} {f : Nat → α → Option β} (h : Ev g a) (k : Ev (fun n => f n a) r) : Ev (fun n => (g n).bind (f n)) r := Ev.bind h k
theorem ex_ret {α : Type} {a : α} : ∃ q, Ev (fun _ => some a) q := ⟨a, Ev.now a⟩
theorem ex_ite {α : Type} {c : Prop} {d : Decidable c} {g f : Nat → Option α} (h : ∃ q, Ev g q) (k : ∃ q, Ev f q) : ∃ q, Ev (fun n => @ite _ c d (g n) (f n)) q := by
  by_cases q : c
  · exact h.imp fun _ e => ev_pos q e
  · exact k.imp fun _ e => ev_neg q e
theorem ex_pos {α : Type} {c : Prop} {d : Decidable c} {g f : Nat → Option α} (h : c) (k : ∃ q, Ev g q) : ∃ q, Ev (fun n => @ite _ c d (g n) (f n)) q := k.imp fun _ e => ev_pos h e
theorem ex_bind {α β : Type} {g : Nat → Option α} {f : Nat → α → Option β} (h : ∃ a, Ev g a) (k : ∀ a, ∃ q, Ev (fun n => f n a) q) : ∃ q, Ev (fun n => (g n).bind (f n)) q := by
  obtain ⟨a, h⟩ := h
  exact (k a).imp fun _ e => Ev.bind h e
theorem ex_step {α : Type} {g f : Nat → Option α} (h : ∀ k, g (k + 1) = f k) (k : ∃ q, Ev f q) : ∃ q, Ev g q := k.imp fun _ e => Ev.step h e
theorem w64 {x : Int} (h0 : -9223372036854775808 ≤ x) (h1 : x ≤ 9223372036854775807) : wrap64 x = x := by unfold wrap64; omega
theorem wsucc {i n : Nat} (h : i < n) (hn : n ≤ 9223372036854775807) : wrap64 ((i : Int) + 1) = ((i + 1 : Nat) : Int) := by unfold wrap64; omega
theorem wplus {a : Int} (h0 : 0 ≤ a) (h1 : a ≤ 4611686018427387904) : wrap64 (a + 1) = a + 1 := by unfold wrap64; omega
theorem pre64 {i : Nat} (h : ¬ i = 0) (hi : i ≤ 9223372036854775807) : wrap64 ((i : Int) - 1) = ((i - 1 : Nat) : Int) := by unfold wrap64; omega
theorem getD_eq {α : Type} (d : α) (xs : List α) (i : Nat) (h : i < xs.length) : xs.getD i d = xs[i] := by
  rw [List.getD_eq_getElem?_getD, List.getElem?_eq_getElem h]; rfl
theorem mem_getD {α : Type} (d : α) (xs : List α) (i : Nat) (h : i < xs.length) : xs.getD i d ∈ xs := by
  rw [getD_eq d xs i h]; exact List.getElem_mem h
theorem getD_set {α : Type} (d : α) (xs : List α) (i j : Nat) (v : α) (h : i < xs.length) : (xs.set i v).getD j d = if j = i then v else xs.getD j d := by
  rw [List.getD_eq_getElem?_getD, List.getD_eq_getElem?_getD, List.getElem?_set]
  by_cases e : i = j
  · subst e; simp [h]
  · rw [if_neg e, if_neg (fun q => e q.symm)]
theorem fill_end {α : Type} (d : α) (z y : List α) (hl : y.length = z.length) (h : ∀ j, j < z.length → y.getD j d = z.getD j d) : y = z := by
  apply List.ext_getElem hl
  intro j h1 h2
  have e := h j h2
  rwa [getD_eq d y j h1, getD_eq d z j h2] at e
theorem fill_step {α : Type} (d : α) (z y : List α) (i : Nat) (hl : y.length = z.length) (hi : i < z.length) (h : ∀ j, j < i → y.getD j d = z.getD j d) (v : α) (hv : v = z.getD i d) :
    (y.set i v).length = z.length ∧ ∀ j, j < i + 1 → (y.set i v).getD j d = z.getD j d := by
  refine ⟨by simpa using hl, fun j hj => ?_⟩
  rw [getD_set d y i j v (by omega)]
  by_cases e : j = i
  · rw [if_pos e, e, hv]
  · rw [if_neg e]; exact h j (by omega)
theorem rdOf_nat {α : Type} (d : α) (xs : List α) (i : Nat) : rdOf d xs (i : Int) = xs.getD i d := by simp [rdOf]
theorem rd_nat (xs : List Int) (i : Nat) : rd xs (i : Int) = xs.getD i 0 := by simp [rd]
theorem map_getD {α β : Type} (e : β) (d : α) (f : α → β) (l : List α) (i : Nat) (h : i < l.length) : (l.map f).getD i e = f (l.getD i d) := by
  rw [getD_eq e _ i (by simpa using h), getD_eq d l i h, List.getElem_map]
/-- a list told from its end: what is left from place i on -/
theorem loopL {α : Type} (d : α) (l : List α) {P : Nat → List α → Prop} (h0 : P l.length []) (hs : ∀ i x r, i < l.length → l.getD i d = x → x ∈ l → l.drop (i + 1) = r → P (i + 1) r → P i (x :: r)) : P 0 l := by
  have key : ∀ (n i : Nat), i + n = l.length → P i (l.drop i) := fun n => by
    induction n with
    | zero =>
      intro i hi
      have e : i = l.length := by omega
      subst e; rw [List.drop_length]; exact h0
    | succ n ih =>
      intro i hi
      have hlt : i < l.length := by omega
      have e : l.drop i = l.getD i d :: l.drop (i + 1) := by rw [List.drop_eq_getElem_cons hlt, getD_eq d l i hlt]
      rw [e]
      exact hs i _ _ hlt rfl (mem_getD d l i hlt) rfl (ih (i + 1) (by omega))
  simpa using key l.length 0 (by omega)
/-- the element ahead of place i -/
def ahead {α : Type} (d : α) (l : List α) (i : Nat) : Option α := if i = 0 then none else some (l.getD (i - 1) d)
theorem ahead_zero {α : Type} (d : α) (l : List α) : ahead d l 0 = none := rfl
theorem ahead_succ {α : Type} (d : α) (l : List α) (i : Nat) : ahead d l (i + 1) = some (l.getD i d) := by simp [ahead]
theorem ahead_pos {α : Type} (d : α) (l : List α) (i : Nat) (h : ¬ i = 0) : ahead d l i = some (l.getD (i - 1) d) := if_neg h
/-! ### the order of bytes -/
theorem bl_irr : ∀ x : List UInt8, Op.bytesLess x x = false
  | [] => rfl
  | a :: x => by simp [Op.bytesLess, bl_irr x]
theorem bl_asym : ∀ x y : List UInt8, Op.bytesLess x y = true → Op.bytesLess y x = false
  | [], [], _ => rfl
  | [], _ :: _, _ => rfl
  | _ :: _, [], h => by simp [Op.bytesLess] at h
  | a :: x, b :: y, h => by
    simp only [Op.bytesLess, Bool.or_eq_true, Bool.and_eq_true, decide_eq_true_eq, beq_iff_eq] at h
    simp only [Op.bytesLess, Bool.or_eq_false_iff, Bool.and_eq_false_iff, decide_eq_false_iff_not, beq_eq_false_iff_ne]
    rcases h with h | ⟨rfl, h⟩
    · exact ⟨UInt8.lt_asymm h, .inl (fun e => by subst e; exact UInt8.lt_irrefl _ h)⟩
    · exact ⟨UInt8.lt_irrefl _, .inr (bl_asym x y h)⟩
theorem bl_tri : ∀ x y : List UInt8, Op.bytesLess x y = true ∨ x = y ∨ Op.bytesLess y x = true
  | [], [] => .inr (.inl rfl)
  | [], _ :: _ => .inl rfl
  | _ :: _, [] => .inr (.inr rfl)
  | a :: x, b :: y => by
    simp only [Op.bytesLess, Bool.or_eq_true, Bool.and_eq_true, decide_eq_true_eq, beq_iff_eq, List.cons.injEq]
    rcases UInt8.lt_or_lt_of_ne (a := a) (b := b) |> fun f => (Classical.em (a = b)).imp id f with rfl | h | h
    · rcases bl_tri x y with q | rfl | q
      · exact .inl (.inr ⟨rfl, q⟩)
      · exact .inr (.inl ⟨rfl, rfl⟩)
      · exact .inr (.inr (.inr ⟨rfl, q⟩))
    · exact .inl (.inl h)
    · exact .inr (.inr (.inl h))
theorem bl_trans : ∀ x y z : List UInt8, Op.bytesLess x y = true → Op.bytesLess y z = true → Op.bytesLess x z = true
  | [], _, _ :: _, _, _ => rfl
  | [], [], [], h, _ => h
  | [], _ :: _, [], _, h => by simp [Op.bytesLess] at h
  | _ :: _, [], _, h, _ => by simp [Op.bytesLess] at h
  | _ :: _, _ :: _, [], _, h => by simp [Op.bytesLess] at h
  | a :: x, b :: y, c :: z, h, k => by
    simp only [Op.bytesLess, Bool.or_eq_true, Bool.and_eq_true, decide_eq_true_eq, beq_iff_eq] at h k ⊢
    rcases h with h | ⟨rfl, h⟩
    · rcases k with k | ⟨rfl, k⟩
      · exact .inl (UInt8.lt_trans h k)
      · exact .inl h
    · rcases k with k | ⟨rfl, k⟩
      · exact .inl k
      · exact .inr ⟨rfl, bl_trans x y z h k⟩
theorem ba_ext {a b : ByteArray} (h : a.toList = b.toList) : a = b := by
  apply ByteArray.ext
  apply Array.ext'
  simpa [ByteArray.toList_eq] using h
theorem ba_iff {a b : ByteArray} : a.toList = b.toList ↔ a = b := ⟨ba_ext, fun h => h ▸ rfl⟩
/-- a text ahead of another -/
def lt (a b : ByteArray) : Bool := Op.bytesLess a.toList b.toList
theorem lt_irr (a : ByteArray) : lt a a = false := bl_irr _
theorem lt_asym {a b : ByteArray} (h : lt a b = true) : lt b a = false := bl_asym _ _ h
theorem lt_trans {a b c : ByteArray} (h : lt a b = true) (k : lt b c = true) : lt a c = true := bl_trans _ _ _ h k
theorem lt_tri (a b : ByteArray) : lt a b = true ∨ a = b ∨ lt b a = true := (bl_tri a.toList b.toList).imp id (·.imp ba_ext id)
theorem lt_ne {a b : ByteArray} (h : lt a b = true) : a ≠ b := fun e => by rw [e, lt_irr] at h; cases h
/-- pair by pair: the first, then the second -/
def befB (a0 a1 b0 b1 : ByteArray) : Bool := lt a0 b0 || (decide (a0 = b0) && lt a1 b1)
/-! ### the laws' own words -/
structure S_impl_ClaimWant where
  f0 : Int
  f1 : Int
  f2 : List ByteArray
  f3 : List S_impl_ClaimUse
  f4 : List ByteArray
  f5 : List ByteArray
theorem szStringS_ev (l : List ByteArray) (hl : l.length ≤ 140737488351232) (h : ∀ z ∈ l, z.size ≤ 140737488351232) (a : Int) : ∃ q, Ev (fun k => laws_szStringS.f k l a) q := by
  have key : ∀ b, ∃ q, Ev (fun k => laws_szStringS.l0 k l b 0) q := loopL ByteArray.empty l (P := fun i _ => ∀ b, ∃ q, Ev (fun k => laws_szStringS.l0 k l b (i : Int)) q)
    (fun b => ex_step (fun k => by rw [laws_szStringS.l0]) ⟨_, ev_neg (by omega) (ev_ret rfl)⟩)
    (fun i x r hi hx hm _ ih b => ex_step (fun k => by rw [laws_szStringS.l0]) (ex_pos (by omega) (ex_pos (by omega) (by
      rw [wsucc hi (by omega)]
      exact ex_ite ex_ret (ih _)))))
  unfold laws_szStringS.f
  exact ex_ite ex_ret (key _)
theorem szPlantFoe_ev (x : S_laws_PlantFoe) (h : ok_laws_PlantFoe x) (a : Int) : ∃ q, Ev (fun k => laws_szPlantFoe.f x.f0 x.f1 a) q := by
  have h0 := h.1
  have h1 := h.2
  unfold laws_szPlantFoe.f
  repeat' (first | exact ex_ret | refine ex_ite ?_ ?_ | refine ex_bind ?_ (fun t => ?_))
theorem szPlantFoeS_ev (l : List S_laws_PlantFoe) (hl : l.length ≤ 140737488351232) (h : ∀ z ∈ l, ok_laws_PlantFoe z) (a : Int) : ∃ q, Ev (fun k => laws_szPlantFoeS.f k l a) q := by
  have key : ∀ b, ∃ q, Ev (fun k => laws_szPlantFoeS.l0 k l b 0) q := loopL z_laws_PlantFoe l (P := fun i _ => ∀ b, ∃ q, Ev (fun k => laws_szPlantFoeS.l0 k l b (i : Int)) q)
    (fun b => ex_step (fun k => by rw [laws_szPlantFoeS.l0]) ⟨_, ev_neg (by omega) (ev_ret rfl)⟩)
    (fun i x r hi hx hm _ ih b => ex_step (fun k => by rw [laws_szPlantFoeS.l0]) (ex_pos (by omega) (ex_pos (by omega) (by
      rw [wsucc hi (by omega)]
      refine ex_bind (by rw [show rd_laws_PlantFoe l (i : Int) = x from by unfold rd_laws_PlantFoe; simpa using hx]; exact szPlantFoe_ev x (h x hm) b) (fun t => ex_ite ex_ret (ih _))))))
  unfold laws_szPlantFoeS.f
  exact ex_ite ex_ret (key _)
theorem szPlantPlace_ev (x : S_laws_PlantPlace) (h : ok_laws_PlantPlace x) (a : Int) : ∃ q, Ev (fun k => laws_szPlantPlace.f x.f0 x.f1 x.f2 a) q := by
  have h0 := h.1
  have h1 := h.2.1
  have h2 := h.2.2
  unfold laws_szPlantPlace.f
  repeat' (first | exact ex_ret | refine ex_ite ?_ ?_ | refine ex_bind ?_ (fun t => ?_))
theorem szPlantPlaceS_ev (l : List S_laws_PlantPlace) (hl : l.length ≤ 140737488351232) (h : ∀ z ∈ l, ok_laws_PlantPlace z) (a : Int) : ∃ q, Ev (fun k => laws_szPlantPlaceS.f k l a) q := by
  have key : ∀ b, ∃ q, Ev (fun k => laws_szPlantPlaceS.l0 k l b 0) q := loopL z_laws_PlantPlace l (P := fun i _ => ∀ b, ∃ q, Ev (fun k => laws_szPlantPlaceS.l0 k l b (i : Int)) q)
    (fun b => ex_step (fun k => by rw [laws_szPlantPlaceS.l0]) ⟨_, ev_neg (by omega) (ev_ret rfl)⟩)
    (fun i x r hi hx hm _ ih b => ex_step (fun k => by rw [laws_szPlantPlaceS.l0]) (ex_pos (by omega) (ex_pos (by omega) (by
      rw [wsucc hi (by omega)]
      refine ex_bind (by rw [show rd_laws_PlantPlace l (i : Int) = x from by unfold rd_laws_PlantPlace; simpa using hx]; exact szPlantPlace_ev x (h x hm) b) (fun t => ex_ite ex_ret (ih _))))))
  unfold laws_szPlantPlaceS.f
  exact ex_ite ex_ret (key _)
theorem szPlantValve_ev (x : S_laws_PlantValve) (h : ok_laws_PlantValve x) (a : Int) : ∃ q, Ev (fun k => laws_szPlantValve.f x.f0 x.f1 x.f2 x.f3 a) q := by
  have h0 := h.1
  have h1 := h.2.1
  have h2 := h.2.2.1
  have h3 := h.2.2.2
  unfold laws_szPlantValve.f
  repeat' (first | exact ex_ret | refine ex_ite ?_ ?_ | refine ex_bind ?_ (fun t => ?_))
theorem szPlantValveS_ev (l : List S_laws_PlantValve) (hl : l.length ≤ 140737488351232) (h : ∀ z ∈ l, ok_laws_PlantValve z) (a : Int) : ∃ q, Ev (fun k => laws_szPlantValveS.f k l a) q := by
  have key : ∀ b, ∃ q, Ev (fun k => laws_szPlantValveS.l0 k l b 0) q := loopL z_laws_PlantValve l (P := fun i _ => ∀ b, ∃ q, Ev (fun k => laws_szPlantValveS.l0 k l b (i : Int)) q)
    (fun b => ex_step (fun k => by rw [laws_szPlantValveS.l0]) ⟨_, ev_neg (by omega) (ev_ret rfl)⟩)
    (fun i x r hi hx hm _ ih b => ex_step (fun k => by rw [laws_szPlantValveS.l0]) (ex_pos (by omega) (ex_pos (by omega) (by
      rw [wsucc hi (by omega)]
      refine ex_bind (by rw [show rd_laws_PlantValve l (i : Int) = x from by unfold rd_laws_PlantValve; simpa using hx]; exact szPlantValve_ev x (h x hm) b) (fun t => ex_ite ex_ret (ih _))))))
  unfold laws_szPlantValveS.f
  exact ex_ite ex_ret (key _)
theorem szPlant_ev (x : S_laws_Plant) (h : ok_laws_Plant x) (a : Int) : ∃ q, Ev (fun k => laws_szPlant.f k x.f0 x.f1 x.f2 x.f3 a) q := by
  have h0 := h.1
  have h1 := h.2.1
  have h2 := h.2.2.1
  have h3 := h.2.2.2
  unfold laws_szPlant.f
  repeat' (first | exact ex_ret | with_reducible exact szStringS_ev _ (by have := h0.1; omega) (h0.2) _ | with_reducible exact szPlantFoeS_ev _ (by have := h1.1; omega) (h1.2) _ | with_reducible exact szPlantPlaceS_ev _ (by have := h2.1; omega) (h2.2) _ | with_reducible exact szPlantValveS_ev _ (by have := h3.1; omega) (h3.2) _ | refine ex_ite ?_ ?_ | refine ex_bind ?_ (fun t => ?_))
theorem szClaimUse_ev (x : S_laws_ClaimUse) (h : ok_laws_ClaimUse x) (a : Int) : ∃ q, Ev (fun k => laws_szClaimUse.f x.f0 x.f1 x.f2 a) q := by
  have h0 := h.1
  have h1 := h.2.1
  have h2 := h.2.2
  unfold laws_szClaimUse.f
  repeat' (first | exact ex_ret | refine ex_ite ?_ ?_ | refine ex_bind ?_ (fun t => ?_))
theorem szClaimUseS_ev (l : List S_laws_ClaimUse) (hl : l.length ≤ 140737488351232) (h : ∀ z ∈ l, ok_laws_ClaimUse z) (a : Int) : ∃ q, Ev (fun k => laws_szClaimUseS.f k l a) q := by
  have key : ∀ b, ∃ q, Ev (fun k => laws_szClaimUseS.l0 k l b 0) q := loopL z_laws_ClaimUse l (P := fun i _ => ∀ b, ∃ q, Ev (fun k => laws_szClaimUseS.l0 k l b (i : Int)) q)
    (fun b => ex_step (fun k => by rw [laws_szClaimUseS.l0]) ⟨_, ev_neg (by omega) (ev_ret rfl)⟩)
    (fun i x r hi hx hm _ ih b => ex_step (fun k => by rw [laws_szClaimUseS.l0]) (ex_pos (by omega) (ex_pos (by omega) (by
      rw [wsucc hi (by omega)]
      refine ex_bind (by rw [show rd_laws_ClaimUse l (i : Int) = x from by unfold rd_laws_ClaimUse; simpa using hx]; exact szClaimUse_ev x (h x hm) b) (fun t => ex_ite ex_ret (ih _))))))
  unfold laws_szClaimUseS.f
  exact ex_ite ex_ret (key _)
theorem szClaimWant_ev (x : S_laws_ClaimWant) (h : ok_laws_ClaimWant x) (a : Int) : ∃ q, Ev (fun k => laws_szClaimWant.f k x.f0 x.f1 x.f2 x.f3 x.f4 x.f5 a) q := by
  have h0 := h.1
  have h1 := h.2.1
  have h2 := h.2.2.1
  have h3 := h.2.2.2.1
  have h4 := h.2.2.2.2.1
  have h5 := h.2.2.2.2.2
  unfold laws_szClaimWant.f
  repeat' (first | exact ex_ret | with_reducible exact szStringS_ev _ (by have := h2.1; omega) (h2.2) _ | with_reducible exact szClaimUseS_ev _ (by have := h3.1; omega) (h3.2) _ | with_reducible exact szStringS_ev _ (by have := h4.1; omega) (h4.2) _ | with_reducible exact szStringS_ev _ (by have := h5.1; omega) (h5.2) _ | refine ex_ite ?_ ?_ | refine ex_bind ?_ (fun t => ?_))
theorem szCtlWord_ev (x : S_laws_CtlWord) (h : ok_laws_CtlWord x) (a : Int) : ∃ q, Ev (fun k => laws_szCtlWord.f k x.f0 x.f1 x.f2 x.f3.f0 x.f3.f1 x.f3.f2 x.f3.f3 x.f3.f4 x.f3.f5 x.f4 x.f5 a) q := by
  have h0 := h.1
  have h1 := h.2.1
  have h2 := h.2.2.1
  have h3 := h.2.2.2.1
  have h4 := h.2.2.2.2.1
  have h5 := h.2.2.2.2.2
  unfold laws_szCtlWord.f
  repeat' (first | exact ex_ret | with_reducible exact szClaimWant_ev _ (h3) _ | refine ex_ite ?_ ?_ | refine ex_bind ?_ (fun t => ?_))
theorem toStringS_ev (l : List ByteArray) (hl : l.length ≤ 8796093022208) : Ev (fun k => laws_toStringS.f k l) l := by
  unfold laws_toStringS.f
  refine ev_pos (by omega) ?_
  refine loopL ByteArray.empty l (P := fun i _ => ∀ y : List ByteArray, y.length = l.length → (∀ j, j < i → y.getD j ByteArray.empty = l.getD j ByteArray.empty) → Ev (fun k => laws_toStringS.l0 k l y (i : Int)) l)
    (fun y hyl hy => by
      obtain rfl := fill_end ByteArray.empty l y hyl (fun j hj => hy j hj)
      refine Ev.step (fun k => by rw [laws_toStringS.l0]) (ev_neg (by omega) (ev_ret rfl)))
    (fun i x r hi hx hm _ ih y hyl hy => by
      refine Ev.step (fun k => by rw [laws_toStringS.l0]) (ev_pos (by omega) (ev_pos (by omega) (ev_pos (by omega) ?_)))
      rw [wsucc hi (by omega), Int.toNat_natCast, rdOf_nat]
      obtain ⟨h1, h2⟩ := fill_step ByteArray.empty l y i hyl hi hy (l.getD i ByteArray.empty) rfl
      exact ih _ h1 h2) _ (by simp) (fun j hj => absurd hj (Nat.not_lt_zero _))
def cv_laws_PlantFoe (x : S_laws_PlantFoe) : S_impl_PlantFoe := ⟨x.f0, x.f1⟩
theorem toPlantFoe_ev (x : S_laws_PlantFoe) (h : ok_laws_PlantFoe x) : Ev (fun k => laws_toPlantFoe.f x.f0 x.f1) ((cv_laws_PlantFoe x).f0, (cv_laws_PlantFoe x).f1) := by
  have h0 := h.1
  have h1 := h.2
  unfold laws_toPlantFoe.f
  repeat' (first | exact ev_ret rfl)
theorem toPlantFoeS_ev (l : List S_laws_PlantFoe) (hl : l.length ≤ 4398046511104) (h : ∀ z ∈ l, ok_laws_PlantFoe z) : Ev (fun k => laws_toPlantFoeS.f k l) (l.map cv_laws_PlantFoe) := by
  unfold laws_toPlantFoeS.f
  refine ev_pos (by omega) ?_
  refine loopL z_laws_PlantFoe l (P := fun i _ => ∀ y : List S_impl_PlantFoe, y.length = l.length → (∀ j, j < i → y.getD j z_impl_PlantFoe = (l.map cv_laws_PlantFoe).getD j z_impl_PlantFoe) → Ev (fun k => laws_toPlantFoeS.l0 k l y (i : Int)) (l.map cv_laws_PlantFoe))
    (fun y hyl hy => by
      obtain rfl := fill_end z_impl_PlantFoe (l.map cv_laws_PlantFoe) y (by simpa using hyl) (fun j hj => hy j (by simpa using hj))
      refine Ev.step (fun k => by rw [laws_toPlantFoeS.l0]) (ev_neg (by omega) (ev_ret rfl)))
    (fun i x r hi hx hm _ ih y hyl hy => by
      refine Ev.step (fun k => by rw [laws_toPlantFoeS.l0]) (ev_pos (by omega) (ev_pos (by omega) ?_))
      rw [wsucc hi (by omega), Int.toNat_natCast, show rd_laws_PlantFoe l (i : Int) = x from by unfold rd_laws_PlantFoe; simpa using hx]
      refine Ev.bind (toPlantFoe_ev x (h x hm)) (ev_pos (by omega) ?_)
      obtain ⟨h1, h2⟩ := fill_step z_impl_PlantFoe (l.map cv_laws_PlantFoe) y i (by simpa using hyl) (by simpa using hi) hy (cv_laws_PlantFoe x) (by rw [map_getD z_impl_PlantFoe z_laws_PlantFoe _ l i hi, hx])
      exact ih _ (by rw [h1]; simp) h2) _ (by simp) (fun j hj => absurd hj (Nat.not_lt_zero _))
def cv_laws_PlantPlace (x : S_laws_PlantPlace) : S_impl_PlantPlace := ⟨x.f0, x.f1, x.f2⟩
theorem toPlantPlace_ev (x : S_laws_PlantPlace) (h : ok_laws_PlantPlace x) : Ev (fun k => laws_toPlantPlace.f x.f0 x.f1 x.f2) ((cv_laws_PlantPlace x).f0, (cv_laws_PlantPlace x).f1, (cv_laws_PlantPlace x).f2) := by
  have h0 := h.1
  have h1 := h.2.1
  have h2 := h.2.2
  unfold laws_toPlantPlace.f
  repeat' (first | exact ev_ret rfl)
theorem toPlantPlaceS_ev (l : List S_laws_PlantPlace) (hl : l.length ≤ 3518437208883) (h : ∀ z ∈ l, ok_laws_PlantPlace z) : Ev (fun k => laws_toPlantPlaceS.f k l) (l.map cv_laws_PlantPlace) := by
  unfold laws_toPlantPlaceS.f
  refine ev_pos (by omega) ?_
  refine loopL z_laws_PlantPlace l (P := fun i _ => ∀ y : List S_impl_PlantPlace, y.length = l.length → (∀ j, j < i → y.getD j z_impl_PlantPlace = (l.map cv_laws_PlantPlace).getD j z_impl_PlantPlace) → Ev (fun k => laws_toPlantPlaceS.l0 k l y (i : Int)) (l.map cv_laws_PlantPlace))
    (fun y hyl hy => by
      obtain rfl := fill_end z_impl_PlantPlace (l.map cv_laws_PlantPlace) y (by simpa using hyl) (fun j hj => hy j (by simpa using hj))
      refine Ev.step (fun k => by rw [laws_toPlantPlaceS.l0]) (ev_neg (by omega) (ev_ret rfl)))
    (fun i x r hi hx hm _ ih y hyl hy => by
      refine Ev.step (fun k => by rw [laws_toPlantPlaceS.l0]) (ev_pos (by omega) (ev_pos (by omega) ?_))
      rw [wsucc hi (by omega), Int.toNat_natCast, show rd_laws_PlantPlace l (i : Int) = x from by unfold rd_laws_PlantPlace; simpa using hx]
      refine Ev.bind (toPlantPlace_ev x (h x hm)) (ev_pos (by omega) ?_)
      obtain ⟨h1, h2⟩ := fill_step z_impl_PlantPlace (l.map cv_laws_PlantPlace) y i (by simpa using hyl) (by simpa using hi) hy (cv_laws_PlantPlace x) (by rw [map_getD z_impl_PlantPlace z_laws_PlantPlace _ l i hi, hx])
      exact ih _ (by rw [h1]; simp) h2) _ (by simp) (fun j hj => absurd hj (Nat.not_lt_zero _))
def cv_laws_PlantValve (x : S_laws_PlantValve) : S_impl_PlantValve := ⟨x.f0, x.f1, x.f2, x.f3⟩
theorem toPlantValve_ev (x : S_laws_PlantValve) (h : ok_laws_PlantValve x) : Ev (fun k => laws_toPlantValve.f x.f0 x.f1 x.f2 x.f3) ((cv_laws_PlantValve x).f0, (cv_laws_PlantValve x).f1, (cv_laws_PlantValve x).f2, (cv_laws_PlantValve x).f3) := by
  have h0 := h.1
  have h1 := h.2.1
  have h2 := h.2.2.1
  have h3 := h.2.2.2
  unfold laws_toPlantValve.f
  repeat' (first | exact ev_ret rfl)
theorem toPlantValveS_ev (l : List S_laws_PlantValve) (hl : l.length ≤ 2199023255552) (h : ∀ z ∈ l, ok_laws_PlantValve z) : Ev (fun k => laws_toPlantValveS.f k l) (l.map cv_laws_PlantValve) := by
  unfold laws_toPlantValveS.f
  refine ev_pos (by omega) ?_
  refine loopL z_laws_PlantValve l (P := fun i _ => ∀ y : List S_impl_PlantValve, y.length = l.length → (∀ j, j < i → y.getD j z_impl_PlantValve = (l.map cv_laws_PlantValve).getD j z_impl_PlantValve) → Ev (fun k => laws_toPlantValveS.l0 k l y (i : Int)) (l.map cv_laws_PlantValve))
    (fun y hyl hy => by
      obtain rfl := fill_end z_impl_PlantValve (l.map cv_laws_PlantValve) y (by simpa using hyl) (fun j hj => hy j (by simpa using hj))
      refine Ev.step (fun k => by rw [laws_toPlantValveS.l0]) (ev_neg (by omega) (ev_ret rfl)))
    (fun i x r hi hx hm _ ih y hyl hy => by
      refine Ev.step (fun k => by rw [laws_toPlantValveS.l0]) (ev_pos (by omega) (ev_pos (by omega) ?_))
      rw [wsucc hi (by omega), Int.toNat_natCast, show rd_laws_PlantValve l (i : Int) = x from by unfold rd_laws_PlantValve; simpa using hx]
      refine Ev.bind (toPlantValve_ev x (h x hm)) (ev_pos (by omega) ?_)
      obtain ⟨h1, h2⟩ := fill_step z_impl_PlantValve (l.map cv_laws_PlantValve) y i (by simpa using hyl) (by simpa using hi) hy (cv_laws_PlantValve x) (by rw [map_getD z_impl_PlantValve z_laws_PlantValve _ l i hi, hx])
      exact ih _ (by rw [h1]; simp) h2) _ (by simp) (fun j hj => absurd hj (Nat.not_lt_zero _))
theorem toPlant_ev (x : S_laws_Plant) (h : ok_laws_Plant x) : Ev (fun k => laws_toPlant.f k x.f0 x.f1 x.f2 x.f3) (x.f0, x.f1.map cv_laws_PlantFoe, x.f2.map cv_laws_PlantPlace, x.f3.map cv_laws_PlantValve) := by
  have h0 := h.1
  have h1 := h.2.1
  have h2 := h.2.2.1
  have h3 := h.2.2.2
  unfold laws_toPlant.f
  repeat' (first | with_reducible refine Ev.bind (toStringS_ev _ (by have := h0.1; omega)) ?_ | with_reducible refine Ev.bind (toPlantFoeS_ev _ (by have := h1.1; omega) h1.2) ?_ | with_reducible refine Ev.bind (toPlantPlaceS_ev _ (by have := h2.1; omega) h2.2) ?_ | with_reducible refine Ev.bind (toPlantValveS_ev _ (by have := h3.1; omega) h3.2) ?_ | exact ev_ret rfl)
def cv_laws_ClaimUse (x : S_laws_ClaimUse) : S_impl_ClaimUse := ⟨x.f0, x.f1, x.f2⟩
theorem toClaimUse_ev (x : S_laws_ClaimUse) (h : ok_laws_ClaimUse x) : Ev (fun k => laws_toClaimUse.f x.f0 x.f1 x.f2) ((cv_laws_ClaimUse x).f0, (cv_laws_ClaimUse x).f1, (cv_laws_ClaimUse x).f2) := by
  have h0 := h.1
  have h1 := h.2.1
  have h2 := h.2.2
  unfold laws_toClaimUse.f
  repeat' (first | exact ev_ret rfl)
theorem toClaimUseS_ev (l : List S_laws_ClaimUse) (hl : l.length ≤ 4398046511104) (h : ∀ z ∈ l, ok_laws_ClaimUse z) : Ev (fun k => laws_toClaimUseS.f k l) (l.map cv_laws_ClaimUse) := by
  unfold laws_toClaimUseS.f
  refine ev_pos (by omega) ?_
  refine loopL z_laws_ClaimUse l (P := fun i _ => ∀ y : List S_impl_ClaimUse, y.length = l.length → (∀ j, j < i → y.getD j z_impl_ClaimUse = (l.map cv_laws_ClaimUse).getD j z_impl_ClaimUse) → Ev (fun k => laws_toClaimUseS.l0 k l y (i : Int)) (l.map cv_laws_ClaimUse))
    (fun y hyl hy => by
      obtain rfl := fill_end z_impl_ClaimUse (l.map cv_laws_ClaimUse) y (by simpa using hyl) (fun j hj => hy j (by simpa using hj))
      refine Ev.step (fun k => by rw [laws_toClaimUseS.l0]) (ev_neg (by omega) (ev_ret rfl)))
    (fun i x r hi hx hm _ ih y hyl hy => by
      refine Ev.step (fun k => by rw [laws_toClaimUseS.l0]) (ev_pos (by omega) (ev_pos (by omega) ?_))
      rw [wsucc hi (by omega), Int.toNat_natCast, show rd_laws_ClaimUse l (i : Int) = x from by unfold rd_laws_ClaimUse; simpa using hx]
      refine Ev.bind (toClaimUse_ev x (h x hm)) (ev_pos (by omega) ?_)
      obtain ⟨h1, h2⟩ := fill_step z_impl_ClaimUse (l.map cv_laws_ClaimUse) y i (by simpa using hyl) (by simpa using hi) hy (cv_laws_ClaimUse x) (by rw [map_getD z_impl_ClaimUse z_laws_ClaimUse _ l i hi, hx])
      exact ih _ (by rw [h1]; simp) h2) _ (by simp) (fun j hj => absurd hj (Nat.not_lt_zero _))
def cv_laws_ClaimWant (x : S_laws_ClaimWant) : S_impl_ClaimWant := ⟨x.f0, x.f1, x.f2, x.f3.map cv_laws_ClaimUse, x.f4, x.f5⟩
theorem toClaimWant_ev (x : S_laws_ClaimWant) (h : ok_laws_ClaimWant x) : Ev (fun k => laws_toClaimWant.f k x.f0 x.f1 x.f2 x.f3 x.f4 x.f5) ((cv_laws_ClaimWant x).f0, (cv_laws_ClaimWant x).f1, (cv_laws_ClaimWant x).f2, (cv_laws_ClaimWant x).f3, (cv_laws_ClaimWant x).f4, (cv_laws_ClaimWant x).f5) := by
  have h0 := h.1
  have h1 := h.2.1
  have h2 := h.2.2.1
  have h3 := h.2.2.2.1
  have h4 := h.2.2.2.2.1
  have h5 := h.2.2.2.2.2
  unfold laws_toClaimWant.f
  repeat' (first | with_reducible refine Ev.bind (toStringS_ev _ (by have := h2.1; omega)) ?_ | with_reducible refine Ev.bind (toClaimUseS_ev _ (by have := h3.1; omega) h3.2) ?_ | with_reducible refine Ev.bind (toStringS_ev _ (by have := h4.1; omega)) ?_ | with_reducible refine Ev.bind (toStringS_ev _ (by have := h5.1; omega)) ?_ | exact ev_ret rfl)
theorem toCtlWord_ev (x : S_laws_CtlWord) (h : ok_laws_CtlWord x) : Ev (fun k => laws_toCtlWord.f k x.f0 x.f1 x.f2 x.f3.f0 x.f3.f1 x.f3.f2 x.f3.f3 x.f3.f4 x.f3.f5 x.f4 x.f5) (x.f0, x.f1, x.f2, x.f3.f0, x.f3.f1, x.f3.f2, x.f3.f3.map cv_laws_ClaimUse, x.f3.f4, x.f3.f5, x.f4, x.f5) := by
  have h0 := h.1
  have h1 := h.2.1
  have h2 := h.2.2.1
  have h3 := h.2.2.2.1
  have h4 := h.2.2.2.2.1
  have h5 := h.2.2.2.2.2
  unfold laws_toCtlWord.f
  repeat' (first | with_reducible refine Ev.bind (toClaimWant_ev _ h3) ?_ | exact ev_ret rfl)
theorem eqStringS_ev (l : List ByteArray) (hl : l.length ≤ 140737488351232) : Ev (fun k => laws_eqStringS.f k l l) true := by
  unfold laws_eqStringS.f
  refine ev_pos rfl ?_
  refine loopL ByteArray.empty l (P := fun i _ => Ev (fun k => laws_eqStringS.l0 k l l (i : Int)) true)
    (Ev.step (fun k => by rw [laws_eqStringS.l0]) (ev_neg (by omega) (ev_ret rfl)))
    (fun i x r hi hx hm _ ih => Ev.step (fun k => by rw [laws_eqStringS.l0]) (ev_pos (by omega) (ev_pos (by omega) (ev_pos (by omega) (by
      rw [wsucc hi (by omega)]
      exact ev_pos rfl ih)))))
def ok_impl_PlantFoe (y : S_impl_PlantFoe) : Prop := (y.f0.size ≤ 140737488351232) ∧ (y.f1.size ≤ 140737488351232)
theorem eqPlantFoe_ev (x : S_impl_PlantFoe) (h : ok_impl_PlantFoe x) : Ev (fun k => laws_eqPlantFoe.f x.f0 x.f1 x.f0 x.f1) true := by
  have h0 := h.1
  have h1 := h.2
  unfold laws_eqPlantFoe.f
  repeat' (first | exact ev_ret rfl | refine ev_pos rfl ?_ | refine ev_neg (by simp) ?_)
theorem eqPlantFoeS_ev (l : List S_impl_PlantFoe) (hl : l.length ≤ 140737488351232) (h : ∀ z ∈ l, ok_impl_PlantFoe z) : Ev (fun k => laws_eqPlantFoeS.f k l l) true := by
  unfold laws_eqPlantFoeS.f
  refine ev_pos rfl ?_
  refine loopL z_impl_PlantFoe l (P := fun i _ => Ev (fun k => laws_eqPlantFoeS.l0 k l l (i : Int)) true)
    (Ev.step (fun k => by rw [laws_eqPlantFoeS.l0]) (ev_neg (by omega) (ev_ret rfl)))
    (fun i x r hi hx hm _ ih => Ev.step (fun k => by rw [laws_eqPlantFoeS.l0]) (ev_pos (by omega) (ev_pos (by omega) (ev_pos (by omega) (by
      rw [wsucc hi (by omega)]
      rw [show rd_impl_PlantFoe l (i : Int) = x from by unfold rd_impl_PlantFoe; simpa using hx]
      exact Ev.bind (eqPlantFoe_ev x (h x hm)) (ev_pos rfl ih))))))
def ok_impl_PlantPlace (y : S_impl_PlantPlace) : Prop := (y.f0.size ≤ 140737488351232) ∧ ((Lit.int .i64 y.f1).wf = true) ∧ (y.f2.size ≤ 140737488351232)
theorem eqPlantPlace_ev (x : S_impl_PlantPlace) (h : ok_impl_PlantPlace x) : Ev (fun k => laws_eqPlantPlace.f x.f0 x.f1 x.f2 x.f0 x.f1 x.f2) true := by
  have h0 := h.1
  have h1 := h.2.1
  have h2 := h.2.2
  unfold laws_eqPlantPlace.f
  repeat' (first | exact ev_ret rfl | refine ev_pos rfl ?_ | refine ev_neg (by simp) ?_)
theorem eqPlantPlaceS_ev (l : List S_impl_PlantPlace) (hl : l.length ≤ 140737488351232) (h : ∀ z ∈ l, ok_impl_PlantPlace z) : Ev (fun k => laws_eqPlantPlaceS.f k l l) true := by
  unfold laws_eqPlantPlaceS.f
  refine ev_pos rfl ?_
  refine loopL z_impl_PlantPlace l (P := fun i _ => Ev (fun k => laws_eqPlantPlaceS.l0 k l l (i : Int)) true)
    (Ev.step (fun k => by rw [laws_eqPlantPlaceS.l0]) (ev_neg (by omega) (ev_ret rfl)))
    (fun i x r hi hx hm _ ih => Ev.step (fun k => by rw [laws_eqPlantPlaceS.l0]) (ev_pos (by omega) (ev_pos (by omega) (ev_pos (by omega) (by
      rw [wsucc hi (by omega)]
      rw [show rd_impl_PlantPlace l (i : Int) = x from by unfold rd_impl_PlantPlace; simpa using hx]
      exact Ev.bind (eqPlantPlace_ev x (h x hm)) (ev_pos rfl ih))))))
def ok_impl_PlantValve (y : S_impl_PlantValve) : Prop := (y.f0.size ≤ 140737488351232) ∧ (y.f1.size ≤ 140737488351232) ∧ (y.f2.size ≤ 140737488351232) ∧ (y.f3.size ≤ 140737488351232)
theorem eqPlantValve_ev (x : S_impl_PlantValve) (h : ok_impl_PlantValve x) : Ev (fun k => laws_eqPlantValve.f x.f0 x.f1 x.f2 x.f3 x.f0 x.f1 x.f2 x.f3) true := by
  have h0 := h.1
  have h1 := h.2.1
  have h2 := h.2.2.1
  have h3 := h.2.2.2
  unfold laws_eqPlantValve.f
  repeat' (first | exact ev_ret rfl | refine ev_pos rfl ?_ | refine ev_neg (by simp) ?_)
theorem eqPlantValveS_ev (l : List S_impl_PlantValve) (hl : l.length ≤ 140737488351232) (h : ∀ z ∈ l, ok_impl_PlantValve z) : Ev (fun k => laws_eqPlantValveS.f k l l) true := by
  unfold laws_eqPlantValveS.f
  refine ev_pos rfl ?_
  refine loopL z_impl_PlantValve l (P := fun i _ => Ev (fun k => laws_eqPlantValveS.l0 k l l (i : Int)) true)
    (Ev.step (fun k => by rw [laws_eqPlantValveS.l0]) (ev_neg (by omega) (ev_ret rfl)))
    (fun i x r hi hx hm _ ih => Ev.step (fun k => by rw [laws_eqPlantValveS.l0]) (ev_pos (by omega) (ev_pos (by omega) (ev_pos (by omega) (by
      rw [wsucc hi (by omega)]
      rw [show rd_impl_PlantValve l (i : Int) = x from by unfold rd_impl_PlantValve; simpa using hx]
      exact Ev.bind (eqPlantValve_ev x (h x hm)) (ev_pos rfl ih))))))
theorem eqPlant_ev (x0 : List ByteArray) (x1 : List S_impl_PlantFoe) (x2 : List S_impl_PlantPlace) (x3 : List S_impl_PlantValve) (h0 : (x0.length ≤ 9223372036854775807 ∧ x0.length * 16 ≤ 140737488351232) ∧ ∀ z ∈ x0, z.size ≤ 140737488351232) (h1 : (x1.length ≤ 9223372036854775807 ∧ x1.length * 32 ≤ 140737488351232) ∧ ∀ z ∈ x1, ok_impl_PlantFoe z) (h2 : (x2.length ≤ 9223372036854775807 ∧ x2.length * 40 ≤ 140737488351232) ∧ ∀ z ∈ x2, ok_impl_PlantPlace z) (h3 : (x3.length ≤ 9223372036854775807 ∧ x3.length * 64 ≤ 140737488351232) ∧ ∀ z ∈ x3, ok_impl_PlantValve z) : Ev (fun k => laws_eqPlant.f k x0 x1 x2 x3 x0 x1 x2 x3) true := by
  unfold laws_eqPlant.f
  repeat' (first | with_reducible refine Ev.bind (eqStringS_ev _ (by have := h0.1; omega)) ?_ | with_reducible refine Ev.bind (eqPlantFoeS_ev _ (by have := h1.1; omega) h1.2) ?_ | with_reducible refine Ev.bind (eqPlantPlaceS_ev _ (by have := h2.1; omega) h2.2) ?_ | with_reducible refine Ev.bind (eqPlantValveS_ev _ (by have := h3.1; omega) h3.2) ?_ | exact ev_ret rfl | refine ev_pos rfl ?_ | refine ev_neg (by simp) ?_)
def ok_impl_ClaimUse (y : S_impl_ClaimUse) : Prop := (y.f0.size ≤ 140737488351232) ∧ ((Lit.int .i64 y.f1).wf = true) ∧ ((Lit.int .i64 y.f2).wf = true)
theorem eqClaimUse_ev (x : S_impl_ClaimUse) (h : ok_impl_ClaimUse x) : Ev (fun k => laws_eqClaimUse.f x.f0 x.f1 x.f2 x.f0 x.f1 x.f2) true := by
  have h0 := h.1
  have h1 := h.2.1
  have h2 := h.2.2
  unfold laws_eqClaimUse.f
  repeat' (first | exact ev_ret rfl | refine ev_pos rfl ?_ | refine ev_neg (by simp) ?_)
theorem eqClaimUseS_ev (l : List S_impl_ClaimUse) (hl : l.length ≤ 140737488351232) (h : ∀ z ∈ l, ok_impl_ClaimUse z) : Ev (fun k => laws_eqClaimUseS.f k l l) true := by
  unfold laws_eqClaimUseS.f
  refine ev_pos rfl ?_
  refine loopL z_impl_ClaimUse l (P := fun i _ => Ev (fun k => laws_eqClaimUseS.l0 k l l (i : Int)) true)
    (Ev.step (fun k => by rw [laws_eqClaimUseS.l0]) (ev_neg (by omega) (ev_ret rfl)))
    (fun i x r hi hx hm _ ih => Ev.step (fun k => by rw [laws_eqClaimUseS.l0]) (ev_pos (by omega) (ev_pos (by omega) (ev_pos (by omega) (by
      rw [wsucc hi (by omega)]
      rw [show rd_impl_ClaimUse l (i : Int) = x from by unfold rd_impl_ClaimUse; simpa using hx]
      exact Ev.bind (eqClaimUse_ev x (h x hm)) (ev_pos rfl ih))))))
def ok_impl_ClaimWant (y : S_impl_ClaimWant) : Prop := ((Lit.int .i64 y.f0).wf = true) ∧ ((Lit.int .i64 y.f1).wf = true) ∧ ((y.f2.length ≤ 9223372036854775807 ∧ y.f2.length * 16 ≤ 140737488351232) ∧ ∀ z ∈ y.f2, z.size ≤ 140737488351232) ∧ ((y.f3.length ≤ 9223372036854775807 ∧ y.f3.length * 32 ≤ 140737488351232) ∧ ∀ z ∈ y.f3, ok_impl_ClaimUse z) ∧ ((y.f4.length ≤ 9223372036854775807 ∧ y.f4.length * 16 ≤ 140737488351232) ∧ ∀ z ∈ y.f4, z.size ≤ 140737488351232) ∧ ((y.f5.length ≤ 9223372036854775807 ∧ y.f5.length * 16 ≤ 140737488351232) ∧ ∀ z ∈ y.f5, z.size ≤ 140737488351232)
theorem eqClaimWant_ev (x : S_impl_ClaimWant) (h : ok_impl_ClaimWant x) : Ev (fun k => laws_eqClaimWant.f k x.f0 x.f1 x.f2 x.f3 x.f4 x.f5 x.f0 x.f1 x.f2 x.f3 x.f4 x.f5) true := by
  have h0 := h.1
  have h1 := h.2.1
  have h2 := h.2.2.1
  have h3 := h.2.2.2.1
  have h4 := h.2.2.2.2.1
  have h5 := h.2.2.2.2.2
  unfold laws_eqClaimWant.f
  repeat' (first | with_reducible refine Ev.bind (eqStringS_ev _ (by have := h2.1; omega)) ?_ | with_reducible refine Ev.bind (eqClaimUseS_ev _ (by have := h3.1; omega) h3.2) ?_ | with_reducible refine Ev.bind (eqStringS_ev _ (by have := h4.1; omega)) ?_ | with_reducible refine Ev.bind (eqStringS_ev _ (by have := h5.1; omega)) ?_ | exact ev_ret rfl | refine ev_pos rfl ?_ | refine ev_neg (by simp) ?_)
theorem eqCtlWord_ev (x0 : Int) (x1 : ByteArray) (x2 : Int) (x3 : S_impl_ClaimWant) (x4 : Int) (x5 : Bool) (h0 : (Lit.int .i64 x0).wf = true) (h1 : x1.size ≤ 140737488351232) (h2 : (Lit.int .i64 x2).wf = true) (h3 : ok_impl_ClaimWant x3) (h4 : (Lit.int .i64 x4).wf = true) (h5 : True) : Ev (fun k => laws_eqCtlWord.f k x0 x1 x2 x3.f0 x3.f1 x3.f2 x3.f3 x3.f4 x3.f5 x4 x5 x0 x1 x2 x3.f0 x3.f1 x3.f2 x3.f3 x3.f4 x3.f5 x4 x5) true := by
  unfold laws_eqCtlWord.f
  repeat' (first | with_reducible refine Ev.bind (eqClaimWant_ev _ h3) ?_ | exact ev_ret rfl | refine ev_pos rfl ?_ | refine ev_neg (by simp) ?_)
/-! ### names -/
theorem ev_b {α : Type} {b : Bool} {g f : Nat → Option α} {r : α} (h : b = true → Ev g r) (k : b = false → Ev f r) : Ev (fun n => if b = true then g n else f n) r := by
  cases b
  · exact ev_neg (by simp) (k rfl)
  · exact ev_pos rfl (h rfl)
/-- a yes or no that is asked -/
theorem ev_ask {α : Type} {o g f : Nat → Option α} {q : Nat → Option Bool} {b : Bool} {r : α} (hq : Ev q b) (h : b = true → Ev g r) (k : b = false → Ev f r) : Ev (fun n => (q n).bind fun t => if t = true then g n else f n) r := Ev.bind (f := fun n t => if t = true then g n else f n) hq (ev_b h k)
def okc (c : Int) : Bool := (decide (97 ≤ c) && decide (c ≤ 122)) || ((decide (48 ≤ c) && decide (c ≤ 57)) || decide (c = 45))
theorem okc_t {c : Int} (h : 97 ≤ c ∧ c ≤ 122 ∨ 48 ≤ c ∧ c ≤ 57 ∨ c = 45) : okc c = true := by simp [okc]; omega
theorem okc_f {c : Int} (h : ¬ (97 ≤ c ∧ c ≤ 122 ∨ 48 ≤ c ∧ c ≤ 57 ∨ c = 45)) : okc c = false := by
  rw [← Bool.not_eq_true]; intro q; apply h; simp [okc] at q; omega
def allFrom (s : ByteArray) (i : Nat) : Bool := decide (∀ j, j < s.size → i ≤ j → okc (bt s (j : Int)) = true)
theorem allFrom_step (s : ByteArray) (i : Nat) (h : i < s.size) : allFrom s i = (okc (bt s (i : Int)) && allFrom s (i + 1)) := by
  unfold allFrom
  rw [Bool.eq_iff_iff, Bool.and_eq_true, decide_eq_true_iff, decide_eq_true_iff]
  refine ⟨fun q => ⟨q i h (Nat.le_refl _), fun j hj hi => q j hj (by omega)⟩, fun q j hj hi => ?_⟩
  by_cases e : j = i
  · rw [e]; exact q.1
  · exact q.2 j hj (by omega)
theorem allFrom_end (s : ByteArray) : allFrom s s.size = true := by
  unfold allFrom
  rw [decide_eq_true_iff]
  intro j hj hi; omega
def nameB (s : ByteArray) : Bool := decide (1 ≤ s.size ∧ s.size ≤ 8) && allFrom s 0
/-- a walk over the places of a text -/
theorem loopN (n : Nat) {P : Nat → Prop} (h0 : P n) (hs : ∀ i, i < n → P (i + 1) → P i) : P 0 := by
  have key : ∀ (m i : Nat), i + m = n → P i := fun m => by
    induction m with
    | zero => intro i hi; have e : i = n := by omega
              subst e; exact h0
    | succ m ih => intro i hi; exact hs i (by omega) (ih (i + 1) (by omega))
  exact key n 0 (by omega)
/-- each before the next -/
def chainB {α : Type} (p : α → α → Bool) : Option α → List α → Bool
  | _, [] => true
  | none, x :: r => chainB p (some x) r
  | some y, x :: r => p y x && chainB p (some x) r
def namesB (l : List ByteArray) : Bool := l.all nameB && chainB lt none l
def hasB (l : List ByteArray) (s : ByteArray) : Bool := l.any fun x => decide (x = s)
theorem hasB_iff {l : List ByteArray} {s : ByteArray} : hasB l s = true ↔ s ∈ l := by
  unfold hasB
  rw [List.any_eq_true]
  exact ⟨fun ⟨x, h, e⟩ => by simp at e; exact e ▸ h, fun h => ⟨s, h, by simp⟩⟩
def inB (a b c : Int) : Bool := decide (b ≤ a ∧ a ≤ c)
theorem inB_t {a b c : Int} (h : b ≤ a ∧ a ≤ c) : inB a b c = true := decide_eq_true h
theorem inB_f {a b c : Int} (h : ¬ (b ≤ a ∧ a ≤ c)) : inB a b c = false := decide_eq_false h
theorem l2In_ev (a b c : Int) : Ev (fun _ => spec_l1In.f a b c) (inB a b c) := by
  unfold spec_l1In.f inB
  refine ev_split (fun h => ev_ret (decide_eq_decide.2 (by omega))) (fun h => ev_ret ?_)
  symm; apply decide_eq_false; omega
theorem l2NameOk_ev (s : ByteArray) : Ev (fun k => spec_l2NameOk.f k s) (nameB s) := by
  unfold spec_l2NameOk.f nameB
  refine Ev.bind (l2In_ev _ _ _) (ev_b (fun h => ?_) (fun h => ev_ret ?_))
  · have hs : 1 ≤ s.size ∧ s.size ≤ 8 := by have : inB _ _ _ = true := h; unfold inB at this; have := of_decide_eq_true this; omega
    rw [decide_eq_true hs, Bool.true_and]
    refine loopN s.size (P := fun i => Ev (fun k => spec_l2NameOk.l0 k s (i : Int)) (allFrom s i))
      (by refine Ev.step (fun k => by rw [spec_l2NameOk.l0]) ?_; exact ev_neg (by omega) (ev_ret (allFrom_end s).symm)) (fun i hi ih => ?_)
    refine Ev.step (fun k => by rw [spec_l2NameOk.l0]) (ev_pos (by omega) (ev_pos (by omega) ?_))
    rw [wsucc hi (by omega), allFrom_step s i hi]
    generalize bt s (i : Int) = c
    repeat' (first | (refine ev_split (fun _ => ?_) (fun _ => ?_)) | (rw [okc_t (by omega), Bool.true_and]; exact ih) | (rw [okc_f (by omega)]; exact ev_ret rfl))
  · have hs : ¬ (1 ≤ s.size ∧ s.size ≤ 8) := fun q => by have : inB _ _ _ = false := h; unfold inB at this; have := of_decide_eq_false this; omega
    rw [decide_eq_false hs]; rfl
theorem l2Has_ev (l : List ByteArray) (s : ByteArray) (hn : l.length ≤ 140737488351232) : Ev (fun k => spec_l2Has.f k l s) (hasB l s) := by
  unfold spec_l2Has.f hasB
  refine loopL ByteArray.empty l (P := fun i r => Ev (fun k => spec_l2Has.l0 k l s (i : Int)) (r.any fun x => decide (x = s)))
    (by refine Ev.step (fun k => by rw [spec_l2Has.l0]) ?_; exact ev_neg (by omega) (ev_ret rfl)) (fun i x r hi hx _ _ ih => ?_)
  refine Ev.step (fun k => by rw [spec_l2Has.l0]) (ev_pos (by omega) (ev_pos (by omega) ?_))
  rw [wsucc hi (by omega), rdOf_nat, hx]
  refine ev_split (fun c => ev_ret ?_) (fun c => ev_eq ih ?_)
  · simp [ba_iff.1 c]
  · simp [show ¬ x = s from fun e => c (ba_iff.2 e)]
theorem isName_ev (s : ByteArray) (hn : s.size ≤ 140737488351232) : Ev (fun k => impl_isName.f k s) (nameB s) := by
  unfold impl_isName.f nameB
  refine loopN s.size (P := fun i => Ev (fun k => impl_isName.l0 k s (i : Int)) (decide (1 ≤ s.size ∧ s.size ≤ 8) && allFrom s i))
    (by
      refine Ev.step (fun k => by rw [impl_isName.l0]) (ev_neg (by omega) ?_)
      rw [allFrom_end, Bool.and_true]
      refine ev_split (fun h => ev_ret (decide_eq_decide.2 (by omega))) (fun h => ev_ret ?_)
      symm; apply decide_eq_false; omega) (fun i hi ih => ?_)
  refine Ev.step (fun k => by rw [impl_isName.l0]) (ev_pos (by omega) (ev_pos (by omega) ?_))
  rw [wsucc hi (by omega), allFrom_step s i hi]
  generalize bt s (i : Int) = c
  repeat' (first | (refine ev_split (fun _ => ?_) (fun _ => ?_)) | (rw [okc_t (by omega), Bool.true_and]; exact ih) | (rw [okc_f (by omega), Bool.false_and, Bool.and_false]; exact ev_ret rfl))
theorem chain_none {α : Type} (p : α → α → Bool) (x : α) (r : List α) : chainB p none (x :: r) = chainB p (some x) r := rfl
theorem rising_ev (l : List ByteArray) (hn : l.length ≤ 140737488351232) : Ev (fun k => impl_rising.f k l) (chainB lt none l) := by
  unfold impl_rising.f
  have key : ∀ r i, l.drop (i + 1) = r → i < l.length → Ev (fun k => impl_rising.l0 k l ((i + 1 : Nat) : Int)) (chainB lt (some (l.getD i ByteArray.empty)) r) := fun r => by
    induction r with
    | nil =>
      intro i hd hi
      have : l.length ≤ i + 1 := List.drop_eq_nil_iff.1 hd
      refine Ev.step (fun k => by rw [impl_rising.l0]) ?_
      exact ev_neg (by omega) (ev_ret rfl)
    | cons x r ih =>
      intro i hd hi
      have hlt : i + 1 < l.length := by
        refine Nat.lt_of_not_le fun hle => ?_
        rw [List.drop_eq_nil_iff.2 hle] at hd; cases hd
      have e := List.drop_eq_getElem_cons hlt
      rw [hd] at e; injection e with e1 e2
      have hx : l.getD (i + 1) ByteArray.empty = x := by rw [getD_eq _ l _ hlt]; exact e1.symm
      refine Ev.step (fun k => by rw [impl_rising.l0]) (ev_pos (by omega) ?_)
      have hw : wrap64 (((i + 1 : Nat) : Int) - 1) = ((i : Nat) : Int) := by unfold wrap64; omega
      rw [hw, rdOf_nat, rdOf_nat, hx, wsucc hlt (by omega)]
      refine ev_pos (by omega) (ev_pos (by omega) (ev_pos (by omega) (ev_b (fun c => ?_) (fun c => ev_ret ?_))))
      · have c : lt (l.getD i ByteArray.empty) x = true := c
        have := ih (i + 1) e2.symm hlt
        rw [hx] at this
        simp only [chainB, c, Bool.true_and]; exact this
      · have c : lt (l.getD i ByteArray.empty) x = false := c
        simp only [chainB, c, Bool.false_and]
  cases l with
  | nil =>
    refine Ev.step (fun k => by rw [impl_rising.l0]) ?_
    exact ev_neg (show ¬ (1 : Int) < ((0 : Nat) : Int) by omega) (ev_ret rfl)
  | cons x r =>
    rw [chain_none]
    exact key r 0 rfl (by simp)
theorem names_ev (l : List ByteArray) (hn : l.length ≤ 140737488351232) (h : ∀ x ∈ l, x.size ≤ 140737488351232) : Ev (fun k => impl_names.f k l) (namesB l) := by
  unfold impl_names.f namesB
  refine loopL ByteArray.empty l (P := fun i r => Ev (fun k => impl_names.l0 k l (i : Int)) (r.all nameB && chainB lt none l))
    (by refine Ev.step (fun k => by rw [impl_names.l0]) ?_; exact ev_neg (by omega) (Ev.bind (rising_ev l hn) (ev_ret rfl))) (fun i x r hi hx hm _ ih => ?_)
  refine Ev.step (fun k => by rw [impl_names.l0]) (ev_pos (by omega) (ev_pos (by omega) ?_))
  rw [wsucc hi (by omega), rdOf_nat, hx]
  refine Ev.bind (isName_ev x (h x hm)) (ev_b (fun c => ?_) (fun c => ev_ret ?_))
  · simpa [c] using ih
  · simp [c]
theorem has_ev (l : List ByteArray) (s : ByteArray) (hn : l.length ≤ 140737488351232) : Ev (fun k => impl_has.f k l s) (hasB l s) := by
  have key : ∃ v : Int, (decide (v ≥ 0) = hasB l s) ∧ Ev (fun k => slices_Index_string_string.f k l s) v := by
    unfold slices_Index_string_string.f hasB
    refine loopL ByteArray.empty l (P := fun i r => ∃ v : Int, (decide (v ≥ 0) = r.any fun x => decide (x = s)) ∧ Ev (fun k => slices_Index_string_string.l0 k l s (i : Int)) v)
      ⟨-1, rfl, Ev.step (fun k => by rw [slices_Index_string_string.l0]) (ev_neg (by omega) (ev_ret rfl))⟩ (fun i x r hi hx _ _ ih => ?_)
    obtain ⟨v, hv, he⟩ := ih
    by_cases c : x = s
    · refine ⟨(i : Int), by simp [c], Ev.step (fun k => by rw [slices_Index_string_string.l0]) ?_⟩
      rw [rdOf_nat, hx]
      exact ev_pos (by omega) (ev_pos (by omega) (ev_pos (by rw [c]) (ev_ret rfl)))
    · refine ⟨v, by simpa [c] using hv, Ev.step (fun k => by rw [slices_Index_string_string.l0]) ?_⟩
      rw [rdOf_nat, hx, wsucc hi (by omega)]
      exact ev_pos (by omega) (ev_pos (by omega) (ev_neg (fun q => c (ba_ext q).symm) he))
  obtain ⟨v, hv, he⟩ := key
  unfold impl_has.f slices_Contains_string_string.f
  exact Ev.bind (Ev.bind he (ev_ret hv)) (ev_ret rfl)
/-! ### plants: what a valid one is -/
theorem rdF (l : List S_impl_PlantFoe) (i : Nat) : rd_impl_PlantFoe l (i : Int) = l.getD i z_impl_PlantFoe := by unfold rd_impl_PlantFoe; rw [Int.toNat_natCast]
theorem rdP (l : List S_impl_PlantPlace) (i : Nat) : rd_impl_PlantPlace l (i : Int) = l.getD i z_impl_PlantPlace := by unfold rd_impl_PlantPlace; rw [Int.toNat_natCast]
theorem rdV (l : List S_impl_PlantValve) (i : Nat) : rd_impl_PlantValve l (i : Int) = l.getD i z_impl_PlantValve := by unfold rd_impl_PlantValve; rw [Int.toNat_natCast]
def foeLt (x y : S_impl_PlantFoe) : Bool := befB x.f0 x.f1 y.f0 y.f1
def foeB (s : List ByteArray) (x : S_impl_PlantFoe) : Bool := lt x.f0 x.f1 && (hasB s x.f0 && hasB s x.f1)
def foesB (s : List ByteArray) (f : List S_impl_PlantFoe) : Bool := f.all (foeB s) && chainB foeLt none f
def placeLt (x y : S_impl_PlantPlace) : Bool := lt x.f0 y.f0
def placeB (x : S_impl_PlantPlace) : Bool := nameB x.f0 && (inB x.f1 0 1000 && nameB x.f2)
def placesB (p : List S_impl_PlantPlace) : Bool := p.all placeB && chainB placeLt none p
def placeHas (p : List S_impl_PlantPlace) (x : ByteArray) : Bool := p.any fun y => decide (y.f0 = x)
def valveLt (x y : S_impl_PlantValve) : Bool := lt x.f0 y.f0
def valveB (p : List S_impl_PlantPlace) (x : S_impl_PlantValve) : Bool := nameB x.f0 && (lt x.f1 x.f2 && (placeHas p x.f1 && (placeHas p x.f2 && nameB x.f3)))
def valvesB (p : List S_impl_PlantPlace) (v : List S_impl_PlantValve) : Bool := v.all (valveB p) && chainB valveLt none v
def validB (s : List ByteArray) (f : List S_impl_PlantFoe) (p : List S_impl_PlantPlace) (v : List S_impl_PlantValve) : Bool :=
  (decide (s.length ≤ 8) && decide (f.length ≤ 12)) && ((namesB s && foesB s f) && ((decide (p.length ≤ 14) && placesB p) && (decide (v.length ≤ 18) && valvesB p v)))
theorem l2Before_ev (a0 a1 b0 b1 : ByteArray) : Ev (fun _ => spec_l2Before.f a0 a1 b0 b1) (befB a0 a1 b0 b1) := by
  unfold spec_l2Before.f
  repeat' (first
    | with_reducible refine ev_pos (by omega) ?_
    | with_reducible refine ev_neg (by omega) ?_
    | with_reducible refine ev_b (fun c => ?_) (fun c => ?_)
    | with_reducible refine ev_split (fun c => ?_) (fun c => ?_))
  all_goals (first
    | (with_reducible refine ev_ret ?_; simp_all [chainB, lt, ba_iff, befB]; done)
    | (with_reducible refine ev_eq (ih) ?_; simp_all [chainB, lt, ba_iff, befB]; done))
theorem l2Foes1_ev (s : List ByteArray) (f : List S_impl_PlantFoe) (hs : s.length ≤ 140737488351232) (hf : f.length ≤ 140737488351232) : Ev (fun k => spec_l2StuffsOk.l1 k s f 0) (foesB s f) := by
  refine loopL z_impl_PlantFoe f (P := fun i r => Ev (fun k => spec_l2StuffsOk.l1 k s f (i : Int)) (r.all (foeB s) && chainB foeLt (ahead z_impl_PlantFoe f i) r))
    (by refine Ev.step (fun k => by rw [spec_l2StuffsOk.l1]) ?_; exact ev_neg (by omega) (ev_ret rfl)) (fun i x r hi hx _ _ ih => ?_)
  refine Ev.step (fun k => by rw [spec_l2StuffsOk.l1]) (ev_pos (by omega) (ev_pos (by omega) ?_))
  rw [wsucc hi (by omega), rdF, hx]
  rw [ahead_succ, hx] at ih
  clear hx
  by_cases z : i = 0
  · subst z
    rw [ahead_zero]
    repeat' (first
      | with_reducible refine Ev.bind (l2Has_ev _ _ hs) ?_
      | with_reducible refine ev_pos (by omega) ?_
      | with_reducible refine ev_neg (by omega) ?_
      | with_reducible refine ev_b (fun c => ?_) (fun c => ?_)
      | with_reducible refine ev_split (fun c => ?_) (fun c => ?_))
    all_goals (first
      | (with_reducible refine ev_ret ?_; simp_all [chainB, lt, ba_iff, foeB, foeLt]; done)
      | (with_reducible refine ev_eq (ih) ?_; simp_all [chainB, lt, ba_iff, foeB, foeLt]; done))
  · rw [pre64 z (by omega), rdF, ahead_pos _ _ _ z]
    generalize f.getD (i - 1) z_impl_PlantFoe = y
    repeat' (first
      | with_reducible refine Ev.bind (l2Has_ev _ _ hs) ?_
      | with_reducible refine Ev.bind (l2Before_ev _ _ _ _) ?_
      | with_reducible refine ev_pos (by omega) ?_
      | with_reducible refine ev_neg (by omega) ?_
      | with_reducible refine ev_b (fun c => ?_) (fun c => ?_)
      | with_reducible refine ev_split (fun c => ?_) (fun c => ?_))
    all_goals (first
      | (with_reducible refine ev_ret ?_; simp_all [chainB, lt, ba_iff, foeB, foeLt]; done)
      | (with_reducible refine ev_eq (ih) ?_; simp_all [chainB, lt, ba_iff, foeB, foeLt]; done))
theorem l2Stuffs_ev (s : List ByteArray) (f : List S_impl_PlantFoe) (p : List S_impl_PlantPlace) (v : List S_impl_PlantValve) (hs : s.length ≤ 140737488351232) (hf : f.length ≤ 140737488351232) :
    Ev (fun k => spec_l2StuffsOk.f k s f p v) ((decide (s.length ≤ 8) && decide (f.length ≤ 12)) && (namesB s && foesB s f)) := by
  have L1 := l2Foes1_ev s f hs hf
  generalize foesB s f = T at L1 ⊢
  have L0 : Ev (fun k => spec_l2StuffsOk.l0 k s f 0) (namesB s && T) := by
    refine loopL ByteArray.empty s (P := fun i r => Ev (fun k => spec_l2StuffsOk.l0 k s f (i : Int)) ((r.all nameB && chainB lt (ahead ByteArray.empty s i) r) && T))
      (by refine Ev.step (fun k => by rw [spec_l2StuffsOk.l0]) ?_; exact ev_neg (by omega) L1) (fun i x r hi hx _ _ ih => ?_)
    refine Ev.step (fun k => by rw [spec_l2StuffsOk.l0]) (ev_pos (by omega) (ev_pos (by omega) ?_))
    rw [wsucc hi (by omega), rdOf_nat, hx]
    rw [ahead_succ, hx] at ih
    clear hx L1
    by_cases z : i = 0
    · subst z
      rw [ahead_zero]
      repeat' (first
        | with_reducible refine Ev.bind (l2NameOk_ev _) ?_
        | with_reducible refine ev_pos (by omega) ?_
        | with_reducible refine ev_neg (by omega) ?_
        | with_reducible refine ev_b (fun c => ?_) (fun c => ?_)
        | with_reducible refine ev_split (fun c => ?_) (fun c => ?_))
      all_goals (first
        | (with_reducible refine ev_ret ?_; simp_all [chainB, lt, ba_iff]; done)
        | (with_reducible refine ev_eq (ih) ?_; simp_all [chainB, lt, ba_iff]; done))
    · rw [pre64 z (by omega), rdOf_nat, ahead_pos _ _ _ z]
      generalize s.getD (i - 1) ByteArray.empty = y
      repeat' (first
        | with_reducible refine Ev.bind (l2NameOk_ev _) ?_
        | with_reducible refine ev_pos (by omega) ?_
        | with_reducible refine ev_neg (by omega) ?_
        | with_reducible refine ev_b (fun c => ?_) (fun c => ?_)
        | with_reducible refine ev_split (fun c => ?_) (fun c => ?_))
      all_goals (first
        | (with_reducible refine ev_ret ?_; simp_all [chainB, lt, ba_iff]; done)
        | (with_reducible refine ev_eq (ih) ?_; simp_all [chainB, lt, ba_iff]; done))
  unfold spec_l2StuffsOk.f
  refine ev_split (fun c => ev_ret ?_) (fun c => ev_split (fun d => ev_ret ?_) (fun d => ev_eq L0 ?_))
  · rw [decide_eq_false (by omega : ¬ s.length ≤ 8)]; rfl
  · rw [decide_eq_false (by omega : ¬ f.length ≤ 12), Bool.and_false]; rfl
  · rw [decide_eq_true (by omega : s.length ≤ 8), decide_eq_true (by omega : f.length ≤ 12)]; rfl
theorem l2Places_ev (s : List ByteArray) (f : List S_impl_PlantFoe) (p : List S_impl_PlantPlace) (v : List S_impl_PlantValve) (hp : p.length ≤ 140737488351232) :
    Ev (fun k => spec_l2PlacesOk.f k s f p v) (decide (p.length ≤ 14) && placesB p) := by
  unfold spec_l2PlacesOk.f
  refine ev_split (fun c => ev_ret (by rw [decide_eq_false (by omega : ¬ p.length ≤ 14)]; rfl)) (fun c => ?_)
  rw [decide_eq_true (by omega : p.length ≤ 14), Bool.true_and]
  refine loopL z_impl_PlantPlace p (P := fun i r => Ev (fun k => spec_l2PlacesOk.l0 k p (i : Int)) (r.all placeB && chainB placeLt (ahead z_impl_PlantPlace p i) r))
    (by refine Ev.step (fun k => by rw [spec_l2PlacesOk.l0]) ?_; exact ev_neg (by omega) (ev_ret rfl)) (fun i x r hi hx _ _ ih => ?_)
  refine Ev.step (fun k => by rw [spec_l2PlacesOk.l0]) (ev_pos (by omega) (ev_pos (by omega) ?_))
  rw [wsucc hi (by omega), rdP, hx]
  rw [ahead_succ, hx] at ih
  clear hx
  by_cases z : i = 0
  · subst z
    rw [ahead_zero]
    repeat' (first
      | with_reducible refine Ev.bind (l2NameOk_ev _) ?_
      | with_reducible refine Ev.bind (l2In_ev _ _ _) ?_
      | with_reducible refine ev_pos (by omega) ?_
      | with_reducible refine ev_neg (by omega) ?_
      | with_reducible refine ev_b (fun c => ?_) (fun c => ?_)
      | with_reducible refine ev_split (fun c => ?_) (fun c => ?_))
    all_goals (first
      | (with_reducible refine ev_ret ?_; simp_all [chainB, lt, ba_iff, placeB, placeLt]; done)
      | (with_reducible refine ev_eq (ih) ?_; simp_all [chainB, lt, ba_iff, placeB, placeLt]; done))
  · rw [pre64 z (by omega), rdP, ahead_pos _ _ _ z]
    generalize p.getD (i - 1) z_impl_PlantPlace = y
    repeat' (first
      | with_reducible refine Ev.bind (l2NameOk_ev _) ?_
      | with_reducible refine Ev.bind (l2In_ev _ _ _) ?_
      | with_reducible refine ev_pos (by omega) ?_
      | with_reducible refine ev_neg (by omega) ?_
      | with_reducible refine ev_b (fun c => ?_) (fun c => ?_)
      | with_reducible refine ev_split (fun c => ?_) (fun c => ?_))
    all_goals (first
      | (with_reducible refine ev_ret ?_; simp_all [chainB, lt, ba_iff, placeB, placeLt]; done)
      | (with_reducible refine ev_eq (ih) ?_; simp_all [chainB, lt, ba_iff, placeB, placeLt]; done))
/-- where a place lies, -1 if there is none -/
def placeIx (x : ByteArray) : List S_impl_PlantPlace → Int → Int
  | [], _ => -1
  | y :: r, i => if y.f0 = x then i else placeIx x r (i + 1)
theorem placeIx_neg (x : ByteArray) : ∀ (r : List S_impl_PlantPlace) (i : Int), 0 ≤ i → (decide (placeIx x r i < 0) = !placeHas r x) ∧ (placeHas r x = true → i ≤ placeIx x r i)
  | [], i, h => ⟨rfl, fun h => by simp [placeHas] at h⟩
  | y :: r, i, h => by
    obtain ⟨h1, h2⟩ := placeIx_neg x r (i + 1) (by omega)
    rw [show placeIx x (y :: r) i = if y.f0 = x then i else placeIx x r (i + 1) from rfl, show placeHas (y :: r) x = (decide (y.f0 = x) || placeHas r x) from rfl]
    by_cases c : y.f0 = x
    · rw [if_pos c, decide_eq_true c, Bool.true_or]
      exact ⟨decide_eq_false (by omega), fun _ => Int.le_refl _⟩
    · rw [if_neg c, decide_eq_false c, Bool.false_or]
      exact ⟨h1, fun q => by have := h2 q; omega⟩
theorem l2Place_ev (s : List ByteArray) (f : List S_impl_PlantFoe) (p : List S_impl_PlantPlace) (v : List S_impl_PlantValve) (x : ByteArray) (hp : p.length ≤ 140737488351232) :
    Ev (fun k => spec_l2Place.f k s f p v x) (placeIx x p 0) := by
  unfold spec_l2Place.f
  refine loopL z_impl_PlantPlace p (P := fun i r => Ev (fun k => spec_l2Place.l0 k p x (i : Int)) (placeIx x r (i : Int)))
    (by refine Ev.step (fun k => by rw [spec_l2Place.l0]) ?_; exact ev_neg (by omega) (ev_ret rfl)) (fun i y r hi hx _ _ ih => ?_)
  refine Ev.step (fun k => by rw [spec_l2Place.l0]) (ev_pos (by omega) (ev_pos (by omega) ?_))
  rw [wsucc hi (by omega), rdP, hx]
  unfold placeIx
  refine ev_split (fun c => ev_ret (by rw [if_pos (ba_iff.1 c)])) (fun c => ev_eq ih (by rw [if_neg (fun e => c (ba_iff.2 e))]; push_cast; rfl))
theorem placeNeg_ev (x : ByteArray) (p : List S_impl_PlantPlace) : (placeIx x p 0 < 0) ↔ placeHas p x = false := by
  have := (placeIx_neg x p 0 (Int.le_refl _)).1
  cases h : placeHas p x <;> rw [h] at this <;> simpa using this
theorem l2Valves_ev (s : List ByteArray) (f : List S_impl_PlantFoe) (p : List S_impl_PlantPlace) (v : List S_impl_PlantValve) (hp : p.length ≤ 140737488351232) (hv : v.length ≤ 140737488351232) :
    Ev (fun k => spec_l2ValvesOk.f k s f p v) (decide (v.length ≤ 18) && valvesB p v) := by
  unfold spec_l2ValvesOk.f
  refine ev_split (fun c => ev_ret (by rw [decide_eq_false (by omega : ¬ v.length ≤ 18)]; rfl)) (fun c => ?_)
  rw [decide_eq_true (by omega : v.length ≤ 18), Bool.true_and]
  refine loopL z_impl_PlantValve v (P := fun i r => Ev (fun k => spec_l2ValvesOk.l0 k s f p v (i : Int)) (r.all (valveB p) && chainB valveLt (ahead z_impl_PlantValve v i) r))
    (by refine Ev.step (fun k => by rw [spec_l2ValvesOk.l0]) ?_; exact ev_neg (by omega) (ev_ret rfl)) (fun i x r hi hx _ _ ih => ?_)
  refine Ev.step (fun k => by rw [spec_l2ValvesOk.l0]) (ev_pos (by omega) (ev_pos (by omega) ?_))
  rw [wsucc hi (by omega), rdV, hx]
  rw [ahead_succ, hx] at ih
  clear hx
  by_cases z : i = 0
  · subst z
    rw [ahead_zero]
    repeat' (first
      | with_reducible refine Ev.bind (l2NameOk_ev _) ?_
      | with_reducible refine Ev.bind (l2Place_ev _ _ _ _ _ hp) ?_
      | with_reducible refine ev_pos (by omega) ?_
      | with_reducible refine ev_neg (by omega) ?_
      | with_reducible refine ev_b (fun c => ?_) (fun c => ?_)
      | with_reducible refine ev_split (fun c => ?_) (fun c => ?_))
    all_goals (first
      | (with_reducible refine ev_ret ?_; simp_all [chainB, lt, ba_iff, valveB, valveLt, placeNeg_ev]; done)
      | (with_reducible refine ev_eq (ih) ?_; simp_all [chainB, lt, ba_iff, valveB, valveLt, placeNeg_ev]; done))
  · rw [pre64 z (by omega), rdV, ahead_pos _ _ _ z]
    generalize v.getD (i - 1) z_impl_PlantValve = y
    repeat' (first
      | with_reducible refine Ev.bind (l2NameOk_ev _) ?_
      | with_reducible refine Ev.bind (l2Place_ev _ _ _ _ _ hp) ?_
      | with_reducible refine ev_pos (by omega) ?_
      | with_reducible refine ev_neg (by omega) ?_
      | with_reducible refine ev_b (fun c => ?_) (fun c => ?_)
      | with_reducible refine ev_split (fun c => ?_) (fun c => ?_))
    all_goals (first
      | (with_reducible refine ev_ret ?_; simp_all [chainB, lt, ba_iff, valveB, valveLt, placeNeg_ev]; done)
      | (with_reducible refine ev_eq (ih) ?_; simp_all [chainB, lt, ba_iff, valveB, valveLt, placeNeg_ev]; done))
theorem specValid_ev (s : List ByteArray) (f : List S_impl_PlantFoe) (p : List S_impl_PlantPlace) (v : List S_impl_PlantValve) (hs : s.length ≤ 140737488351232) (hf : f.length ≤ 140737488351232) (hp : p.length ≤ 140737488351232) (hv : v.length ≤ 140737488351232) :
    Ev (fun k => spec_PlantValid.f k s f p v) (validB s f p v) := by
  unfold spec_PlantValid.f validB
  have e1 := l2Stuffs_ev s f p v hs hf
  have e2 := l2Places_ev s f p v hp
  have e3 := l2Valves_ev s f p v hp hv
  rw [← Bool.and_assoc]
  generalize ((decide (s.length ≤ 8) && decide (f.length ≤ 12)) && (namesB s && foesB s f)) = b1 at e1 ⊢
  generalize (decide (p.length ≤ 14) && placesB p) = b2 at e2 ⊢
  generalize (decide (v.length ≤ 18) && valvesB p v) = b3 at e3 ⊢
  repeat' (first
    | with_reducible refine Ev.bind (e1) ?_
    | with_reducible refine Ev.bind (e2) ?_
    | with_reducible refine Ev.bind (e3) ?_
    | with_reducible refine ev_pos (by omega) ?_
    | with_reducible refine ev_neg (by omega) ?_
    | with_reducible refine ev_b (fun c => ?_) (fun c => ?_)
    | with_reducible refine ev_split (fun c => ?_) (fun c => ?_))
  all_goals (first
    | (with_reducible refine ev_ret ?_; simp_all [chainB, lt, ba_iff]; done)
    | (with_reducible refine ev_eq (ih) ?_; simp_all [chainB, lt, ba_iff]; done))
/-! ### plants: what the program says of them -/
def mkPair (x : S_impl_PlantFoe) : S_A2_string := ⟨x.f0, x.f1⟩
theorem rdA2 (l : List S_A2_string) (i : Nat) : rd_A2_string l (i : Int) = l.getD i z_A2_string := by unfold rd_A2_string; rw [Int.toNat_natCast]
theorem pairs_ev (s : List ByteArray) (f : List S_impl_PlantFoe) (p : List S_impl_PlantPlace) (v : List S_impl_PlantValve) (hf : f.length ≤ 4398046511104) :
    Ev (fun k => impl_Plant_pairs.f k s f p v) (f.map mkPair) := by
  unfold impl_Plant_pairs.f
  have key := loopL z_impl_PlantFoe f (P := fun i r => ∀ acc : List S_A2_string, acc.length = i → Ev (fun k => impl_Plant_pairs.l0 k f acc (i : Int)) (acc ++ r.map mkPair))
    (fun acc h => by refine Ev.step (fun k => by rw [impl_Plant_pairs.l0]) ?_; exact ev_neg (by omega) (ev_ret (by simp))) (fun i x r hi hx _ _ ih acc h => ?_)
  · simpa using key [] rfl
  refine Ev.step (fun k => by rw [impl_Plant_pairs.l0]) (ev_pos (by omega) (ev_pos (by omega) (ev_pos (by omega) ?_)))
  rw [wsucc hi (by omega), rdF, hx]
  refine ev_eq (ih _ (by simp [h])) (by simp [mkPair])
def pairLt (x y : S_A2_string) : Bool := befB x.f0 x.f1 y.f0 y.f1
def pairB (x : S_A2_string) : Bool := nameB x.f0 && (nameB x.f1 && lt x.f0 x.f1)
def pairsB (l : List S_A2_string) : Bool := l.all pairB && chainB pairLt none l
theorem befB_of {a0 a1 b0 b1 : ByteArray} (h : Op.bytesLess b0.toList a0.toList = false) : befB a0 a1 b0 b1 = (decide (a0 = b0 → Op.bytesLess a1.toList b1.toList = true)) := by
  unfold befB
  rcases lt_tri a0 b0 with c | c | c
  · rw [c, decide_eq_true (fun e => absurd e (lt_ne c))]; rfl
  · subst c; rw [lt_irr, decide_eq_true rfl]
    cases q : Op.bytesLess a1.toList b1.toList <;> simp [lt, q]
  · have : Op.bytesLess b0.toList a0.toList = true := c
    rw [h] at this; cases this
theorem befB_no {a0 a1 b0 b1 : ByteArray} (h : Op.bytesLess b0.toList a0.toList = true) : befB a0 a1 b0 b1 = false := by
  unfold befB
  rw [lt_asym h, decide_eq_false (fun e => lt_ne h e.symm)]; rfl
theorem foesOk_ev (l : List S_A2_string) (a : Int) (hn : l.length ≤ 140737488351232) (h : ∀ x ∈ l, x.f0.size ≤ 140737488351232 ∧ x.f1.size ≤ 140737488351232) :
    Ev (fun k => impl_foesOk.f k l a) (pairsB l && decide ((l.length : Int) ≤ a)) := by
  unfold impl_foesOk.f
  refine loopL z_A2_string l (P := fun i r => Ev (fun k => impl_foesOk.l0 k l a (i : Int)) ((r.all pairB && chainB pairLt (ahead z_A2_string l i) r) && decide ((l.length : Int) ≤ a)))
    (by refine Ev.step (fun k => by rw [impl_foesOk.l0]) ?_; exact ev_neg (by omega) (ev_ret rfl)) (fun i x r hi hx hm _ ih => ?_)
  refine Ev.step (fun k => by rw [impl_foesOk.l0]) (ev_pos (by omega) (ev_pos (by omega) ?_))
  obtain ⟨q0, q1⟩ := h x hm
  rw [wsucc hi (by omega), rdA2, hx]
  rw [ahead_succ, hx] at ih
  generalize decide ((l.length : Int) ≤ a) = D at ih ⊢
  clear hx h hm
  by_cases z : i = 0
  · subst z
    rw [ahead_zero]
    repeat' (first
      | with_reducible refine Ev.bind (isName_ev _ q0) ?_
      | with_reducible refine Ev.bind (isName_ev _ q1) ?_
      | with_reducible refine ev_pos (by omega) ?_
      | with_reducible refine ev_neg (by omega) ?_
      | with_reducible refine ev_b (fun c => ?_) (fun c => ?_)
      | with_reducible refine ev_split (fun c => ?_) (fun c => ?_))
    all_goals (first
      | (with_reducible refine ev_ret ?_; simp_all [chainB, lt, ba_iff, pairB, pairLt]; done)
      | (with_reducible refine ev_eq (ih) ?_; simp_all [chainB, lt, ba_iff, pairB, pairLt]; done))
  · rw [pre64 z (by omega), rdA2, ahead_pos _ _ _ z]
    generalize l.getD (i - 1) z_A2_string = y
    have hb := @befB_of y.f0 y.f1 x.f0 x.f1
    have hc := @befB_no y.f0 y.f1 x.f0 x.f1
    repeat' (first
      | with_reducible refine Ev.bind (isName_ev _ q0) ?_
      | with_reducible refine Ev.bind (isName_ev _ q1) ?_
      | with_reducible refine ev_pos (by omega) ?_
      | with_reducible refine ev_neg (by omega) ?_
      | with_reducible refine ev_b (fun c => ?_) (fun c => ?_)
      | with_reducible refine ev_split (fun c => ?_) (fun c => ?_))
    all_goals (first
      | (with_reducible refine ev_ret ?_; simp_all [chainB, lt, ba_iff, pairB, pairLt]; done)
      | (with_reducible refine ev_eq (ih) ?_; simp_all [chainB, lt, ba_iff, pairB, pairLt]; done))
/-- the first place of a name -/
def placeOf (x : ByteArray) : List S_impl_PlantPlace → ByteArray × Int × ByteArray × Bool
  | [] => ((⟨#[]⟩ : ByteArray), 0, (⟨#[]⟩ : ByteArray), false)
  | y :: r => if y.f0 = x then (y.f0, y.f1, y.f2, true) else placeOf x r
theorem placeOf_has (x : ByteArray) : ∀ l : List S_impl_PlantPlace, (placeOf x l).2.2.2 = placeHas l x
  | [] => rfl
  | y :: r => by
    rw [show placeHas (y :: r) x = (decide (y.f0 = x) || placeHas r x) from rfl, ← placeOf_has x r, show placeOf x (y :: r) = if y.f0 = x then (y.f0, y.f1, y.f2, true) else placeOf x r from rfl]
    by_cases c : y.f0 = x
    · rw [if_pos c, decide_eq_true c]; rfl
    · rw [if_neg c, decide_eq_false c]; rfl
theorem place_ev (s : List ByteArray) (f : List S_impl_PlantFoe) (p : List S_impl_PlantPlace) (v : List S_impl_PlantValve) (x : ByteArray) (hp : p.length ≤ 140737488351232) :
    Ev (fun k => impl_Plant_place.f k s f p v x) (placeOf x p) := by
  unfold impl_Plant_place.f
  refine loopL z_impl_PlantPlace p (P := fun i r => Ev (fun k => impl_Plant_place.l0 k p x (i : Int)) (placeOf x r))
    (by refine Ev.step (fun k => by rw [impl_Plant_place.l0]) ?_; exact ev_neg (by omega) (ev_ret rfl)) (fun i y r hi hx _ _ ih => ?_)
  refine Ev.step (fun k => by rw [impl_Plant_place.l0]) (ev_pos (by omega) (ev_pos (by omega) ?_))
  rw [wsucc hi (by omega), rdP, hx]
  unfold placeOf
  refine ev_split (fun c => ev_ret (by rw [if_pos (ba_iff.1 c)])) (fun c => ev_eq ih (by rw [if_neg (fun e => c (ba_iff.2 e))]))
theorem implValid2_ev (s : List ByteArray) (f : List S_impl_PlantFoe) (p : List S_impl_PlantPlace) (v : List S_impl_PlantValve) (hp : p.length ≤ 140737488351232) (hv : v.length ≤ 140737488351232)
    (hz : ∀ x ∈ v, x.f0.size ≤ 140737488351232 ∧ x.f3.size ≤ 140737488351232) : Ev (fun k => impl_PlantValid.l2 k s f p v 0) (valvesB p v) := by
  refine loopL z_impl_PlantValve v (P := fun i r => Ev (fun k => impl_PlantValid.l2 k s f p v (i : Int)) (r.all (valveB p) && chainB valveLt (ahead z_impl_PlantValve v i) r))
    (by refine Ev.step (fun k => by rw [impl_PlantValid.l2]) ?_; exact ev_neg (by omega) (ev_ret rfl)) (fun i x r hi hx hm _ ih => ?_)
  obtain ⟨q0, q1⟩ := hz x hm
  rw [ahead_succ, hx] at ih
  have j0 : ∀ (b : Bool) (R : Bool), R = (!b && (r.all (valveB p) && chainB valveLt (some x) r)) → Ev (fun k => impl_PlantValid.j0 k s f p v (i : Int) b) R := fun b R hR => by
    subst hR
    refine Ev.step (fun k => by rw [impl_PlantValid.j0]) ?_
    rw [wsucc hi (by omega)]
    cases b
    · exact ev_neg (by simp) ih
    · exact ev_pos rfl (ev_ret rfl)
  refine Ev.step (fun k => by rw [impl_PlantValid.l2]) (ev_pos (by omega) (ev_pos (by omega) ?_))
  rw [rdV, hx]
  refine Ev.bind (place_ev s f p v _ hp) (Ev.bind (place_ev s f p v _ hp) ?_)
  rw [placeOf_has, placeOf_has]
  clear hx hz hm
  by_cases z : i = 0
  · subst z
    rw [ahead_zero]
    repeat' (first | with_reducible refine Ev.bind (isName_ev _ q0) ?_ | with_reducible refine Ev.bind (isName_ev _ q1) ?_ | with_reducible refine ev_pos (by omega) ?_ | with_reducible refine ev_neg (by omega) ?_ | with_reducible refine ev_b (fun c => ?_) (fun c => ?_))
    all_goals (with_reducible refine j0 _ _ ?_; simp_all [chainB, valveB, lt])
  · rw [pre64 z (by omega), rdV, ahead_pos _ _ _ z]
    generalize v.getD (i - 1) z_impl_PlantValve = y
    repeat' (first | with_reducible refine Ev.bind (isName_ev _ q0) ?_ | with_reducible refine Ev.bind (isName_ev _ q1) ?_ | with_reducible refine ev_pos (by omega) ?_ | with_reducible refine ev_neg (by omega) ?_ | with_reducible refine ev_b (fun c => ?_) (fun c => ?_))
    all_goals (with_reducible refine j0 _ _ ?_; first | (simp_all [chainB, valveB, valveLt, lt]; done) | (simp_all [chainB, valveB, valveLt, lt, Bool.and_left_comm]; done))
theorem implValid1_ev (s : List ByteArray) (f : List S_impl_PlantFoe) (p : List S_impl_PlantPlace) (v : List S_impl_PlantValve) (hp : p.length ≤ 140737488351232) (hv : v.length ≤ 140737488351232)
    (hz : ∀ x ∈ v, x.f0.size ≤ 140737488351232 ∧ x.f3.size ≤ 140737488351232) (hy : ∀ x ∈ p, x.f0.size ≤ 140737488351232 ∧ x.f2.size ≤ 140737488351232) : Ev (fun k => impl_PlantValid.l1 k s f p v 0) (placesB p && valvesB p v) := by
  have L2 := implValid2_ev s f p v hp hv hz
  generalize valvesB p v = T at L2 ⊢
  refine loopL z_impl_PlantPlace p (P := fun i r => Ev (fun k => impl_PlantValid.l1 k s f p v (i : Int)) ((r.all placeB && chainB placeLt (ahead z_impl_PlantPlace p i) r) && T))
    (by refine Ev.step (fun k => by rw [impl_PlantValid.l1]) ?_; exact ev_neg (by omega) L2) (fun i x r hi hx hm _ ih => ?_)
  refine Ev.step (fun k => by rw [impl_PlantValid.l1]) (ev_pos (by omega) (ev_pos (by omega) ?_))
  obtain ⟨q0, q1⟩ := hy x hm
  rw [wsucc hi (by omega), rdP, hx]
  rw [ahead_succ, hx] at ih
  clear hx hz hy hm L2
  by_cases d : 0 ≤ x.f1 ∧ x.f1 ≤ 1000
  · have hd := inB_t d
    by_cases z : i = 0
    · subst z
      rw [ahead_zero]
      repeat' (first
        | with_reducible refine Ev.bind (isName_ev _ q0) ?_
        | with_reducible refine Ev.bind (isName_ev _ q1) ?_
        | with_reducible refine ev_pos (by omega) ?_
        | with_reducible refine ev_neg (by omega) ?_
        | with_reducible refine ev_b (fun c => ?_) (fun c => ?_)
        | with_reducible refine ev_split (fun c => ?_) (fun c => ?_))
      all_goals (first
        | (with_reducible refine ev_ret ?_; simp_all [chainB, lt, ba_iff, placeB, placeLt]; done)
        | (with_reducible refine ev_eq (ih) ?_; simp_all [chainB, lt, ba_iff, placeB, placeLt]; done))
    · rw [pre64 z (by omega), rdP, ahead_pos _ _ _ z]
      generalize p.getD (i - 1) z_impl_PlantPlace = y
      repeat' (first
        | with_reducible refine Ev.bind (isName_ev _ q0) ?_
        | with_reducible refine Ev.bind (isName_ev _ q1) ?_
        | with_reducible refine ev_pos (by omega) ?_
        | with_reducible refine ev_neg (by omega) ?_
        | with_reducible refine ev_b (fun c => ?_) (fun c => ?_)
        | with_reducible refine ev_split (fun c => ?_) (fun c => ?_))
      all_goals (first
        | (with_reducible refine ev_ret ?_; simp_all [chainB, lt, ba_iff, placeB, placeLt]; done)
        | (with_reducible refine ev_eq (ih) ?_; simp_all [chainB, lt, ba_iff, placeB, placeLt]; done))
  · have hd := inB_f d
    refine Ev.bind (isName_ev _ q0) (ev_b (fun c => ev_split (fun c1 => ev_ret ?_) (fun c1 => ev_pos (by omega) (ev_ret ?_))) (fun c => ev_ret ?_))
    all_goals simp_all [placeB]
theorem implValid0_ev (s : List ByteArray) (f : List S_impl_PlantFoe) (p : List S_impl_PlantPlace) (v : List S_impl_PlantValve) (hs : s.length ≤ 140737488351232) (hf : f.length ≤ 140737488351232) (hp : p.length ≤ 140737488351232) (hv : v.length ≤ 140737488351232)
    (hz : ∀ x ∈ v, x.f0.size ≤ 140737488351232 ∧ x.f3.size ≤ 140737488351232) (hy : ∀ x ∈ p, x.f0.size ≤ 140737488351232 ∧ x.f2.size ≤ 140737488351232) :
    Ev (fun k => impl_PlantValid.l0 k s f p v 0) (f.all (fun x => hasB s x.f0 && hasB s x.f1) && (placesB p && valvesB p v)) := by
  have L1 := implValid1_ev s f p v hp hv hz hy
  generalize (placesB p && valvesB p v) = T at L1 ⊢
  refine loopL z_impl_PlantFoe f (P := fun i r => Ev (fun k => impl_PlantValid.l0 k s f p v (i : Int)) (r.all (fun x => hasB s x.f0 && hasB s x.f1) && T))
    (by refine Ev.step (fun k => by rw [impl_PlantValid.l0]) ?_; exact ev_neg (by omega) L1) (fun i x r hi hx hm _ ih => ?_)
  refine Ev.step (fun k => by rw [impl_PlantValid.l0]) (ev_pos (by omega) (ev_pos (by omega) ?_))
  rw [wsucc hi (by omega), rdF, hx]
  clear hx hz hy hm L1
  repeat' (first
    | with_reducible refine Ev.bind (has_ev _ _ hs) ?_
    | with_reducible refine ev_pos (by omega) ?_
    | with_reducible refine ev_neg (by omega) ?_
    | with_reducible refine ev_b (fun c => ?_) (fun c => ?_)
    | with_reducible refine ev_split (fun c => ?_) (fun c => ?_))
  all_goals (first
    | (with_reducible refine ev_ret ?_; simp_all [chainB, lt, ba_iff]; done)
    | (with_reducible refine ev_eq (ih) ?_; simp_all [chainB, lt, ba_iff]; done))
theorem hasB_name {s : List ByteArray} {x : ByteArray} (hn : namesB s = true) (h : hasB s x = true) : nameB x = true := by
  unfold namesB at hn
  rw [Bool.and_eq_true] at hn
  exact List.all_eq_true.1 hn.1 x (hasB_iff.1 h)
theorem chain_map {α β : Type} {p : α → α → Bool} {q : β → β → Bool} (g : α → β) (h : ∀ x y, q (g x) (g y) = p x y) : ∀ (r : List α) (o : Option α), chainB q (o.map g) (r.map g) = chainB p o r
  | [], o => by cases o <;> rfl
  | x :: r, none => chain_map g h r (some x)
  | x :: r, some y => by
    show (q (g y) (g x) && chainB q (some (g x)) (r.map g)) = (p y x && chainB p (some x) r)
    rw [h]; congr 1; exact chain_map g h r (some x)
theorem foes_all (s : List ByteArray) (hn : namesB s = true) : ∀ f : List S_impl_PlantFoe, ((f.map mkPair).all pairB && f.all (fun x => hasB s x.f0 && hasB s x.f1)) = f.all (foeB s)
  | [] => rfl
  | x :: r => by
    rw [List.map_cons, List.all_cons, List.all_cons, List.all_cons, ← foes_all s hn r]
    have h0 := @hasB_name s x.f0 hn
    have h1 := @hasB_name s x.f1 hn
    unfold pairB foeB mkPair
    simp only
    generalize nameB x.f0 = a0 at *
    generalize nameB x.f1 = a1 at *
    generalize hasB s x.f0 = b0 at *
    generalize hasB s x.f1 = b1 at *
    generalize lt x.f0 x.f1 = c at *
    generalize List.all (List.map _ _) _ = d at *
    generalize List.all _ _ = d2 at *
    revert a0 a1 b0 b1 c d d2
    decide
theorem foes_same (s : List ByteArray) (f : List S_impl_PlantFoe) (hn : namesB s = true) : (pairsB (f.map mkPair) && f.all (fun x => hasB s x.f0 && hasB s x.f1)) = foesB s f := by
  unfold pairsB foesB
  rw [show chainB pairLt none (f.map mkPair) = chainB foeLt none f from chain_map mkPair (fun _ _ => rfl) f none]
  rw [← foes_all s hn f]
  generalize List.all (List.map _ _) _ = d at *
  generalize List.all _ _ = d2 at *
  generalize chainB _ _ _ = d3 at *
  revert d d2 d3
  decide
structure SzP (s : List ByteArray) (f : List S_impl_PlantFoe) (p : List S_impl_PlantPlace) (v : List S_impl_PlantValve) : Prop where
  hs : s.length ≤ 140737488351232
  hf : f.length ≤ 4398046511104
  hp : p.length ≤ 140737488351232
  hv : v.length ≤ 140737488351232
  s1 : ∀ x ∈ s, x.size ≤ 140737488351232
  f1 : ∀ x ∈ f, x.f0.size ≤ 140737488351232 ∧ x.f1.size ≤ 140737488351232
  p1 : ∀ x ∈ p, x.f0.size ≤ 140737488351232 ∧ x.f2.size ≤ 140737488351232
  v1 : ∀ x ∈ v, x.f0.size ≤ 140737488351232 ∧ x.f3.size ≤ 140737488351232
theorem implValid_ev (s : List ByteArray) (f : List S_impl_PlantFoe) (p : List S_impl_PlantPlace) (v : List S_impl_PlantValve) (z : SzP s f p v) :
    Ev (fun k => impl_PlantValid.f k s f p v) (validB s f p v) := by
  unfold impl_PlantValid.f validB
  have hf := z.hf
  have e0 := implValid0_ev s f p v z.hs (by omega) z.hp z.hv z.v1 z.p1
  have eN := names_ev s z.hs z.s1
  have eF := foesOk_ev (f.map mkPair) 12 (by rw [List.length_map]; omega) (fun x hx => by obtain ⟨y, hy, rfl⟩ := List.mem_map.1 hx; exact z.f1 y hy)
  have eP := pairs_ev s f p v hf
  have hsame := foes_same s f
  rw [List.length_map, show decide ((f.length : Int) ≤ 12) = decide (f.length ≤ 12) from decide_eq_decide.2 (by omega)] at eF
  generalize pairsB (f.map mkPair) = b1 at eF hsame
  generalize f.all (fun x => hasB s x.f0 && hasB s x.f1) = b2 at e0 hsame
  generalize foesB s f = b3 at hsame ⊢
  generalize placesB p = b4 at e0 ⊢
  generalize valvesB p v = b5 at e0 ⊢
  generalize namesB s = b6 at eN hsame ⊢
  generalize decide (f.length ≤ 12) = b7 at eF ⊢
  refine ev_split (fun c => ev_ret ?_) (fun c => Ev.bind eN (ev_b (fun c6 => ?_) (fun c6 => ev_ret ?_)))
  · rw [decide_eq_false (by omega : ¬ s.length ≤ 8)]; rfl
  · subst c6
    have hsame := hsame rfl
    subst hsame
    rw [decide_eq_true (by omega : s.length ≤ 8)]
    refine Ev.bind eP (Ev.bind eF (ev_b (fun c1 => ?_) (fun c1 => ev_ret ?_)))
    · rw [Bool.and_eq_true] at c1
      obtain ⟨rfl, rfl⟩ := c1
      refine ev_split (fun d => ev_ret ?_) (fun d => ev_split (fun d2 => ev_ret ?_) (fun d2 => ev_eq e0 ?_))
      · rw [decide_eq_false (by omega : ¬ p.length ≤ 14)]; simp
      · rw [decide_eq_false (by omega : ¬ v.length ≤ 18)]; simp
      · rw [decide_eq_true (by omega : p.length ≤ 14), decide_eq_true (by omega : v.length ≤ 18)]; simp
    · clear e0 eN eF
      generalize decide (p.length ≤ 14) = d1
      generalize decide (v.length ≤ 18) = d2
      revert b1 b2 b4 b5 b7 d1 d2
      decide
  · subst c6; simp
/-! ### lists that rise -/
def SortedL (l : List ByteArray) : Prop := l.Pairwise fun x y => lt x y = true
theorem chain_head {α : Type} {p : α → α → Bool} (ht : ∀ x y z, p x y = true → p y z = true → p x z = true) : ∀ (r : List α) (y : α), chainB p (some y) r = true → (∀ x ∈ r, p y x = true) ∧ r.Pairwise fun x y => p x y = true
  | [], _, _ => ⟨fun x h => (by cases h), List.Pairwise.nil⟩
  | x :: r, y, h => by
    have h : (p y x && chainB p (some x) r) = true := h
    rw [Bool.and_eq_true] at h
    obtain ⟨g1, g2⟩ := chain_head ht r x h.2
    refine ⟨fun z hz => ?_, List.pairwise_cons.2 ⟨g1, g2⟩⟩
    rcases List.mem_cons.1 hz with rfl | hz
    · exact h.1
    · exact ht _ _ _ h.1 (g1 z hz)
theorem chain_pair {α : Type} {p : α → α → Bool} (ht : ∀ x y z, p x y = true → p y z = true → p x z = true) (l : List α) (h : chainB p none l = true) : l.Pairwise fun x y => p x y = true := by
  cases l with
  | nil => exact List.Pairwise.nil
  | cons x r =>
    have h : chainB p (some x) r = true := h
    obtain ⟨g1, g2⟩ := chain_head ht r x h
    exact List.pairwise_cons.2 ⟨g1, g2⟩
theorem sorted_of {l : List ByteArray} (h : chainB lt none l = true) : SortedL l := chain_pair (p := lt) (fun _ _ _ h k => lt_trans h k) l h
theorem sorted_ext : ∀ (l m : List ByteArray), SortedL l → SortedL m → (∀ x, x ∈ l ↔ x ∈ m) → l = m
  | [], [], _, _, _ => rfl
  | [], y :: m, _, _, h => by have := (h y).2 (List.mem_cons_self ..); cases this
  | x :: l, [], _, _, h => by have := (h x).1 (List.mem_cons_self ..); cases this
  | x :: l, y :: m, hl, hm, h => by
    obtain ⟨l1, l2⟩ := List.pairwise_cons.1 hl
    obtain ⟨m1, m2⟩ := List.pairwise_cons.1 hm
    have e : x = y := by
      rcases List.mem_cons.1 ((h x).1 (List.mem_cons_self ..)) with e | hx
      · exact e
      · rcases List.mem_cons.1 ((h y).2 (List.mem_cons_self ..)) with e | hy
        · exact e.symm
        · have := lt_asym (l1 y hy); rw [m1 x hx] at this; cases this
    subst e
    congr 1
    refine sorted_ext l m l2 m2 (fun z => ⟨fun hz => ?_, fun hz => ?_⟩)
    · rcases List.mem_cons.1 ((h z).1 (List.mem_cons_of_mem _ hz)) with e | hz'
      · subst e; exact absurd rfl (lt_ne (l1 z hz))
      · exact hz'
    · rcases List.mem_cons.1 ((h z).2 (List.mem_cons_of_mem _ hz)) with e | hz'
      · subst e; exact absurd rfl (lt_ne (m1 z hz))
      · exact hz'
def insertL (x : ByteArray) : List ByteArray → List ByteArray
  | [] => [x]
  | y :: r => if lt y x = true then y :: insertL x r else if y = x then y :: r else x :: y :: r
theorem insertL_mem (x z : ByteArray) : ∀ l : List ByteArray, z ∈ insertL x l ↔ z = x ∨ z ∈ l
  | [] => by simp [insertL]
  | y :: r => by
    have ih := insertL_mem x z r
    unfold insertL
    split
    · rw [List.mem_cons, ih, List.mem_cons]
      constructor
      · rintro (h | h | h)
        · exact .inr (.inl h)
        · exact .inl h
        · exact .inr (.inr h)
      · rintro (h | h | h)
        · exact .inr (.inl h)
        · exact .inl h
        · exact .inr (.inr h)
    · split
      · rename_i e
        subst e
        rw [List.mem_cons]
        exact ⟨fun h => .inr h, fun h => h.elim .inl id⟩
      · rw [List.mem_cons]
theorem insertL_sorted (x : ByteArray) : ∀ l : List ByteArray, SortedL l → SortedL (insertL x l)
  | [], _ => List.pairwise_singleton _ _
  | y :: r, h => by
    obtain ⟨h1, h2⟩ := List.pairwise_cons.1 h
    unfold insertL
    split
    · rename_i c
      refine List.pairwise_cons.2 ⟨fun z hz => ?_, insertL_sorted x r h2⟩
      rcases (insertL_mem x z r).1 hz with rfl | hz
      · exact c
      · exact h1 z hz
    · rename_i c
      split
      · exact h
      · rename_i e
        have hlt : lt x y = true := by
          rcases lt_tri x y with q | q | q
          · exact q
          · exact absurd q.symm e
          · exact absurd q c
        refine List.pairwise_cons.2 ⟨fun z hz => ?_, h⟩
        rcases List.mem_cons.1 hz with rfl | hz
        · exact hlt
        · exact lt_trans hlt (h1 z hz)
theorem insertL_len (x : ByteArray) : ∀ l : List ByteArray, (insertL x l).length ≤ l.length + 1
  | [] => by simp [insertL]
  | y :: r => by
    have := insertL_len x r
    unfold insertL
    split
    · simp; omega
    · split <;> simp
theorem l4Insert_ev (l : List ByteArray) (x : ByteArray) (hn : l.length ≤ 1000000) : Ev (fun k => spec_l4Insert.f k l x) (insertL x l) := by
  unfold spec_l4Insert.f
  refine ev_eq (loopL ByteArray.empty l (P := fun i r => l.drop i = r → Ev (fun k => spec_l4Insert.l0 k l x (i : Int)) (l.take i ++ insertL x r)) (fun _ => ?_) (fun i y r hi hy _ hr ih hd => ?_) rfl) (by simp)
  · refine Ev.step (fun k => by rw [spec_l4Insert.l0]) ?_
    refine ev_neg (by omega) (ev_pos (by omega) (ev_pos (by omega) (ev_pos (by rw [Int.toNat_natCast]; omega) (ev_pos (by rw [Int.toNat_natCast]; omega) (ev_pos (by rw [Int.toNat_natCast]; omega) (ev_ret ?_))))))
    simp [insertL]
  · refine Ev.step (fun k => by rw [spec_l4Insert.l0]) (ev_pos (by omega) (ev_pos (by omega) ?_))
    rw [rdOf_nat, hy, wsucc hi (by omega), Int.toNat_natCast]
    have ht : l.take (i + 1) = l.take i ++ [y] := by rw [List.take_succ_eq_append_getElem hi, ← getD_eq ByteArray.empty l i hi, hy]
    refine ev_b (fun c => ev_eq (ih hr) ?_) (fun c => ev_split (fun e => ev_ret ?_) (fun e => ?_))
    · have c : lt y x = true := c
      rw [ht, show insertL x (y :: r) = y :: insertL x r from if_pos c]; simp
    · have c : lt y x = false := c
      rw [show insertL x (y :: r) = if lt y x = true then y :: insertL x r else if y = x then y :: r else x :: y :: r from rfl, c, if_neg (by simp), if_pos (ba_iff.1 e), ← hd, List.take_append_drop]
    · have c : lt y x = false := c
      refine ev_pos (by omega) (ev_pos (by omega) (ev_pos (by omega) (ev_pos (by omega) (ev_ret ?_))))
      rw [show insertL x (y :: r) = if lt y x = true then y :: insertL x r else if y = x then y :: r else x :: y :: r from rfl, c, if_neg (by simp), if_neg (fun q => e (ba_iff.2 q)), ← hd]
      simp
/-! ### sets of texts: rising lists -/
theorem sorted_nodup {l : List ByteArray} (h : SortedL l) : l.Nodup := List.Pairwise.imp (fun h => lt_ne h) h
theorem sortN_ev (a : List ByteArray) (h : a.length ≤ 4611686018427387903) (hn : a.Nodup) : ∃ r, Ev (fun _ => sort_Strings.f a) r ∧ SortedL r ∧ ∀ x, x ∈ r ↔ x ∈ a := by
  have e : sortSf a = some (sortS a) := by unfold sortSf; rw [if_pos (by omega)]
  refine ⟨sortS a, ?_, sortS_nd e hn, sortS_mem e⟩
  unfold sort_Strings.f
  rw [e]
  exact Ev.now _
/-- a set, and more put into it -/
def setW (a b : List ByteArray) : List ByteArray := b.foldl (fun l x => insertL x l) a
theorem setW_sorted : ∀ (b a : List ByteArray), SortedL a → SortedL (setW a b)
  | [], _, h => h
  | x :: b, a, h => setW_sorted b _ (insertL_sorted x a h)
theorem setW_mem (z : ByteArray) : ∀ (b a : List ByteArray), z ∈ setW a b ↔ z ∈ a ∨ z ∈ b
  | [], a => by simp [setW]
  | x :: b, a => by
    rw [show setW a (x :: b) = setW (insertL x a) b from rfl, setW_mem z b, insertL_mem, List.mem_cons]
    constructor
    · rintro ((h | h) | h)
      · exact .inr (.inl h)
      · exact .inl h
      · exact .inr (.inr h)
    · rintro (h | h | h)
      · exact .inl (.inr h)
      · exact .inl (.inl h)
      · exact .inr h
theorem setW_len : ∀ (b a : List ByteArray), (setW a b).length ≤ a.length + b.length
  | [], a => by simp [setW]
  | x :: b, a => by
    have := setW_len b (insertL x a)
    have := insertL_len x a
    rw [show setW a (x :: b) = setW (insertL x a) b from rfl, List.length_cons]
    omega
theorem sorted_nil : SortedL [] := List.Pairwise.nil
theorem setW_eq {a b c : List ByteArray} (hc : SortedL c) (ha : SortedL a) (h : ∀ x, x ∈ c ↔ x ∈ a ∨ x ∈ b) : c = setW a b :=
  sorted_ext _ _ hc (setW_sorted b a ha) (fun x => by rw [h, setW_mem])
theorem withN_ev (a b : List ByteArray) (ha : a.Nodup) (h : a.length + b.length ≤ 8796093022207) : ∃ r, Ev (fun k => impl_with.f k a b) r ∧ SortedL r ∧ ∀ x, x ∈ r ↔ x ∈ a ∨ x ∈ b := by
  have key := loopL ByteArray.empty b (P := fun i d => i + d.length = b.length → ∀ acc : List ByteArray, acc.Nodup → acc.length ≤ a.length + i → ∃ r, Ev (fun k => impl_with.l0 k a b acc (i : Int)) r ∧ SortedL r ∧ ∀ x, x ∈ r ↔ x ∈ acc ∨ x ∈ d)
    (fun _ acc hnd hacc => by
      obtain ⟨r, h1, h2, h3⟩ := sortN_ev acc (by omega) hnd
      refine ⟨r, Ev.step (fun k => by rw [impl_with.l0]) (ev_neg (by omega) (Ev.bind h1 (ev_ret rfl))), h2, fun x => by rw [h3]; simp⟩)
    (fun i y d hi hy hm hd ih hl acc hnd hacc => by
      rw [List.length_cons] at hl
      have hh := has_ev acc y (by omega)
      cases c : hasB acc y with
      | true =>
        rw [c] at hh
        obtain ⟨r, h1, h2, h3⟩ := ih (by omega) acc hnd (by omega)
        refine ⟨r, Ev.step (fun k => by rw [impl_with.l0]) (ev_pos (by omega) (ev_pos (by omega) ?_)), h2, fun x => ?_⟩
        · rw [wsucc hi (by omega), rdOf_nat, hy]
          exact Ev.bind hh (ev_pos rfl h1)
        · rw [h3, List.mem_cons]
          have := hasB_iff.1 c
          constructor
          · rintro (q | q)
            · exact .inl q
            · exact .inr (.inr q)
          · rintro (q | q | q)
            · exact .inl q
            · exact .inl (q ▸ this)
            · exact .inr q
      | false =>
        rw [c] at hh
        have hni : y ∉ acc := fun q => by rw [hasB_iff.2 q] at c; cases c
        obtain ⟨r, h1, h2, h3⟩ := ih (by omega) (acc ++ [y]) (List.nodup_append.2 ⟨hnd, by simp, fun u hu v hv e => by rw [List.mem_singleton] at hv; subst hv; exact hni (e ▸ hu)⟩) (by rw [List.length_append, List.length_singleton]; omega)
        refine ⟨r, Ev.step (fun k => by rw [impl_with.l0]) (ev_pos (by omega) (ev_pos (by omega) ?_)), h2, fun x => ?_⟩
        · rw [wsucc hi (by omega), rdOf_nat, hy]
          exact Ev.bind hh (ev_neg (by simp) (ev_pos (by omega) h1))
        · rw [h3, List.mem_cons, List.mem_append, List.mem_singleton, or_assoc])
  obtain ⟨r, h1, h2, h3⟩ := key (by omega) a ha (by omega)
  refine ⟨r, ?_, h2, h3⟩
  unfold impl_with.f
  exact ev_pos (by omega) h1
theorem setW_ev (a b : List ByteArray) (ha : SortedL a) (h : a.length + b.length ≤ 8796093022207) : Ev (fun k => impl_with.f k a b) (setW a b) := by
  obtain ⟨r, h1, h2, h3⟩ := withN_ev a b (sorted_nodup ha) h
  exact setW_eq h2 ha h3 ▸ h1
/-! ### plants that are handed in -/
theorem szp_of (x : S_laws_Plant) (h : ok_laws_Plant x) : SzP x.f0 (x.f1.map cv_laws_PlantFoe) (x.f2.map cv_laws_PlantPlace) (x.f3.map cv_laws_PlantValve) := by
  obtain ⟨⟨h0, k0⟩, ⟨h1, k1⟩, ⟨h2, k2⟩, ⟨h3, k3⟩⟩ := h
  refine ⟨by omega, by rw [List.length_map]; omega, by rw [List.length_map]; omega, by rw [List.length_map]; omega, k0, fun y hy => ?_, fun y hy => ?_, fun y hy => ?_⟩
  · obtain ⟨z, hz, rfl⟩ := List.mem_map.1 hy
    exact k1 z hz
  · obtain ⟨z, hz, rfl⟩ := List.mem_map.1 hy
    exact ⟨(k2 z hz).1, (k2 z hz).2.2⟩
  · obtain ⟨z, hz, rfl⟩ := List.mem_map.1 hy
    exact ⟨(k3 z hz).1, (k3 z hz).2.2.2⟩
theorem eqPlantRefl_ev (x : S_laws_Plant) (h : ok_laws_Plant x) : Ev (fun k => laws_eqPlant.f k x.f0 (x.f1.map cv_laws_PlantFoe) (x.f2.map cv_laws_PlantPlace) (x.f3.map cv_laws_PlantValve) x.f0 (x.f1.map cv_laws_PlantFoe) (x.f2.map cv_laws_PlantPlace) (x.f3.map cv_laws_PlantValve)) true := by
  obtain ⟨⟨h0, k0⟩, ⟨h1, k1⟩, ⟨h2, k2⟩, ⟨h3, k3⟩⟩ := h
  refine eqPlant_ev _ _ _ _ ⟨h0, k0⟩ ⟨by rw [List.length_map]; exact h1, fun y hy => ?_⟩ ⟨by rw [List.length_map]; exact h2, fun y hy => ?_⟩ ⟨by rw [List.length_map]; exact h3, fun y hy => ?_⟩
  · obtain ⟨z, hz, rfl⟩ := List.mem_map.1 hy
    exact k1 z hz
  · obtain ⟨z, hz, rfl⟩ := List.mem_map.1 hy
    exact k2 z hz
  · obtain ⟨z, hz, rfl⟩ := List.mem_map.1 hy
    exact k3 z hz
theorem specValid_of (x : S_laws_Plant) (h : ok_laws_Plant x) : Ev (fun k => spec_PlantValid.f k x.f0 (x.f1.map cv_laws_PlantFoe) (x.f2.map cv_laws_PlantPlace) (x.f3.map cv_laws_PlantValve)) (validB x.f0 (x.f1.map cv_laws_PlantFoe) (x.f2.map cv_laws_PlantPlace) (x.f3.map cv_laws_PlantValve)) := by
  have z := szp_of x h
  have := z.hf
  exact specValid_ev _ _ _ _ z.hs (by omega) z.hp z.hv
theorem valid_v {s : List ByteArray} {f : List S_impl_PlantFoe} {p : List S_impl_PlantPlace} {v : List S_impl_PlantValve} (h : validB s f p v = true) : v.length ≤ 18 := by
  simp only [validB, Bool.and_eq_true, decide_eq_true_eq] at h; exact h.2.2.2.1
theorem valid_p {s : List ByteArray} {f : List S_impl_PlantFoe} {p : List S_impl_PlantPlace} {v : List S_impl_PlantValve} (h : validB s f p v = true) : p.length ≤ 14 := by
  simp only [validB, Bool.and_eq_true, decide_eq_true_eq] at h; exact h.2.2.1.1
/-! ### the stations of a plant -/
def stationsL (p : List S_impl_PlantPlace) (v : List S_impl_PlantValve) : List ByteArray := setW (setW [] (p.map (·.f2))) (v.map (·.f3))
theorem setW_cons (a : List ByteArray) (x : ByteArray) (b : List ByteArray) : setW a (x :: b) = setW (insertL x a) b := rfl
theorem setW_one (a : List ByteArray) (x : ByteArray) : setW a [x] = insertL x a := rfl
theorem setO_ev (a : List ByteArray) (x : ByteArray) (ha : SortedL a) (h : a.length ≤ 1000000) : Ev (fun k => impl_with.f k a [x]) (insertL x a) := setW_ev a [x] ha (by rw [List.length_singleton]; omega)
theorem specStations_ev (p : List S_impl_PlantPlace) (v : List S_impl_PlantValve) (hp : p.length ≤ 14) (hv : v.length ≤ 18) : Ev (fun k => spec_CtlStations.l0 k p v [] 0) (stationsL p v) := by
  have L1 : ∀ a : List ByteArray, a.length ≤ 14 → Ev (fun k => spec_CtlStations.l1 k v a 0) (setW a (v.map (·.f3))) := fun a ha => by
    have key := loopL z_impl_PlantValve v (P := fun i r => ∀ a : List ByteArray, a.length ≤ 14 + i → Ev (fun k => spec_CtlStations.l1 k v a (i : Int)) (setW a (r.map (·.f3))))
      (fun a h => by refine Ev.step (fun k => by rw [spec_CtlStations.l1]) ?_; exact ev_neg (by omega) (ev_ret rfl)) (fun i x r hi hx _ _ ih a h => ?_)
    · exact key a ha
    refine Ev.step (fun k => by rw [spec_CtlStations.l1]) (ev_pos (by omega) (ev_pos (by omega) ?_))
    rw [wsucc hi (by omega), rdV, hx, List.map_cons, setW_cons]
    have := insertL_len x.f3 a
    exact Ev.bind (l4Insert_ev a x.f3 (by omega)) (ih _ (by omega))
  unfold stationsL
  have key := loopL z_impl_PlantPlace p (P := fun i r => ∀ a : List ByteArray, a.length ≤ i → Ev (fun k => spec_CtlStations.l0 k p v a (i : Int)) (setW (setW a (r.map (·.f2))) (v.map (·.f3))))
    (fun a h => by refine Ev.step (fun k => by rw [spec_CtlStations.l0]) ?_; exact ev_neg (by omega) (L1 a (by omega))) (fun i x r hi hx _ _ ih a h => ?_)
  · exact key [] (Nat.zero_le _)
  refine Ev.step (fun k => by rw [spec_CtlStations.l0]) (ev_pos (by omega) (ev_pos (by omega) ?_))
  rw [wsucc hi (by omega), rdP, hx, List.map_cons, setW_cons]
  have := insertL_len x.f2 a
  exact Ev.bind (l4Insert_ev a x.f2 (by omega)) (ih _ (by omega))
theorem implStations_ev (s : List ByteArray) (f : List S_impl_PlantFoe) (p : List S_impl_PlantPlace) (v : List S_impl_PlantValve) (hp : p.length ≤ 14) (hv : v.length ≤ 18) : Ev (fun k => impl_stations.f k s f p v) (stationsL p v) := by
  have L1 : ∀ a : List ByteArray, SortedL a → a.length ≤ 14 → Ev (fun k => impl_stations.l1 k v a 0) (setW a (v.map (·.f3))) := fun a hs ha => by
    have key := loopL z_impl_PlantValve v (P := fun i r => ∀ a : List ByteArray, SortedL a → a.length ≤ 14 + i → Ev (fun k => impl_stations.l1 k v a (i : Int)) (setW a (r.map (·.f3))))
      (fun a _ h => by refine Ev.step (fun k => by rw [impl_stations.l1]) ?_; exact ev_neg (by omega) (ev_ret rfl)) (fun i x r hi hx _ _ ih a hs h => ?_)
    · exact key a hs ha
    refine Ev.step (fun k => by rw [impl_stations.l1]) (ev_pos (by omega) (ev_pos (by omega) ?_))
    rw [wsucc hi (by omega), rdV, hx, List.map_cons, setW_cons]
    have := insertL_len x.f3 a
    exact Ev.bind (setO_ev a x.f3 hs (by omega)) (ih _ (insertL_sorted _ _ hs) (by omega))
  unfold impl_stations.f stationsL
  have key := loopL z_impl_PlantPlace p (P := fun i r => ∀ a : List ByteArray, SortedL a → a.length ≤ i → Ev (fun k => impl_stations.l0 k p v a (i : Int)) (setW (setW a (r.map (·.f2))) (v.map (·.f3))))
    (fun a hs h => by refine Ev.step (fun k => by rw [impl_stations.l0]) ?_; exact ev_neg (by omega) (L1 a hs (by omega))) (fun i x r hi hx _ _ ih a hs h => ?_)
  · exact key [] sorted_nil (Nat.zero_le _)
  refine Ev.step (fun k => by rw [impl_stations.l0]) (ev_pos (by omega) (ev_pos (by omega) ?_))
  rw [wsucc hi (by omega), rdP, hx, List.map_cons, setW_cons]
  have := insertL_len x.f2 a
  exact Ev.bind (setO_ev a x.f2 hs (by omega)) (ih _ (insertL_sorted _ _ hs) (by omega))
theorem stations_len (p : List S_impl_PlantPlace) (v : List S_impl_PlantValve) : (stationsL p v).length ≤ p.length + v.length := by
  unfold stationsL
  have h1 := setW_len (v.map (·.f3)) (setW [] (p.map (·.f2)))
  have h2 := setW_len (p.map (·.f2)) []
  rw [List.length_map] at h1 h2
  rw [List.length_nil] at h2
  omega
/-! ### wants: what a right one is -/
theorem l21In_ev (a b c : Int) : Ev (fun _ => spec_l21In.f a b c) (inB a b c) := by
  unfold spec_l21In.f inB
  refine ev_split (fun h => ev_ret (decide_eq_decide.2 (by omega))) (fun h => ev_ret ?_)
  symm; apply decide_eq_false; omega
theorem l21NameOk_ev (s : ByteArray) : Ev (fun k => spec_l21NameOk.f k s) (nameB s) := by
  unfold spec_l21NameOk.f nameB
  refine Ev.bind (l21In_ev _ _ _) (ev_b (fun h => ?_) (fun h => ev_ret ?_))
  · have hs : 1 ≤ s.size ∧ s.size ≤ 8 := by have : inB _ _ _ = true := h; unfold inB at this; have := of_decide_eq_true this; omega
    rw [decide_eq_true hs, Bool.true_and]
    refine loopN s.size (P := fun i => Ev (fun k => spec_l21NameOk.l0 k s (i : Int)) (allFrom s i))
      (by refine Ev.step (fun k => by rw [spec_l21NameOk.l0]) ?_; exact ev_neg (by omega) (ev_ret (allFrom_end s).symm)) (fun i hi ih => ?_)
    refine Ev.step (fun k => by rw [spec_l21NameOk.l0]) (ev_pos (by omega) (ev_pos (by omega) ?_))
    rw [wsucc hi (by omega), allFrom_step s i hi]
    generalize bt s (i : Int) = c
    repeat' (first | (refine ev_split (fun _ => ?_) (fun _ => ?_)) | (rw [okc_t (by omega), Bool.true_and]; exact ih) | (rw [okc_f (by omega)]; exact ev_ret rfl))
  · have hs : ¬ (1 ≤ s.size ∧ s.size ≤ 8) := fun q => by have : inB _ _ _ = false := h; unfold inB at this; have := of_decide_eq_false this; omega
    rw [decide_eq_false hs]; rfl
theorem l21Has_ev (l : List ByteArray) (s : ByteArray) (hn : l.length ≤ 140737488351232) : Ev (fun k => spec_l21Has.f k l s) (hasB l s) := by
  unfold spec_l21Has.f hasB
  refine loopL ByteArray.empty l (P := fun i r => Ev (fun k => spec_l21Has.l0 k l s (i : Int)) (r.any fun x => decide (x = s)))
    (by refine Ev.step (fun k => by rw [spec_l21Has.l0]) ?_; exact ev_neg (by omega) (ev_ret rfl)) (fun i x r hi hx _ _ ih => ?_)
  refine Ev.step (fun k => by rw [spec_l21Has.l0]) (ev_pos (by omega) (ev_pos (by omega) ?_))
  rw [wsucc hi (by omega), rdOf_nat, hx]
  refine ev_split (fun c => ev_ret ?_) (fun c => ev_eq ih ?_)
  · simp [ba_iff.1 c]
  · simp [show ¬ x = s from fun e => c (ba_iff.2 e)]
theorem rdCU (l : List S_impl_ClaimUse) (i : Nat) : rd_impl_ClaimUse l (i : Int) = l.getD i z_impl_ClaimUse := by unfold rd_impl_ClaimUse; rw [Int.toNat_natCast]
def upB (n : Nat) (l : List ByteArray) : Bool := decide (l.length ≤ n) && namesB l
def useLt (x y : S_impl_ClaimUse) : Bool := lt x.f0 y.f0
def useB (kd : Int) (x : S_impl_ClaimUse) : Bool := nameB x.f0 && (inB x.f1 1 3 && (if x.f1 = 3 then decide (x.f2 = 0) else decide (kd = 1) && inB x.f2 1 1000))
def usesB (kd : Int) (u : List S_impl_ClaimUse) : Bool := u.all (useB kd) && chainB useLt none u
def shareB (a b : List ByteArray) : Bool := a.any (hasB b)
theorem l21NamesOk_ev (l : List ByteArray) (a : Nat) (hl : l.length ≤ 140737488351232) : Ev (fun k => spec_l21NamesOk.f k l (a : Int)) (upB a l) := by
  unfold spec_l21NamesOk.f upB
  refine ev_split (fun c => ev_ret (by rw [decide_eq_false (by omega : ¬ l.length ≤ a)]; rfl)) (fun c => ?_)
  rw [decide_eq_true (by omega : l.length ≤ a), Bool.true_and]
  refine loopL ByteArray.empty l (P := fun i r => Ev (fun k => spec_l21NamesOk.l0 k l (i : Int)) (r.all nameB && chainB lt (ahead ByteArray.empty l i) r))
    (by refine Ev.step (fun k => by rw [spec_l21NamesOk.l0]) ?_; exact ev_neg (by omega) (ev_ret rfl)) (fun i x r hi hx hm _ ih => ?_)
  refine Ev.step (fun k => by rw [spec_l21NamesOk.l0]) (ev_pos (by omega) (ev_pos (by omega) ?_))
  rw [wsucc hi (by omega), rdOf_nat, hx]
  rw [ahead_succ, hx] at ih
  clear hx hm
  by_cases z : i = 0
  · subst z
    rw [ahead_zero]
    repeat' (first
      | with_reducible refine Ev.bind (l21NameOk_ev _) ?_
      | with_reducible refine ev_pos (by omega) ?_
      | with_reducible refine ev_neg (by omega) ?_
      | with_reducible refine ev_b (fun c => ?_) (fun c => ?_)
      | with_reducible refine ev_split (fun c => ?_) (fun c => ?_))
    all_goals (first
      | (with_reducible refine ev_ret ?_; simp_all [chainB, lt, ba_iff]; done)
      | (with_reducible refine ev_eq (ih) ?_; simp_all [chainB, lt, ba_iff]; done))
  · rw [pre64 z (by omega), rdOf_nat, ahead_pos _ _ _ z]
    generalize l.getD (i - 1) ByteArray.empty = y
    repeat' (first
      | with_reducible refine Ev.bind (l21NameOk_ev _) ?_
      | with_reducible refine ev_pos (by omega) ?_
      | with_reducible refine ev_neg (by omega) ?_
      | with_reducible refine ev_b (fun c => ?_) (fun c => ?_)
      | with_reducible refine ev_split (fun c => ?_) (fun c => ?_))
    all_goals (first
      | (with_reducible refine ev_ret ?_; simp_all [chainB, lt, ba_iff]; done)
      | (with_reducible refine ev_eq (ih) ?_; simp_all [chainB, lt, ba_iff]; done))
theorem l21UsesOk_ev (nb kd : Int) (st : List ByteArray) (u : List S_impl_ClaimUse) (op sh : List ByteArray) (hu : u.length ≤ 140737488351232) :
    Ev (fun k => spec_l21UsesOk.f k nb kd st u op sh) (decide (u.length ≤ 8) && usesB kd u) := by
  unfold spec_l21UsesOk.f
  refine ev_split (fun c => ev_ret (by rw [decide_eq_false (by omega : ¬ u.length ≤ 8)]; rfl)) (fun c => ?_)
  rw [decide_eq_true (by omega : u.length ≤ 8), Bool.true_and]
  refine loopL z_impl_ClaimUse u (P := fun i r => Ev (fun k => spec_l21UsesOk.l0 k kd u (i : Int)) (r.all (useB kd) && chainB useLt (ahead z_impl_ClaimUse u i) r))
    (by refine Ev.step (fun k => by rw [spec_l21UsesOk.l0]) ?_; exact ev_neg (by omega) (ev_ret rfl)) (fun i x r hi hx hm _ ih => ?_)
  refine Ev.step (fun k => by rw [spec_l21UsesOk.l0]) (ev_pos (by omega) (ev_pos (by omega) ?_))
  rw [wsucc hi (by omega), rdCU, hx]
  rw [ahead_succ, hx] at ih
  clear hx hm
  by_cases z : i = 0
  · subst z
    rw [ahead_zero]
    by_cases d : kd = 1
    ·
      repeat' (first
        | with_reducible refine Ev.bind (l21NameOk_ev _) ?_
        | with_reducible refine Ev.bind (l21In_ev _ _ _) ?_
        | with_reducible refine ev_pos (by omega) ?_
        | with_reducible refine ev_neg (by omega) ?_
        | with_reducible refine ev_b (fun c => ?_) (fun c => ?_)
        | with_reducible refine ev_split (fun c => ?_) (fun c => ?_))
      all_goals (first
        | (with_reducible refine ev_ret ?_; simp_all [chainB, lt, ba_iff, useB, useLt]; done)
        | (with_reducible refine ev_eq (ih) ?_; simp_all [chainB, lt, ba_iff, useB, useLt]; done))
    ·
      repeat' (first
        | with_reducible refine Ev.bind (l21NameOk_ev _) ?_
        | with_reducible refine Ev.bind (l21In_ev _ _ _) ?_
        | with_reducible refine ev_pos (by omega) ?_
        | with_reducible refine ev_neg (by omega) ?_
        | with_reducible refine ev_b (fun c => ?_) (fun c => ?_)
        | with_reducible refine ev_split (fun c => ?_) (fun c => ?_))
      all_goals (first
        | (with_reducible refine ev_ret ?_; simp_all [chainB, lt, ba_iff, useB, useLt]; done)
        | (with_reducible refine ev_eq (ih) ?_; simp_all [chainB, lt, ba_iff, useB, useLt]; done))
  · rw [pre64 z (by omega), rdCU, ahead_pos _ _ _ z]
    generalize u.getD (i - 1) z_impl_ClaimUse = y
    by_cases d : kd = 1
    ·
      repeat' (first
        | with_reducible refine Ev.bind (l21NameOk_ev _) ?_
        | with_reducible refine Ev.bind (l21In_ev _ _ _) ?_
        | with_reducible refine ev_pos (by omega) ?_
        | with_reducible refine ev_neg (by omega) ?_
        | with_reducible refine ev_b (fun c => ?_) (fun c => ?_)
        | with_reducible refine ev_split (fun c => ?_) (fun c => ?_))
      all_goals (first
        | (with_reducible refine ev_ret ?_; simp_all [chainB, lt, ba_iff, useB, useLt]; done)
        | (with_reducible refine ev_eq (ih) ?_; simp_all [chainB, lt, ba_iff, useB, useLt]; done))
    ·
      repeat' (first
        | with_reducible refine Ev.bind (l21NameOk_ev _) ?_
        | with_reducible refine Ev.bind (l21In_ev _ _ _) ?_
        | with_reducible refine ev_pos (by omega) ?_
        | with_reducible refine ev_neg (by omega) ?_
        | with_reducible refine ev_b (fun c => ?_) (fun c => ?_)
        | with_reducible refine ev_split (fun c => ?_) (fun c => ?_))
      all_goals (first
        | (with_reducible refine ev_ret ?_; simp_all [chainB, lt, ba_iff, useB, useLt]; done)
        | (with_reducible refine ev_eq (ih) ?_; simp_all [chainB, lt, ba_iff, useB, useLt]; done))
theorem l21Share_ev (a b : List ByteArray) (ha : a.length ≤ 140737488351232) (hb : b.length ≤ 140737488351232) : Ev (fun k => spec_l21Share.f k a b) (shareB a b) := by
  unfold spec_l21Share.f shareB
  refine loopL ByteArray.empty a (P := fun i r => Ev (fun k => spec_l21Share.l0 k a b (i : Int)) (r.any (hasB b)))
    (by refine Ev.step (fun k => by rw [spec_l21Share.l0]) ?_; exact ev_neg (by omega) (ev_ret rfl)) (fun i x r hi hx hm _ ih => ?_)
  refine Ev.step (fun k => by rw [spec_l21Share.l0]) (ev_pos (by omega) (ev_pos (by omega) ?_))
  rw [wsucc hi (by omega), rdOf_nat, hx]
  refine Ev.bind (l21Has_ev b x hb) (ev_b (fun c => ev_ret (by rw [List.any_cons, c]; rfl)) (fun c => ev_eq ih (by rw [List.any_cons, c]; rfl)))
/-- a want that may stand -/
def wantB (nb kd : Int) (st : List ByteArray) (u : List S_impl_ClaimUse) (op sh : List ByteArray) : Bool :=
  inB nb 1 1000000 && (inB kd 1 3 && ((decide (u.length ≤ 8) && usesB kd u) && (upB 12 op && (upB 12 sh && (!shareB op sh && (decide (u.length + op.length + sh.length ≠ 0) && ((decide (kd = 1) || decide (op.length = 0)) && (upB 8 st && (decide (kd = 1) == decide (st.length ≠ 0))))))))))
theorem upB_le {n : Nat} {l : List ByteArray} (h : upB n l = true) : l.length ≤ n := by simp [upB] at h; exact h.1
theorem specWant_ev (nb kd : Int) (st : List ByteArray) (u : List S_impl_ClaimUse) (op sh : List ByteArray) (h2 : st.length ≤ 140737488351232) (h3 : u.length ≤ 140737488351232) (h4 : op.length ≤ 140737488351232) (h5 : sh.length ≤ 140737488351232) :
    Ev (fun k => spec_ClaimWantOk.f k nb kd st u op sh) (wantB nb kd st u op sh) := by
  have e1 := l21UsesOk_ev nb kd st u op sh h3
  have e2 := l21NamesOk_ev op 12 h4
  have e3 := l21NamesOk_ev sh 12 h5
  have e4 := l21NamesOk_ev st 8 h2
  have e5 := l21Share_ev op sh h4 h5
  have hw : wrap64 (wrap64 ((u.length : Int) + (op.length : Int)) + (sh.length : Int)) = ((u.length + op.length + sh.length : Nat) : Int) := by unfold wrap64; omega
  unfold spec_ClaimWantOk.f wantB
  rw [hw]
  rw [show decide ((st.length : Int) > 0) = decide (st.length ≠ 0) from decide_eq_decide.2 (by omega), show decide (u.length + op.length + sh.length ≠ 0) = !decide (((u.length + op.length + sh.length : Nat) : Int) = 0) from (decide_eq_decide.2 (by omega)).trans decide_not, show decide (op.length = 0) = !decide ((op.length : Int) > 0) from (decide_eq_decide.2 (by omega)).trans decide_not]
  clear hw
  generalize (decide (u.length ≤ 8) && usesB kd u) = b1 at *
  generalize upB 12 op = b2 at *
  generalize upB 12 sh = b3 at *
  generalize upB 8 st = b4 at *
  generalize shareB op sh = b5 at *
  generalize decide (st.length ≠ 0) = b6 at *
  generalize ((u.length + op.length + sh.length : Nat) : Int) = N at *
  generalize (op.length : Int) = M at *
  refine Ev.bind (l21In_ev _ _ _) (ev_b (fun c0 => ?_) (fun c0 => ev_ret (by simp [c0])))
  refine Ev.bind (l21In_ev _ _ _) (ev_b (fun c1 => ?_) (fun c1 => ev_ret (by simp [c1])))
  refine Ev.bind e1 (ev_b (fun c2 => ?_) (fun c2 => ev_ret (by simp [c2])))
  refine Ev.bind e2 (ev_b (fun c3 => ?_) (fun c3 => ev_ret (by simp [c3])))
  refine Ev.bind e3 (ev_b (fun c4 => ?_) (fun c4 => ev_ret (by simp [c4])))
  refine Ev.bind e5 (ev_b (fun c5 => ev_ret (by simp [c5])) (fun c5 => ?_))
  rw [c0, c1, c2, c3, c4, c5]
  refine ev_split (fun c6 => ev_ret (by simp [c6])) (fun c6 => ?_)
  refine ev_split (fun c7 => ?_) (fun c7 => ev_split (fun c8 => ev_ret (by simp [c7, c8])) (fun c8 => ?_))
  · refine Ev.bind e4 (ev_b (fun c9 => ev_ret (by simp [c6, c7, c9])) (fun c9 => ev_ret (by simp [c9])))
  · refine Ev.bind e4 (ev_b (fun c9 => ev_ret (by rw [decide_eq_false c6, decide_eq_false c7, decide_eq_false c8, c9]; simp)) (fun c9 => ev_ret (by simp [c9])))
structure SzW (w : S_impl_ClaimWant) : Prop where
  h2 : w.f2.length ≤ 8796093022207
  h3 : w.f3.length ≤ 4398046511104
  h4 : w.f4.length ≤ 8796093022207
  h5 : w.f5.length ≤ 8796093022207
  n2 : ∀ x ∈ w.f2, x.size ≤ 140737488351232
  n3 : ∀ x ∈ w.f3, x.f0.size ≤ 140737488351232
  n4 : ∀ x ∈ w.f4, x.size ≤ 140737488351232
  n5 : ∀ x ∈ w.f5, x.size ≤ 140737488351232
theorem implWantL1_ev (kd : Int) (u : List S_impl_ClaimUse) (op sh : List ByteArray) (h3 : u.length ≤ 140737488351232) (h4 : op.length ≤ 140737488351232) (h5 : sh.length ≤ 140737488351232) :
    Ev (fun k => impl_ClaimWantOk.l1 k kd u op sh 0) (!shareB op sh && (decide (u.length + op.length + sh.length ≠ 0) && (decide (kd = 1) || decide (op.length = 0)))) := by
  unfold shareB
  have hw : wrap64 (wrap64 ((u.length : Int) + (op.length : Int)) + (sh.length : Int)) = ((u.length + op.length + sh.length : Nat) : Int) := by unfold wrap64; omega
  refine loopL ByteArray.empty op (P := fun i r => Ev (fun k => impl_ClaimWantOk.l1 k kd u op sh (i : Int)) (!r.any (hasB sh) && (decide (u.length + op.length + sh.length ≠ 0) && (decide (kd = 1) || decide (op.length = 0)))))
    (by
      refine Ev.step (fun k => by rw [impl_ClaimWantOk.l1]) ?_
      rw [hw, show decide (((u.length + op.length + sh.length : Nat) : Int) > 0) = decide (u.length + op.length + sh.length ≠ 0) from decide_eq_decide.2 (by omega)]
      generalize decide (u.length + op.length + sh.length ≠ 0) = b at *
      refine ev_neg (by omega) (ev_split (fun c => ev_ret ?_) (fun c => ev_split (fun d => ev_ret ?_) (fun d => ev_ret ?_)))
      · rw [decide_eq_true (by omega : op.length = 0)]; simp
      · rw [decide_eq_true d]; simp
      · rw [decide_eq_false d, decide_eq_false (by omega : ¬ op.length = 0)]; simp) (fun i x r hi hx hm _ ih => ?_)
  refine Ev.step (fun k => by rw [impl_ClaimWantOk.l1]) (ev_pos (by omega) (ev_pos (by omega) ?_))
  rw [wsucc hi (by omega), rdOf_nat, hx, List.any_cons]
  refine Ev.bind (has_ev sh x h5) (ev_b (fun c => ev_ret (by rw [c]; rfl)) (fun c => ev_eq ih (by rw [c]; rfl)))
theorem implWantL0_ev (kd : Int) (u : List S_impl_ClaimUse) (op sh : List ByteArray) (h3 : u.length ≤ 140737488351232) (n3 : ∀ x ∈ u, x.f0.size ≤ 140737488351232) {T : Bool} (hT : Ev (fun k => impl_ClaimWantOk.l1 k kd u op sh 0) T) :
    Ev (fun k => impl_ClaimWantOk.l0 k kd u op sh 0) (usesB kd u && T) := by
  unfold usesB
  refine loopL z_impl_ClaimUse u (P := fun i r => Ev (fun k => impl_ClaimWantOk.l0 k kd u op sh (i : Int)) ((r.all (useB kd) && chainB useLt (ahead z_impl_ClaimUse u i) r) && T))
    (by refine Ev.step (fun k => by rw [impl_ClaimWantOk.l0]) ?_; exact ev_neg (by omega) hT) (fun i x r hi hx hm _ ih => ?_)
  rw [ahead_succ, hx] at ih
  have q := n3 x hm
  have J : ∀ c : Bool, nameB x.f0 = true → c = true → Ev (fun k => impl_ClaimWantOk.j0 k kd u op sh (i : Int)) (((useB kd x && r.all (useB kd)) && (c && chainB useLt (some x) r)) && T) := fun c hn hc => by
    subst hc
    refine Ev.step (fun k => by rw [impl_ClaimWantOk.j0]) ?_
    rw [wsucc hi (by omega), rdCU, hx]
    generalize r.all (useB kd) = R at *
    generalize chainB useLt (some x) r = C at *
    unfold useB
    rw [hn]
    refine ev_split (fun c1 => ev_split (fun c2 => ev_eq ih ?_) (fun c2 => ev_ret ?_)) (fun c1 => ?_)
    · rw [inB_t (by omega), if_pos c1, decide_eq_true c2]; simp
    · rw [if_pos c1, decide_eq_false c2]; simp
    · rw [if_neg c1]
      refine ev_split (fun c2 => ?_) (fun c2 => ev_split (fun c3 => ?_) (fun c3 => ev_ret ?_))
      · rw [inB_t (by omega : 1 ≤ x.f1 ∧ x.f1 ≤ 3)]
        refine ev_split (fun c4 => ev_ret ?_) (fun c4 => ev_split (fun c5 => ev_ret ?_) (fun c5 => ev_split (fun c6 => ev_eq ih ?_) (fun c6 => ev_ret ?_)))
        · rw [inB_f (by omega : ¬ (1 ≤ x.f2 ∧ x.f2 ≤ 1000))]; simp
        · rw [inB_f (by omega : ¬ (1 ≤ x.f2 ∧ x.f2 ≤ 1000))]; simp
        · rw [inB_t (by omega : 1 ≤ x.f2 ∧ x.f2 ≤ 1000), decide_eq_true c6]; simp
        · rw [decide_eq_false c6]; simp
      · rw [inB_t (by omega : 1 ≤ x.f1 ∧ x.f1 ≤ 3)]
        refine ev_split (fun c4 => ev_ret ?_) (fun c4 => ev_split (fun c5 => ev_ret ?_) (fun c5 => ev_split (fun c6 => ev_eq ih ?_) (fun c6 => ev_ret ?_)))
        · rw [inB_f (by omega : ¬ (1 ≤ x.f2 ∧ x.f2 ≤ 1000))]; simp
        · rw [inB_f (by omega : ¬ (1 ≤ x.f2 ∧ x.f2 ≤ 1000))]; simp
        · rw [inB_t (by omega : 1 ≤ x.f2 ∧ x.f2 ≤ 1000), decide_eq_true c6]; simp
        · rw [decide_eq_false c6]; simp
      · rw [inB_f (by omega : ¬ (1 ≤ x.f1 ∧ x.f1 ≤ 3))]; simp
  refine Ev.step (fun k => by rw [impl_ClaimWantOk.l0]) (ev_pos (by omega) (ev_pos (by omega) ?_))
  rw [rdCU, hx, List.all_cons]
  refine Ev.bind (isName_ev _ q) (ev_b (fun c => ?_) (fun c => ev_ret (by rw [useB, c]; rfl)))
  by_cases z : i = 0
  · subst z
    rw [ahead_zero, chain_none]
    exact ev_neg (by omega) (ev_eq (J true c rfl) (by rw [Bool.true_and]))
  · rw [pre64 z (by omega), rdCU, ahead_pos _ _ _ z]
    generalize u.getD (i - 1) z_impl_ClaimUse = y
    refine ev_pos (by omega) (ev_pos (by omega) (ev_pos (by omega) (ev_b (fun d => ?_) (fun d => ev_ret ?_))))
    · exact ev_eq (J true c rfl) (by rw [chainB, useLt, lt, d])
    · rw [chainB, useLt, lt, d]; simp
theorem implWant_ev (w : S_impl_ClaimWant) (z : SzW w) : Ev (fun k => impl_ClaimWantOk.f k w.f0 w.f1 w.f2 w.f3 w.f4 w.f5) (wantB w.f0 w.f1 w.f2 w.f3 w.f4 w.f5) := by
  have z2 := z.h2; have z3 := z.h3; have z4 := z.h4; have z5 := z.h5
  have e0 := implWantL0_ev w.f1 w.f3 w.f4 w.f5 (by omega) z.n3 (implWantL1_ev w.f1 w.f3 w.f4 w.f5 (by omega) (by omega) (by omega))
  have e2 := names_ev w.f2 (by omega) z.n2
  have e4 := names_ev w.f4 (by omega) z.n4
  have e5 := names_ev w.f5 (by omega) z.n5
  unfold impl_ClaimWantOk.f wantB upB
  rw [show decide ((w.f2.length : Int) > 0) = decide (w.f2.length ≠ 0) from decide_eq_decide.2 (by omega)]
  generalize decide (w.f3.length + w.f4.length + w.f5.length ≠ 0) = N at *
  generalize decide (w.f2.length ≠ 0) = M at *
  generalize decide (w.f4.length = 0) = K at *
  generalize shareB w.f4 w.f5 = S at *
  generalize usesB w.f1 w.f3 = U at *
  generalize namesB w.f2 = n2 at *
  generalize namesB w.f4 = n4 at *
  generalize namesB w.f5 = n5 at *
  refine ev_split (fun c => ev_ret (by rw [inB_f (by omega : ¬ (1 ≤ w.f0 ∧ w.f0 ≤ 1000000))]; rfl)) (fun c0 => ?_)
  refine ev_split (fun c => ev_ret (by rw [inB_f (by omega : ¬ (1 ≤ w.f0 ∧ w.f0 ≤ 1000000))]; rfl)) (fun c1 => ?_)
  refine ev_split (fun c => ev_ret (by rw [inB_f (by omega : ¬ (1 ≤ w.f1 ∧ w.f1 ≤ 3))]; simp)) (fun c2 => ?_)
  refine ev_split (fun c => ev_ret (by rw [inB_f (by omega : ¬ (1 ≤ w.f1 ∧ w.f1 ≤ 3))]; simp)) (fun c3 => ?_)
  rw [inB_t (by omega : 1 ≤ w.f0 ∧ w.f0 ≤ 1000000), inB_t (by omega : 1 ≤ w.f1 ∧ w.f1 ≤ 3)]
  generalize decide (w.f1 = 1) = D at *
  refine ev_split (fun c => ev_ret (by rw [decide_eq_false (by omega : ¬ w.f2.length ≤ 8)]; simp)) (fun c4 => ?_)
  rw [decide_eq_true (by omega : w.f2.length ≤ 8)]
  refine Ev.bind e2 (ev_b (fun c5 => ?_) (fun c5 => ev_ret (by rw [c5]; simp)))
  refine ev_b (fun c6 => ev_ret ?_) (fun c6 => ?_)
  · rw [show (D == M) = false by revert c6; clear e0; revert D M; decide]; simp
  rw [show (D == M) = true by revert c6; clear e0; revert D M; decide]
  refine ev_split (fun c => ev_ret (by rw [decide_eq_false (by omega : ¬ w.f3.length ≤ 8)]; simp)) (fun c7 => ?_)
  refine ev_split (fun c => ev_ret (by rw [decide_eq_false (by omega : ¬ w.f4.length ≤ 12)]; simp)) (fun c8 => ?_)
  refine ev_split (fun c => ev_ret (by rw [decide_eq_false (by omega : ¬ w.f5.length ≤ 12)]; simp)) (fun c9 => ?_)
  rw [decide_eq_true (by omega : w.f3.length ≤ 8), decide_eq_true (by omega : w.f4.length ≤ 12), decide_eq_true (by omega : w.f5.length ≤ 12)]
  refine Ev.bind e4 (ev_b (fun c10 => ?_) (fun c10 => ev_ret (by rw [c10]; simp)))
  refine Ev.bind e5 (ev_b (fun c11 => ?_) (fun c11 => ev_ret (by rw [c11]; simp)))
  rw [c5, c10, c11]
  exact ev_eq e0 (by simp)
/-! ### words -/
structure Word where
  f0 : Int
  f1 : ByteArray
  f2 : Int
  f3 : S_impl_ClaimWant
  f4 : Int
  f5 : Bool
def cvWord (y : S_laws_CtlWord) : Word := ⟨y.f0, y.f1, y.f2, cv_laws_ClaimWant y.f3, y.f4, y.f5⟩
def noWantB (nb kd : Int) (st : List ByteArray) (u : List S_impl_ClaimUse) (op sh : List ByteArray) : Bool := decide (nb = 0) && (decide (kd = 0) && decide (st.length = 0 ∧ u.length = 0 ∧ op.length = 0 ∧ sh.length = 0))
theorem l32NoWant_ev (nb kd : Int) (st : List ByteArray) (u : List S_impl_ClaimUse) (op sh : List ByteArray) (h2 : st.length ≤ 140737488351232) (h3 : u.length ≤ 140737488351232) (h4 : op.length ≤ 140737488351232) (h5 : sh.length ≤ 140737488351232) :
    Ev (fun _ => spec_l32NoWant.f nb kd st u op sh) (noWantB nb kd st u op sh) := by
  unfold spec_l32NoWant.f noWantB
  refine ev_split (fun c => ev_split (fun d => ev_ret ?_) (fun d => ev_ret (by rw [decide_eq_false d]; simp))) (fun c => ev_ret (by rw [decide_eq_false c]; rfl))
  rw [decide_eq_true c, decide_eq_true d]
  have hw : wrap64 (wrap64 (wrap64 ((st.length : Int) + (u.length : Int)) + (op.length : Int)) + (sh.length : Int)) = ((st.length + u.length + op.length + sh.length : Nat) : Int) := by unfold wrap64; omega
  rw [hw]
  simp only [Bool.true_and]
  exact decide_eq_decide.2 (by omega)
theorem eqS_nil (l : List ByteArray) : Ev (fun k => slices_Equal_string_string.f k l []) (decide (l.length = 0)) := by
  unfold slices_Equal_string_string.f
  refine ev_split (fun c => ?_) (fun c => ev_ret ?_)
  · have hl : l.length = 0 := by rw [List.length_nil] at c; omega
    refine Ev.step (fun k => by rw [slices_Equal_string_string.l0]) (ev_neg (by omega) (ev_ret (by rw [decide_eq_true hl])))
  · symm; apply decide_eq_false; intro h; apply c; rw [List.length_nil]; omega
theorem eqU_nil (l : List S_impl_ClaimUse) : Ev (fun k => impl_ClaimUse.f k l []) (decide (l.length = 0)) := by
  unfold impl_ClaimUse.f
  refine ev_split (fun c => ?_) (fun c => ev_ret ?_)
  · have hl : l.length = 0 := by rw [List.length_nil] at c; omega
    refine Ev.step (fun k => by rw [impl_ClaimUse.l0]) (ev_neg (by omega) (ev_ret (by rw [decide_eq_true hl])))
  · symm; apply decide_eq_false; intro h; apply c; rw [List.length_nil]; omega
theorem isNil_ev (nb kd : Int) (st : List ByteArray) (u : List S_impl_ClaimUse) (op sh : List ByteArray) : Ev (fun k => impl_ClaimWant_is.f k nb kd st u op sh 0 0 [] [] [] []) (noWantB nb kd st u op sh) := by
  unfold impl_ClaimWant_is.f noWantB
  have e : decide (st.length = 0 ∧ u.length = 0 ∧ op.length = 0 ∧ sh.length = 0) = (decide (st.length = 0) && (decide (u.length = 0) && (decide (op.length = 0) && decide (sh.length = 0)))) := by simp
  rw [e]
  refine ev_split (fun c => ev_split (fun d => ?_) (fun d => ev_ret (by rw [decide_eq_false d]; simp))) (fun c => ev_ret (by rw [decide_eq_false c]; rfl))
  rw [decide_eq_true c, decide_eq_true d]
  simp only [Bool.true_and]
  refine Ev.bind (eqS_nil st) (ev_b (fun c1 => ?_) (fun c1 => ev_ret (by rw [c1]; rfl)))
  refine Ev.bind (eqU_nil u) (ev_b (fun c2 => ?_) (fun c2 => ev_ret (by rw [c2]; simp)))
  refine Ev.bind (eqS_nil op) (ev_b (fun c3 => ?_) (fun c3 => ev_ret (by rw [c3]; simp)))
  rw [c1, c2, c3]
  exact Ev.bind (eqS_nil sh) (ev_ret rfl)
def wordTail (nb : Int) (w : Word) : Bool := if w.f0 = 1 then wantB w.f3.f0 w.f3.f1 w.f3.f2 w.f3.f3 w.f3.f4 w.f3.f5 && decide (w.f3.f0 = nb) else noWantB w.f3.f0 w.f3.f1 w.f3.f2 w.f3.f3 w.f3.f4 w.f3.f5
def wordB (S : List ByteArray) (w : Word) : Bool :=
  inB w.f0 1 10 && (inB w.f2 1 1000000 && ((if w.f0 < 9 then hasB S w.f1 else decide (w.f1 = (⟨#[]⟩ : ByteArray))) && ((decide (w.f0 = 6) || (decide (w.f0 = 7) || decide (w.f4 = 0))) && (inB w.f4 0 1000 && ((!w.f5 || decide (w.f0 = 7)) && wordTail w.f2 w)))))
section
variable (s : List ByteArray) (f : List S_impl_PlantFoe) (p : List S_impl_PlantPlace) (v : List S_impl_PlantValve) (w : Word)
theorem specWord_ev (z : SzW w.f3) (hp : p.length ≤ 14) (hv : v.length ≤ 18) (hn : hasB (stationsL p v) (⟨#[]⟩ : ByteArray) = false) (hV : Ev (fun k => spec_PlantValid.f k s f p v) true) :
    Ev (fun k => spec_CtlWordOk.f k s f p v w.f0 w.f1 w.f2 w.f3.f0 w.f3.f1 w.f3.f2 w.f3.f3 w.f3.f4 w.f3.f5 w.f4 w.f5) (wordB (stationsL p v) w) := by
  have z2 := z.h2; have z3 := z.h3; have z4 := z.h4; have z5 := z.h5
  have eW := specWant_ev w.f3.f0 w.f3.f1 w.f3.f2 w.f3.f3 w.f3.f4 w.f3.f5 (by omega) (by omega) (by omega) (by omega)
  have eN := l32NoWant_ev w.f3.f0 w.f3.f1 w.f3.f2 w.f3.f3 w.f3.f4 w.f3.f5 (by omega) (by omega) (by omega) (by omega)
  have t1 : w.f0 = 1 → Ev (fun k => (spec_ClaimWantOk.f k w.f3.f0 w.f3.f1 w.f3.f2 w.f3.f3 w.f3.f4 w.f3.f5).bind fun t => if t = true then some (decide (w.f3.f0 = w.f2)) else some false) (wordTail w.f2 w) := fun h => by
    unfold wordTail; rw [if_pos h]
    exact Ev.bind eW (ev_b (fun c => ev_ret (by rw [c]; rfl)) (fun c => ev_ret (by rw [c]; rfl)))
  have t2 : ¬ w.f0 = 1 → Ev (fun _ => (spec_l32NoWant.f w.f3.f0 w.f3.f1 w.f3.f2 w.f3.f3 w.f3.f4 w.f3.f5).bind fun t => some t) (wordTail w.f2 w) := fun h => by
    unfold wordTail; rw [if_neg h]
    exact Ev.bind eN (ev_ret rfl)
  unfold wordB
  generalize wordTail w.f2 w = T at *
  have J : Ev (fun k => spec_CtlWordOk.j0 k w.f0 w.f2 w.f3.f0 w.f3.f1 w.f3.f2 w.f3.f3 w.f3.f4 w.f3.f5 w.f4 w.f5) ((decide (w.f0 = 6) || (decide (w.f0 = 7) || decide (w.f4 = 0))) && (inB w.f4 0 1000 && ((!w.f5 || decide (w.f0 = 7)) && T))) := by
    refine Ev.step (fun k => by rw [spec_CtlWordOk.j0]) ?_
    by_cases c6 : w.f0 = 6
    · refine ev_pos c6 (Ev.bind (l2In_ev _ _ _) (ev_b (fun c => ?_) (fun c => ev_ret (by rw [c]; simp))))
      rw [c, decide_eq_true c6, decide_eq_false (by omega : ¬ w.f0 = 7)]
      refine ev_b (fun d => ev_neg (by omega) (ev_ret (by rw [d]; rfl))) (fun d => ev_neg (by omega) (ev_eq (t2 (by omega)) (by rw [d]; simp)))
    · refine ev_neg c6 ?_
      by_cases c7 : w.f0 = 7
      · refine ev_pos c7 (Ev.bind (l2In_ev _ _ _) (ev_b (fun c => ?_) (fun c => ev_ret (by rw [c]; simp))))
        rw [c, decide_eq_false c6, decide_eq_true c7]
        refine ev_b (fun d => ev_neg (by omega) (ev_eq (t2 (by omega)) (by rw [d]; simp))) (fun d => ev_neg (by omega) (ev_eq (t2 (by omega)) (by rw [d]; simp)))
      · refine ev_neg c7 (ev_split (fun c0 => ?_) (fun c0 => ev_ret (by rw [decide_eq_false c6, decide_eq_false c7, decide_eq_false c0]; rfl)))
        refine Ev.bind (l2In_ev _ _ _) (ev_b (fun c => ?_) (fun c => ev_ret (by rw [c]; simp)))
        rw [c, decide_eq_false c6, decide_eq_false c7, decide_eq_true c0]
        refine ev_b (fun d => ev_ret (by rw [d]; rfl)) (fun d => ev_split (fun c1 => ev_eq (t1 c1) (by rw [d]; simp)) (fun c1 => ev_eq (t2 c1) (by rw [d]; simp)))
  unfold spec_CtlWordOk.f
  refine Ev.bind hV (ev_pos rfl (Ev.bind (l2In_ev _ _ _) (ev_b (fun c1 => ?_) (fun c1 => ev_ret (by rw [c1]; rfl)))))
  refine Ev.bind (l2In_ev _ _ _) (ev_b (fun c2 => ?_) (fun c2 => ev_ret (by rw [c2]; simp)))
  have hl := stations_len p v
  rw [c1, c2]
  have eT : Ev (fun k => spec_CtlStations.f k s f p v) (stationsL p v) := by
    unfold spec_CtlStations.f
    exact Ev.bind hV (ev_pos rfl (specStations_ev p v hp hv))
  generalize stationsL p v = S at *
  refine Ev.bind eT (Ev.bind (l2Has_ev S w.f1 (by omega)) ?_)
  by_cases c9 : w.f0 < 9
  · rw [decide_eq_true c9, if_pos c9]
    refine ev_b (fun c => ev_ret ?_) (fun c => ev_neg (by omega) ?_)
    · cases h : hasB S w.f1 with
      | true => rw [h] at c; cases c
      | false => rfl
    · have h : hasB S w.f1 = true := by
        cases h : hasB S w.f1 with
        | true => rfl
        | false => rw [h] at c; cases c
      rw [h]
      exact J
  · rw [decide_eq_false c9, if_neg c9]
    by_cases ce : w.f1 = (⟨#[]⟩ : ByteArray)
    · rw [ce, hn, decide_eq_true rfl]
      exact ev_neg (by decide) (ev_pos (by omega) (ev_pos rfl J))
    · rw [decide_eq_false ce]
      exact ev_b (fun c => ev_ret rfl) (fun c => ev_pos (by omega) (ev_neg (fun q => ce (ba_iff.1 q)) (ev_ret rfl)))
theorem implWord_ev (z : SzW w.f3) (hp : p.length ≤ 14) (hv : v.length ≤ 18) :
    Ev (fun k => impl_wordOk.f k s f p v w.f0 w.f1 w.f2 w.f3.f0 w.f3.f1 w.f3.f2 w.f3.f3 w.f3.f4 w.f3.f5 w.f4 w.f5) (wordB (stationsL p v) w) := by
  have eW := implWant_ev w.f3 z
  have eN := isNil_ev w.f3.f0 w.f3.f1 w.f3.f2 w.f3.f3 w.f3.f4 w.f3.f5
  have J0 : Ev (fun k => impl_wordOk.j0 k w.f0 w.f2 w.f3.f0 w.f3.f1 w.f3.f2 w.f3.f3 w.f3.f4 w.f3.f5) (wordTail w.f2 w) := by
    refine Ev.step (fun k => by rw [impl_wordOk.j0]) ?_
    unfold wordTail
    by_cases c : w.f0 = 1
    · rw [if_pos c]
      exact ev_pos c (Ev.bind eW (ev_b (fun c => ev_ret (by rw [c]; rfl)) (fun c => ev_ret (by rw [c]; rfl))))
    · rw [if_neg c]
      exact ev_neg c (Ev.bind eN (ev_ret rfl))
  unfold impl_wordOk.f wordB
  generalize wordTail w.f2 w = T at *
  have J1 : Ev (fun k => impl_wordOk.j1 k w.f0 w.f2 w.f3.f0 w.f3.f1 w.f3.f2 w.f3.f3 w.f3.f4 w.f3.f5 w.f4 w.f5) ((decide (w.f0 = 6) || (decide (w.f0 = 7) || decide (w.f4 = 0))) && ((!w.f5 || decide (w.f0 = 7)) && T)) := by
    refine Ev.step (fun k => by rw [impl_wordOk.j1]) ?_
    by_cases c6 : w.f0 = 6
    · rw [decide_eq_true c6, decide_eq_false (by omega : ¬ w.f0 = 7)]
      refine ev_split (fun c0 => ?_) (fun c0 => ev_pos c6 ?_) <;> exact ev_b (fun d => ev_neg (by omega) (ev_ret (by rw [d]; rfl))) (fun d => ev_eq J0 (by rw [d]; rfl))
    · by_cases c7 : w.f0 = 7
      · rw [decide_eq_false c6, decide_eq_true c7]
        refine ev_split (fun c0 => ?_) (fun c0 => ev_neg c6 (ev_pos c7 ?_))
        · exact ev_b (fun d => ev_pos c7 (ev_eq J0 (by rw [d]; rfl))) (fun d => ev_eq J0 (by rw [d]; rfl))
        · exact ev_b (fun d => ev_eq J0 (by rw [d]; rfl)) (fun d => ev_eq J0 (by rw [d]; rfl))
      · rw [decide_eq_false c6, decide_eq_false c7]
        refine ev_split (fun c0 => ?_) (fun c0 => ev_neg c6 (ev_neg c7 (ev_ret (by rw [decide_eq_false c0]; rfl))))
        rw [decide_eq_true c0]
        exact ev_b (fun d => ev_neg c7 (ev_ret (by rw [d]; rfl))) (fun d => ev_eq J0 (by rw [d]; rfl))
  have eT := implStations_ev s f p v hp hv
  have hl := stations_len p v
  generalize stationsL p v = S at *
  refine ev_split (fun c => ev_ret (by rw [inB_f (by omega : ¬ (1 ≤ w.f0 ∧ w.f0 ≤ 10))]; rfl)) (fun c1 => ?_)
  refine ev_split (fun c => ev_ret (by rw [inB_f (by omega : ¬ (1 ≤ w.f0 ∧ w.f0 ≤ 10))]; rfl)) (fun c2 => ?_)
  refine ev_split (fun c => ev_ret (by rw [inB_f (by omega : ¬ (1 ≤ w.f2 ∧ w.f2 ≤ 1000000))]; simp)) (fun c3 => ?_)
  refine ev_split (fun c => ev_ret (by rw [inB_f (by omega : ¬ (1 ≤ w.f2 ∧ w.f2 ≤ 1000000))]; simp)) (fun c4 => ?_)
  refine ev_split (fun c => ev_ret (by rw [inB_f (by omega : ¬ (0 ≤ w.f4 ∧ w.f4 ≤ 1000))]; simp)) (fun c5 => ?_)
  refine ev_split (fun c => ev_ret (by rw [inB_f (by omega : ¬ (0 ≤ w.f4 ∧ w.f4 ≤ 1000))]; simp)) (fun c6 => ?_)
  rw [inB_t (by omega : 1 ≤ w.f0 ∧ w.f0 ≤ 10), inB_t (by omega : 1 ≤ w.f2 ∧ w.f2 ≤ 1000000), inB_t (by omega : 0 ≤ w.f4 ∧ w.f4 ≤ 1000)]
  refine ev_split (fun c9 => ?_) (fun c9 => ev_pos (by omega) ?_)
  · rw [if_neg (by omega : ¬ w.f0 < 9)]
    refine ev_split (fun ce => ?_) (fun ce => ev_ret ?_)
    · rw [decide_eq_true (ba_iff.1 ce)]
      exact ev_neg (by omega) J1
    · rw [decide_eq_false (fun q => ce (ba_iff.2 q))]; rfl
  · rw [if_pos (by omega : w.f0 < 9)]
    refine Ev.bind eT (Ev.bind (has_ev S w.f1 (by omega)) (ev_b (fun c => ev_eq J1 (by rw [c]; rfl)) (fun c => ev_ret (by rw [c]; rfl))))
end
theorem stations_full {s : List ByteArray} {f : List S_impl_PlantFoe} {p : List S_impl_PlantPlace} {v : List S_impl_PlantValve} (h : validB s f p v = true) : hasB (stationsL p v) (⟨#[]⟩ : ByteArray) = false := by
  rw [← Bool.not_eq_true, hasB_iff]
  intro q
  unfold stationsL at q
  rw [setW_mem, setW_mem] at q
  have ne : ∀ y : ByteArray, nameB y = true → y ≠ (⟨#[]⟩ : ByteArray) := fun y hy e => by
    subst e
    unfold nameB at hy
    rw [Bool.and_eq_true, decide_eq_true_iff] at hy
    have h1 := hy.1.1
    have : ByteArray.size (⟨#[]⟩ : ByteArray) = 0 := rfl
    omega
  simp only [validB, placesB, valvesB, Bool.and_eq_true, decide_eq_true_eq, List.all_eq_true] at h
  rcases q with (q | q) | q
  · cases q
  · obtain ⟨y, hy, e⟩ := List.mem_map.1 q
    have := h.2.2.1.2.1 y hy
    simp only [placeB, Bool.and_eq_true] at this
    exact ne _ this.2.2 e
  · obtain ⟨y, hy, e⟩ := List.mem_map.1 q
    have := h.2.2.2.2.1 y hy
    simp only [valveB, Bool.and_eq_true] at this
    exact ne _ this.2.2.2.2 e
theorem FnExactCtlWordOk : ∀ (x0 : S_laws_Plant) (x1 : S_laws_CtlWord), (ok_laws_Plant x0) → (ok_laws_CtlWord x1) → ∃ k, laws_FnExactCtlWordOk.f k x0.f0 x0.f1 x0.f2 x0.f3 x1.f0 x1.f1 x1.f2 x1.f3.f0 x1.f3.f1 x1.f3.f2 x1.f3.f3 x1.f3.f4 x1.f3.f5 x1.f4 x1.f5 = some true := by
  intro x y hx hy
  obtain ⟨q, hq⟩ := szPlant_ev x hx 1048576
  obtain ⟨q2, hq2⟩ := szCtlWord_ev y hy q
  have ht := toPlant_ev x hx
  have ht2 := toCtlWord_ev y hy
  have hS := specValid_of x hx
  have hI := implValid_ev _ _ _ _ (szp_of x hx)
  have hE := eqPlantRefl_ev x hx
  have zw : SzW (cvWord y).f3 := by
    obtain ⟨h0, h1, h2, ⟨h3, h4, ⟨h5, k5⟩, ⟨h6, k6⟩, ⟨h7, k7⟩, ⟨h8, k8⟩⟩, h9⟩ := hy
    refine ⟨?_, ?_, ?_, ?_, k5, fun u hu => ?_, k7, k8⟩
    · show y.f3.f2.length ≤ _; omega
    · show (y.f3.f3.map cv_laws_ClaimUse).length ≤ _; rw [List.length_map]; omega
    · show y.f3.f4.length ≤ _; omega
    · show y.f3.f5.length ≤ _; omega
    · obtain ⟨z, hz, rfl⟩ := List.mem_map.1 hu; exact (k6 z hz).1
  have okw : ok_impl_ClaimWant (cvWord y).f3 := by
    obtain ⟨h0, h1, h2, ⟨h3, h4, h5, ⟨h6, k6⟩, h7, h8⟩, h9⟩ := hy
    refine ⟨h3, h4, h5, ⟨by show (y.f3.f3.map cv_laws_ClaimUse).length ≤ _ ∧ (y.f3.f3.map cv_laws_ClaimUse).length * 32 ≤ _; rw [List.length_map]; exact h6, fun u hu => ?_⟩, h7, h8⟩
    obtain ⟨z, hz, rfl⟩ := List.mem_map.1 hu
    exact k6 z hz
  have hE2 := eqCtlWord_ev y.f0 y.f1 y.f2 (cvWord y).f3 y.f4 y.f5 hy.1 hy.2.1 hy.2.2.1 okw hy.2.2.2.2.1 trivial
  have eS0 := specWord_ev x.f0 (x.f1.map cv_laws_PlantFoe) (x.f2.map cv_laws_PlantPlace) (x.f3.map cv_laws_PlantValve) (cvWord y) zw
  have eI0 := implWord_ev x.f0 (x.f1.map cv_laws_PlantFoe) (x.f2.map cv_laws_PlantPlace) (x.f3.map cv_laws_PlantValve) (cvWord y) zw
  generalize x.f1.map cv_laws_PlantFoe = f at *
  generalize x.f2.map cv_laws_PlantPlace = p at *
  generalize x.f3.map cv_laws_PlantValve = v at *
  have hv := @valid_v x.f0 f p v
  have hp := @valid_p x.f0 f p v
  have hn := @stations_full x.f0 f p v
  generalize hb : validB x.f0 f p v = b at *
  have eS : Ev (fun k => spec_CtlWordOk.f k x.f0 f p v y.f0 y.f1 y.f2 y.f3.f0 y.f3.f1 y.f3.f2 (y.f3.f3.map cv_laws_ClaimUse) y.f3.f4 y.f3.f5 y.f4 y.f5) (b && wordB (stationsL p v) (cvWord y)) := by
    cases b
    · unfold spec_CtlWordOk.f
      exact Ev.bind hS (ev_neg (by simp) (ev_ret rfl))
    · exact ev_eq (eS0 (hp rfl) (hv rfl) (hn rfl) hS) (by rw [Bool.true_and])
  have eI : Ev (fun k => impl_CtlWordOk.f k x.f0 f p v y.f0 y.f1 y.f2 y.f3.f0 y.f3.f1 y.f3.f2 (y.f3.f3.map cv_laws_ClaimUse) y.f3.f4 y.f3.f5 y.f4 y.f5) (b && wordB (stationsL p v) (cvWord y)) := by
    unfold impl_CtlWordOk.f
    refine Ev.bind hI ?_
    cases b
    · exact ev_neg (by simp) (ev_ret rfl)
    · exact ev_pos rfl (Ev.bind (eI0 (hp rfl) (hv rfl)) (ev_ret (by rw [Bool.true_and])))
  generalize (b && wordB (stationsL p v) (cvWord y)) = R at *
  refine Ev.rounds ?_
  unfold laws_FnExactCtlWordOk.f
  refine Ev.bind hq (ev_split (fun _ => ev_ret rfl) (fun _ => Ev.bind hq2 (ev_split (fun _ => ev_ret rfl) (fun _ => ?_))))
  refine Ev.bind ht (Ev.bind ht2 (Ev.bind eS (Ev.bind ht (Ev.bind ht2 (Ev.bind eI (ev_b (fun c => ?_) (fun _ => Ev.bind ht (Ev.bind hE (ev_pos rfl (Ev.bind ht2 (Ev.bind hE2 (ev_pos rfl (ev_ret rfl)))))))))))))
  simp at c
end Go.Proofs.Ytamkmmkchdnkmaa.Pure
