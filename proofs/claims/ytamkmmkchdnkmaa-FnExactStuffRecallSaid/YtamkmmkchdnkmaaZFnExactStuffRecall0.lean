import Derived.Test.YtamkmmkchdnkmaaY2
set_option linter.unusedVariables false
namespace Go.Proofs.Ytamkmmkchdnkmaa.SR
open Go Go.RowKit Go.Aw
structure S_laws_StuffFoe where
  f0 : ByteArray
  f1 : ByteArray
def z_laws_StuffFoe : S_laws_StuffFoe := ⟨(⟨#[]⟩ : ByteArray), (⟨#[]⟩ : ByteArray)⟩
def rd_laws_StuffFoe (xs : List S_laws_StuffFoe) (i : Int) : S_laws_StuffFoe := xs.getD i.toNat z_laws_StuffFoe
structure S_laws_StuffLot where
  f0 : ByteArray
  f1 : ByteArray
def z_laws_StuffLot : S_laws_StuffLot := ⟨(⟨#[]⟩ : ByteArray), (⟨#[]⟩ : ByteArray)⟩
def rd_laws_StuffLot (xs : List S_laws_StuffLot) (i : Int) : S_laws_StuffLot := xs.getD i.toNat z_laws_StuffLot
structure S_laws_StuffPart where
  f0 : ByteArray
  f1 : Int
def z_laws_StuffPart : S_laws_StuffPart := ⟨(⟨#[]⟩ : ByteArray), (0 : Int)⟩
def rd_laws_StuffPart (xs : List S_laws_StuffPart) (i : Int) : S_laws_StuffPart := xs.getD i.toNat z_laws_StuffPart
structure S_laws_StuffVessel where
  f0 : ByteArray
  f1 : Int
  f2 : List S_laws_StuffPart
  f3 : List ByteArray
def z_laws_StuffVessel : S_laws_StuffVessel := ⟨(⟨#[]⟩ : ByteArray), (0 : Int), ([] : List S_laws_StuffPart), ([] : List ByteArray)⟩
def rd_laws_StuffVessel (xs : List S_laws_StuffVessel) (i : Int) : S_laws_StuffVessel := xs.getD i.toNat z_laws_StuffVessel
structure S_laws_StuffOut where
  f0 : ByteArray
  f1 : List S_laws_StuffPart
  f2 : List ByteArray
def z_laws_StuffOut : S_laws_StuffOut := ⟨(⟨#[]⟩ : ByteArray), ([] : List S_laws_StuffPart), ([] : List ByteArray)⟩
def rd_laws_StuffOut (xs : List S_laws_StuffOut) (i : Int) : S_laws_StuffOut := xs.getD i.toNat z_laws_StuffOut
structure S_impl_StuffFoe where
  f0 : ByteArray
  f1 : ByteArray
def z_impl_StuffFoe : S_impl_StuffFoe := ⟨(⟨#[]⟩ : ByteArray), (⟨#[]⟩ : ByteArray)⟩
def rd_impl_StuffFoe (xs : List S_impl_StuffFoe) (i : Int) : S_impl_StuffFoe := xs.getD i.toNat z_impl_StuffFoe
structure S_impl_StuffLot where
  f0 : ByteArray
  f1 : ByteArray
def z_impl_StuffLot : S_impl_StuffLot := ⟨(⟨#[]⟩ : ByteArray), (⟨#[]⟩ : ByteArray)⟩
def rd_impl_StuffLot (xs : List S_impl_StuffLot) (i : Int) : S_impl_StuffLot := xs.getD i.toNat z_impl_StuffLot
structure S_impl_StuffPart where
  f0 : ByteArray
  f1 : Int
def z_impl_StuffPart : S_impl_StuffPart := ⟨(⟨#[]⟩ : ByteArray), (0 : Int)⟩
def rd_impl_StuffPart (xs : List S_impl_StuffPart) (i : Int) : S_impl_StuffPart := xs.getD i.toNat z_impl_StuffPart
structure S_impl_StuffVessel where
  f0 : ByteArray
  f1 : Int
  f2 : List S_impl_StuffPart
  f3 : List ByteArray
def z_impl_StuffVessel : S_impl_StuffVessel := ⟨(⟨#[]⟩ : ByteArray), (0 : Int), ([] : List S_impl_StuffPart), ([] : List ByteArray)⟩
def rd_impl_StuffVessel (xs : List S_impl_StuffVessel) (i : Int) : S_impl_StuffVessel := xs.getD i.toNat z_impl_StuffVessel
structure S_impl_StuffOut where
  f0 : ByteArray
  f1 : List S_impl_StuffPart
  f2 : List ByteArray
def z_impl_StuffOut : S_impl_StuffOut := ⟨(⟨#[]⟩ : ByteArray), ([] : List S_impl_StuffPart), ([] : List ByteArray)⟩
def rd_impl_StuffOut (xs : List S_impl_StuffOut) (i : Int) : S_impl_StuffOut := xs.getD i.toNat z_impl_StuffOut
structure S_A2_string where
  f0 : ByteArray
  f1 : ByteArray
def z_A2_string : S_A2_string := ⟨(⟨#[]⟩ : ByteArray), (⟨#[]⟩ : ByteArray)⟩
def rd_A2_string (xs : List S_A2_string) (i : Int) : S_A2_string := xs.getD i.toNat z_A2_string
structure S_laws_StuffBook where
  f0 : List S_laws_StuffFoe
  f1 : List S_laws_StuffLot
  f2 : List S_laws_StuffVessel
  f3 : List S_laws_StuffOut
def z_laws_StuffBook : S_laws_StuffBook := ⟨([] : List S_laws_StuffFoe), ([] : List S_laws_StuffLot), ([] : List S_laws_StuffVessel), ([] : List S_laws_StuffOut)⟩
def rd_laws_StuffBook (xs : List S_laws_StuffBook) (i : Int) : S_laws_StuffBook := xs.getD i.toNat z_laws_StuffBook
def ok_laws_StuffFoe (y : S_laws_StuffFoe) : Prop := (y.f0.size ≤ 140737488351232) ∧ (y.f1.size ≤ 140737488351232)
def ok_laws_StuffLot (y : S_laws_StuffLot) : Prop := (y.f0.size ≤ 140737488351232) ∧ (y.f1.size ≤ 140737488351232)
def ok_laws_StuffPart (y : S_laws_StuffPart) : Prop := (y.f0.size ≤ 140737488351232) ∧ ((Lit.int .i64 y.f1).wf = true)
def ok_laws_StuffVessel (y : S_laws_StuffVessel) : Prop := (y.f0.size ≤ 140737488351232) ∧ ((Lit.int .i64 y.f1).wf = true) ∧ ((y.f2.length ≤ 9223372036854775807 ∧ y.f2.length * 24 ≤ 140737488351232) ∧ ∀ z ∈ y.f2, ok_laws_StuffPart z) ∧ ((y.f3.length ≤ 9223372036854775807 ∧ y.f3.length * 16 ≤ 140737488351232) ∧ ∀ z ∈ y.f3, z.size ≤ 140737488351232)
def ok_laws_StuffOut (y : S_laws_StuffOut) : Prop := (y.f0.size ≤ 140737488351232) ∧ ((y.f1.length ≤ 9223372036854775807 ∧ y.f1.length * 24 ≤ 140737488351232) ∧ ∀ z ∈ y.f1, ok_laws_StuffPart z) ∧ ((y.f2.length ≤ 9223372036854775807 ∧ y.f2.length * 16 ≤ 140737488351232) ∧ ∀ z ∈ y.f2, z.size ≤ 140737488351232)
def ok_laws_StuffBook (y : S_laws_StuffBook) : Prop := ((y.f0.length ≤ 9223372036854775807 ∧ y.f0.length * 32 ≤ 140737488351232) ∧ ∀ z ∈ y.f0, ok_laws_StuffFoe z) ∧ ((y.f1.length ≤ 9223372036854775807 ∧ y.f1.length * 32 ≤ 140737488351232) ∧ ∀ z ∈ y.f1, ok_laws_StuffLot z) ∧ ((y.f2.length ≤ 9223372036854775807 ∧ y.f2.length * 72 ≤ 140737488351232) ∧ ∀ z ∈ y.f2, ok_laws_StuffVessel z) ∧ ((y.f3.length ≤ 9223372036854775807 ∧ y.f3.length * 64 ≤ 140737488351232) ∧ ∀ z ∈ y.f3, ok_laws_StuffOut z)
def laws_szStuffFoe.f (a0_0 : ByteArray) (a0_1 : ByteArray) (a1 : Int) : Option (Int) := (if (wrap64 (a1 - (a0_0.size : Int))) < 0 then (some (-1)) else (if (wrap64 ((wrap64 (a1 - (a0_0.size : Int))) - (a0_1.size : Int))) < 0 then (some (-1)) else (some (wrap64 ((wrap64 (a1 - (a0_0.size : Int))) - (a0_1.size : Int))))))
def laws_szStuffFoeS.l0 : Nat → List S_laws_StuffFoe → Int → Int → Option (Int)
  | 0, _, _, _ => none
  | k + 1, l0, x1, x5 => (if x5 < (l0.length : Int) then (if 0 ≤ x5 then ((laws_szStuffFoe.f ((rd_laws_StuffFoe l0 x5).f0) ((rd_laws_StuffFoe l0 x5).f1) x1).bind fun t4 => (if t4 < 0 then (some (-1)) else (laws_szStuffFoeS.l0 k l0 t4 (wrap64 (x5 + 1))))) else none) else (some x1))
def laws_szStuffFoeS.f (k : Nat) (l0 : List S_laws_StuffFoe) (a1 : Int) : Option (Int) := (if (wrap64 (a1 - (l0.length : Int))) < 0 then (some (-1)) else (laws_szStuffFoeS.l0 k l0 (wrap64 (a1 - (l0.length : Int))) 0))
def laws_szStuffLot.f (a0_0 : ByteArray) (a0_1 : ByteArray) (a1 : Int) : Option (Int) := (if (wrap64 (a1 - (a0_0.size : Int))) < 0 then (some (-1)) else (if (wrap64 ((wrap64 (a1 - (a0_0.size : Int))) - (a0_1.size : Int))) < 0 then (some (-1)) else (some (wrap64 ((wrap64 (a1 - (a0_0.size : Int))) - (a0_1.size : Int))))))
def laws_szStuffLotS.l0 : Nat → List S_laws_StuffLot → Int → Int → Option (Int)
  | 0, _, _, _ => none
  | k + 1, l0, x1, x5 => (if x5 < (l0.length : Int) then (if 0 ≤ x5 then ((laws_szStuffLot.f ((rd_laws_StuffLot l0 x5).f0) ((rd_laws_StuffLot l0 x5).f1) x1).bind fun t12 => (if t12 < 0 then (some (-1)) else (laws_szStuffLotS.l0 k l0 t12 (wrap64 (x5 + 1))))) else none) else (some x1))
def laws_szStuffLotS.f (k : Nat) (l0 : List S_laws_StuffLot) (a1 : Int) : Option (Int) := (if (wrap64 (a1 - (l0.length : Int))) < 0 then (some (-1)) else (laws_szStuffLotS.l0 k l0 (wrap64 (a1 - (l0.length : Int))) 0))
def laws_szStuffPart.f (a0_0 : ByteArray) (a0_1 : Int) (a1 : Int) : Option (Int) := (if (wrap64 (a1 - (a0_0.size : Int))) < 0 then (some (-1)) else (some (wrap64 (a1 - (a0_0.size : Int)))))
def laws_szStuffPartS.l0 : Nat → List S_laws_StuffPart → Int → Int → Option (Int)
  | 0, _, _, _ => none
  | k + 1, l0, x1, x5 => (if x5 < (l0.length : Int) then (if 0 ≤ x5 then ((laws_szStuffPart.f ((rd_laws_StuffPart l0 x5).f0) ((rd_laws_StuffPart l0 x5).f1) x1).bind fun t32 => (if t32 < 0 then (some (-1)) else (laws_szStuffPartS.l0 k l0 t32 (wrap64 (x5 + 1))))) else none) else (some x1))
def laws_szStuffPartS.f (k : Nat) (l0 : List S_laws_StuffPart) (a1 : Int) : Option (Int) := (if (wrap64 (a1 - (l0.length : Int))) < 0 then (some (-1)) else (laws_szStuffPartS.l0 k l0 (wrap64 (a1 - (l0.length : Int))) 0))
def laws_szStringS.l0 : Nat → List ByteArray → Int → Int → Option (Int)
  | 0, _, _, _ => none
  | k + 1, l0, x1, x5 => (if x5 < (l0.length : Int) then (if 0 ≤ x5 then (if (wrap64 (x1 - ((rdOf ByteArray.empty l0 x5).size : Int))) < 0 then (some (-1)) else (laws_szStringS.l0 k l0 (wrap64 (x1 - ((rdOf ByteArray.empty l0 x5).size : Int))) (wrap64 (x5 + 1)))) else none) else (some x1))
def laws_szStringS.f (k : Nat) (l0 : List ByteArray) (a1 : Int) : Option (Int) := (if (wrap64 (a1 - (l0.length : Int))) < 0 then (some (-1)) else (laws_szStringS.l0 k l0 (wrap64 (a1 - (l0.length : Int))) 0))
def laws_szStuffVessel.f (k : Nat) (a0_0 : ByteArray) (a0_1 : Int) (a0_2 : List S_laws_StuffPart) (a0_3 : List ByteArray) (a1 : Int) : Option (Int) := (if (wrap64 (a1 - (a0_0.size : Int))) < 0 then (some (-1)) else ((laws_szStuffPartS.f k a0_2 (wrap64 (a1 - (a0_0.size : Int)))).bind fun t40 => (if t40 < 0 then (some (-1)) else ((laws_szStringS.f k a0_3 t40).bind fun t42 => (if t42 < 0 then (some (-1)) else (some t42))))))
def laws_szStuffVesselS.l0 : Nat → List S_laws_StuffVessel → Int → Int → Option (Int)
  | 0, _, _, _ => none
  | k + 1, l0, x1, x5 => (if x5 < (l0.length : Int) then (if 0 ≤ x5 then ((laws_szStuffVessel.f k ((rd_laws_StuffVessel l0 x5).f0) ((rd_laws_StuffVessel l0 x5).f1) ((rd_laws_StuffVessel l0 x5).f2) ((rd_laws_StuffVessel l0 x5).f3) x1).bind fun t46 => (if t46 < 0 then (some (-1)) else (laws_szStuffVesselS.l0 k l0 t46 (wrap64 (x5 + 1))))) else none) else (some x1))
def laws_szStuffVesselS.f (k : Nat) (l0 : List S_laws_StuffVessel) (a1 : Int) : Option (Int) := (if (wrap64 (a1 - (l0.length : Int))) < 0 then (some (-1)) else (laws_szStuffVesselS.l0 k l0 (wrap64 (a1 - (l0.length : Int))) 0))
def laws_szStuffOut.f (k : Nat) (a0_0 : ByteArray) (a0_1 : List S_laws_StuffPart) (a0_2 : List ByteArray) (a1 : Int) : Option (Int) := (if (wrap64 (a1 - (a0_0.size : Int))) < 0 then (some (-1)) else ((laws_szStuffPartS.f k a0_1 (wrap64 (a1 - (a0_0.size : Int)))).bind fun t60 => (if t60 < 0 then (some (-1)) else ((laws_szStringS.f k a0_2 t60).bind fun t62 => (if t62 < 0 then (some (-1)) else (some t62))))))
def laws_szStuffOutS.l0 : Nat → List S_laws_StuffOut → Int → Int → Option (Int)
  | 0, _, _, _ => none
  | k + 1, l0, x1, x5 => (if x5 < (l0.length : Int) then (if 0 ≤ x5 then ((laws_szStuffOut.f k ((rd_laws_StuffOut l0 x5).f0) ((rd_laws_StuffOut l0 x5).f1) ((rd_laws_StuffOut l0 x5).f2) x1).bind fun t66 => (if t66 < 0 then (some (-1)) else (laws_szStuffOutS.l0 k l0 t66 (wrap64 (x5 + 1))))) else none) else (some x1))
def laws_szStuffOutS.f (k : Nat) (l0 : List S_laws_StuffOut) (a1 : Int) : Option (Int) := (if (wrap64 (a1 - (l0.length : Int))) < 0 then (some (-1)) else (laws_szStuffOutS.l0 k l0 (wrap64 (a1 - (l0.length : Int))) 0))
def laws_szStuffBook.f (k : Nat) (a0_0 : List S_laws_StuffFoe) (a0_1 : List S_laws_StuffLot) (a0_2 : List S_laws_StuffVessel) (a0_3 : List S_laws_StuffOut) (a1 : Int) : Option (Int) := ((laws_szStuffFoeS.f k a0_0 a1).bind fun t68 => (if t68 < 0 then (some (-1)) else ((laws_szStuffLotS.f k a0_1 t68).bind fun t70 => (if t70 < 0 then (some (-1)) else ((laws_szStuffVesselS.f k a0_2 t70).bind fun t72 => (if t72 < 0 then (some (-1)) else ((laws_szStuffOutS.f k a0_3 t72).bind fun t74 => (if t74 < 0 then (some (-1)) else (some t74)))))))))
def laws_toStuffFoe.f (a0_0 : ByteArray) (a0_1 : ByteArray) : Option (ByteArray × ByteArray) := (some (a0_0, a0_1))
def laws_toStuffFoeS.l0 : Nat → List S_laws_StuffFoe → List S_impl_StuffFoe → Int → Option (List S_impl_StuffFoe)
  | 0, _, _, _ => none
  | k + 1, l0, x3, x4 => (if x4 < (l0.length : Int) then (if 0 ≤ x4 then ((laws_toStuffFoe.f ((rd_laws_StuffFoe l0 x4).f0) ((rd_laws_StuffFoe l0 x4).f1)).bind fun t85 => (if x4 < (x3.length : Int) then (laws_toStuffFoeS.l0 k l0 (x3.set (x4).toNat (⟨t85.1, t85.2⟩ : S_impl_StuffFoe)) (wrap64 (x4 + 1))) else none)) else none) else (some x3))
def laws_toStuffFoeS.f (k : Nat) (l0 : List S_laws_StuffFoe) : Option (List S_impl_StuffFoe) := (if (l0.length : Int) * 32 ≤ 140737488355328 then (laws_toStuffFoeS.l0 k l0 (List.replicate ((l0.length : Int)).toNat z_impl_StuffFoe) 0) else none)
def laws_toStuffLot.f (a0_0 : ByteArray) (a0_1 : ByteArray) : Option (ByteArray × ByteArray) := (some (a0_0, a0_1))
def laws_toStuffLotS.l0 : Nat → List S_laws_StuffLot → List S_impl_StuffLot → Int → Option (List S_impl_StuffLot)
  | 0, _, _, _ => none
  | k + 1, l0, x3, x4 => (if x4 < (l0.length : Int) then (if 0 ≤ x4 then ((laws_toStuffLot.f ((rd_laws_StuffLot l0 x4).f0) ((rd_laws_StuffLot l0 x4).f1)).bind fun t98 => (if x4 < (x3.length : Int) then (laws_toStuffLotS.l0 k l0 (x3.set (x4).toNat (⟨t98.1, t98.2⟩ : S_impl_StuffLot)) (wrap64 (x4 + 1))) else none)) else none) else (some x3))
def laws_toStuffLotS.f (k : Nat) (l0 : List S_laws_StuffLot) : Option (List S_impl_StuffLot) := (if (l0.length : Int) * 32 ≤ 140737488355328 then (laws_toStuffLotS.l0 k l0 (List.replicate ((l0.length : Int)).toNat z_impl_StuffLot) 0) else none)
def laws_toStuffPart.f (a0_0 : ByteArray) (a0_1 : Int) : Option (ByteArray × Int) := (some (a0_0, a0_1))
def laws_toStuffPartS.l0 : Nat → List S_laws_StuffPart → List S_impl_StuffPart → Int → Option (List S_impl_StuffPart)
  | 0, _, _, _ => none
  | k + 1, l0, x3, x4 => (if x4 < (l0.length : Int) then (if 0 ≤ x4 then ((laws_toStuffPart.f ((rd_laws_StuffPart l0 x4).f0) ((rd_laws_StuffPart l0 x4).f1)).bind fun t127 => (if x4 < (x3.length : Int) then (laws_toStuffPartS.l0 k l0 (x3.set (x4).toNat (⟨t127.1, t127.2⟩ : S_impl_StuffPart)) (wrap64 (x4 + 1))) else none)) else none) else (some x3))
def laws_toStuffPartS.f (k : Nat) (l0 : List S_laws_StuffPart) : Option (List S_impl_StuffPart) := (if (l0.length : Int) * 24 ≤ 140737488355328 then (laws_toStuffPartS.l0 k l0 (List.replicate ((l0.length : Int)).toNat z_impl_StuffPart) 0) else none)
def laws_toStringS.l0 : Nat → List ByteArray → List ByteArray → Int → Option (List ByteArray)
  | 0, _, _, _ => none
  | k + 1, l0, x3, x4 => (if x4 < (l0.length : Int) then (if 0 ≤ x4 then (if x4 < (x3.length : Int) then (laws_toStringS.l0 k l0 (x3.set (x4).toNat (rdOf ByteArray.empty l0 x4)) (wrap64 (x4 + 1))) else none) else none) else (some x3))
def laws_toStringS.f (k : Nat) (l0 : List ByteArray) : Option (List ByteArray) := (if (l0.length : Int) * 16 ≤ 140737488355328 then (laws_toStringS.l0 k l0 (List.replicate ((l0.length : Int)).toNat (⟨#[]⟩ : ByteArray)) 0) else none)
def laws_toStuffVessel.f (k : Nat) (a0_0 : ByteArray) (a0_1 : Int) (a0_2 : List S_laws_StuffPart) (a0_3 : List ByteArray) : Option (ByteArray × Int × (List S_impl_StuffPart) × (List ByteArray)) := ((laws_toStuffPartS.f k a0_2).bind fun t1983 => ((laws_toStringS.f k a0_3).bind fun t1985 => (some (a0_0, a0_1, t1983, t1985))))
def laws_toStuffVesselS.l0 : Nat → List S_laws_StuffVessel → List S_impl_StuffVessel → Int → Option (List S_impl_StuffVessel)
  | 0, _, _, _ => none
  | k + 1, l0, x3, x4 => (if x4 < (l0.length : Int) then (if 0 ≤ x4 then ((laws_toStuffVessel.f k ((rd_laws_StuffVessel l0 x4).f0) ((rd_laws_StuffVessel l0 x4).f1) ((rd_laws_StuffVessel l0 x4).f2) ((rd_laws_StuffVessel l0 x4).f3)).bind fun t1994 => (if x4 < (x3.length : Int) then (laws_toStuffVesselS.l0 k l0 (x3.set (x4).toNat (⟨t1994.1, t1994.2.1, t1994.2.2.1, t1994.2.2.2⟩ : S_impl_StuffVessel)) (wrap64 (x4 + 1))) else none)) else none) else (some x3))
def laws_toStuffVesselS.f (k : Nat) (l0 : List S_laws_StuffVessel) : Option (List S_impl_StuffVessel) := (if (l0.length : Int) * 72 ≤ 140737488355328 then (laws_toStuffVesselS.l0 k l0 (List.replicate ((l0.length : Int)).toNat z_impl_StuffVessel) 0) else none)
def laws_toStuffOut.f (k : Nat) (a0_0 : ByteArray) (a0_1 : List S_laws_StuffPart) (a0_2 : List ByteArray) : Option (ByteArray × (List S_impl_StuffPart) × (List ByteArray)) := ((laws_toStuffPartS.f k a0_1).bind fun t2010 => ((laws_toStringS.f k a0_2).bind fun t2012 => (some (a0_0, t2010, t2012))))
def laws_toStuffOutS.l0 : Nat → List S_laws_StuffOut → List S_impl_StuffOut → Int → Option (List S_impl_StuffOut)
  | 0, _, _, _ => none
  | k + 1, l0, x3, x4 => (if x4 < (l0.length : Int) then (if 0 ≤ x4 then ((laws_toStuffOut.f k ((rd_laws_StuffOut l0 x4).f0) ((rd_laws_StuffOut l0 x4).f1) ((rd_laws_StuffOut l0 x4).f2)).bind fun t2125 => (if x4 < (x3.length : Int) then (laws_toStuffOutS.l0 k l0 (x3.set (x4).toNat (⟨t2125.1, t2125.2.1, t2125.2.2⟩ : S_impl_StuffOut)) (wrap64 (x4 + 1))) else none)) else none) else (some x3))
def laws_toStuffOutS.f (k : Nat) (l0 : List S_laws_StuffOut) : Option (List S_impl_StuffOut) := (if (l0.length : Int) * 64 ≤ 140737488355328 then (laws_toStuffOutS.l0 k l0 (List.replicate ((l0.length : Int)).toNat z_impl_StuffOut) 0) else none)
def laws_toStuffBook.f (k : Nat) (a0_0 : List S_laws_StuffFoe) (a0_1 : List S_laws_StuffLot) (a0_2 : List S_laws_StuffVessel) (a0_3 : List S_laws_StuffOut) : Option ((List S_impl_StuffFoe) × (List S_impl_StuffLot) × (List S_impl_StuffVessel) × (List S_impl_StuffOut)) := ((laws_toStuffFoeS.f k a0_0).bind fun t2141 => ((laws_toStuffLotS.f k a0_1).bind fun t2143 => ((laws_toStuffVesselS.f k a0_2).bind fun t2145 => ((laws_toStuffOutS.f k a0_3).bind fun t2147 => (some (t2141, t2143, t2145, t2147))))))
def spec_l11In.f (a0 : Int) (a1 : Int) (a2 : Int) : Option (Bool) := (if a0 ≥ a1 then (some (decide (a0 ≤ a2))) else (some false))
def spec_l12NameOk.l0 : Nat → ByteArray → Int → Option (Bool)
  | 0, _, _ => none
  | k + 1, a0, x3 => (if x3 < (a0.size : Int) then (if 0 ≤ x3 then (if (bt a0 x3) ≥ 97 then (if (bt a0 x3) ≤ 122 then (spec_l12NameOk.l0 k a0 (wrap64 (x3 + 1))) else (if (bt a0 x3) ≥ 48 then (if (bt a0 x3) ≤ 57 then (spec_l12NameOk.l0 k a0 (wrap64 (x3 + 1))) else (if (bt a0 x3) = 45 then (spec_l12NameOk.l0 k a0 (wrap64 (x3 + 1))) else (some false))) else (if (bt a0 x3) = 45 then (spec_l12NameOk.l0 k a0 (wrap64 (x3 + 1))) else (some false)))) else (if (bt a0 x3) ≥ 48 then (if (bt a0 x3) ≤ 57 then (spec_l12NameOk.l0 k a0 (wrap64 (x3 + 1))) else (if (bt a0 x3) = 45 then (spec_l12NameOk.l0 k a0 (wrap64 (x3 + 1))) else (some false))) else (if (bt a0 x3) = 45 then (spec_l12NameOk.l0 k a0 (wrap64 (x3 + 1))) else (some false)))) else none) else (some true))
def spec_l12NameOk.f (k : Nat) (a0 : ByteArray) : Option (Bool) := ((spec_l11In.f (a0.size : Int) 1 8).bind fun t195 => (if t195 = true then (spec_l12NameOk.l0 k a0 0) else (some false)))
def spec_l12FoesOk.l0 : Nat → List S_impl_StuffFoe → Int → Option (Bool)
  | 0, _, _ => none
  | k + 1, a0_0, x3 => (if x3 < (a0_0.length : Int) then (if 0 ≤ x3 then ((spec_l12NameOk.f k ((rd_impl_StuffFoe a0_0 x3).f0)).bind fun t202 => (if t202 = true then ((spec_l12NameOk.f k ((rd_impl_StuffFoe a0_0 x3).f1)).bind fun t203 => (if t203 = true then (if (Op.bytesLess ((rd_impl_StuffFoe a0_0 x3).f0).toList ((rd_impl_StuffFoe a0_0 x3).f1).toList) = true then (if x3 > 0 then (if 0 ≤ (wrap64 (x3 - 1)) then (if (wrap64 (x3 - 1)) < (a0_0.length : Int) then (if (Op.bytesLess ((rd_impl_StuffFoe a0_0 x3).f0).toList ((rd_impl_StuffFoe a0_0 (wrap64 (x3 - 1))).f0).toList) = true then (some false) else (if ((rd_impl_StuffFoe a0_0 (wrap64 (x3 - 1))).f0).toList = ((rd_impl_StuffFoe a0_0 x3).f0).toList then (if (Op.bytesLess ((rd_impl_StuffFoe a0_0 (wrap64 (x3 - 1))).f1).toList ((rd_impl_StuffFoe a0_0 x3).f1).toList) = true then (spec_l12FoesOk.l0 k a0_0 (wrap64 (x3 + 1))) else (some false)) else (spec_l12FoesOk.l0 k a0_0 (wrap64 (x3 + 1))))) else none) else none) else (spec_l12FoesOk.l0 k a0_0 (wrap64 (x3 + 1)))) else (some false)) else (some false))) else (some false))) else none) else (some true))
def spec_l12FoesOk.f (k : Nat) (a0_0 : List S_impl_StuffFoe) (a0_1 : List S_impl_StuffLot) (a0_2 : List S_impl_StuffVessel) (a0_3 : List S_impl_StuffOut) : Option (Bool) := (if (a0_0.length : Int) > 12 then (some false) else (spec_l12FoesOk.l0 k a0_0 0))
def spec_l12LotsOk.l0 : Nat → List S_impl_StuffLot → Int → Option (Bool)
  | 0, _, _ => none
  | k + 1, a0_1, x3 => (if x3 < (a0_1.length : Int) then (if 0 ≤ x3 then ((spec_l12NameOk.f k ((rd_impl_StuffLot a0_1 x3).f0)).bind fun t214 => (if t214 = true then ((spec_l12NameOk.f k ((rd_impl_StuffLot a0_1 x3).f1)).bind fun t215 => (if t215 = true then (if x3 > 0 then (if 0 ≤ (wrap64 (x3 - 1)) then (if (wrap64 (x3 - 1)) < (a0_1.length : Int) then (if (Op.bytesLess ((rd_impl_StuffLot a0_1 (wrap64 (x3 - 1))).f0).toList ((rd_impl_StuffLot a0_1 x3).f0).toList) = true then (spec_l12LotsOk.l0 k a0_1 (wrap64 (x3 + 1))) else (some false)) else none) else none) else (spec_l12LotsOk.l0 k a0_1 (wrap64 (x3 + 1)))) else (some false))) else (some false))) else none) else (some true))
def spec_l12LotsOk.f (k : Nat) (a0_0 : List S_impl_StuffFoe) (a0_1 : List S_impl_StuffLot) (a0_2 : List S_impl_StuffVessel) (a0_3 : List S_impl_StuffOut) : Option (Bool) := (if (a0_1.length : Int) > 16 then (some false) else (spec_l12LotsOk.l0 k a0_1 0))
def spec_l12Has.l0 : Nat → List ByteArray → ByteArray → Int → Option (Bool)
  | 0, _, _, _ => none
  | k + 1, l0, a1, x5 => (if x5 < (l0.length : Int) then (if 0 ≤ x5 then (if (rdOf ByteArray.empty l0 x5).toList = a1.toList then (some true) else (spec_l12Has.l0 k l0 a1 (wrap64 (x5 + 1)))) else none) else (some false))
def spec_l12Has.f (k : Nat) (l0 : List ByteArray) (a1 : ByteArray) : Option (Bool) := (spec_l12Has.l0 k l0 a1 0)
def spec_l12Stuff.l0 : Nat → List S_impl_StuffLot → ByteArray → Int → Option (ByteArray)
  | 0, _, _, _ => none
  | k + 1, a0_1, a1, x5 => (if x5 < (a0_1.length : Int) then (if 0 ≤ x5 then (if ((rd_impl_StuffLot a0_1 x5).f0).toList = a1.toList then (some ((rd_impl_StuffLot a0_1 x5).f1)) else (spec_l12Stuff.l0 k a0_1 a1 (wrap64 (x5 + 1)))) else none) else (some (⟨#[]⟩ : ByteArray)))
def spec_l12Stuff.f (k : Nat) (a0_0 : List S_impl_StuffFoe) (a0_1 : List S_impl_StuffLot) (a0_2 : List S_impl_StuffVessel) (a0_3 : List S_impl_StuffOut) (a1 : ByteArray) : Option (ByteArray) := (spec_l12Stuff.l0 k a0_1 a1 0)
def spec_l12Foes.l0 : Nat → List S_impl_StuffFoe → ByteArray → ByteArray → Int → Option (Bool)
  | 0, _, _, _, _ => none
  | k + 1, a0_0, a1, a2, x7 => (if x7 < (a0_0.length : Int) then (if 0 ≤ x7 then (if ((rd_impl_StuffFoe a0_0 x7).f0).toList = a1.toList then (if ((rd_impl_StuffFoe a0_0 x7).f1).toList = a2.toList then (some true) else (if ((rd_impl_StuffFoe a0_0 x7).f0).toList = a2.toList then (if ((rd_impl_StuffFoe a0_0 x7).f1).toList = a1.toList then (some true) else (spec_l12Foes.l0 k a0_0 a1 a2 (wrap64 (x7 + 1)))) else (spec_l12Foes.l0 k a0_0 a1 a2 (wrap64 (x7 + 1))))) else (if ((rd_impl_StuffFoe a0_0 x7).f0).toList = a2.toList then (if ((rd_impl_StuffFoe a0_0 x7).f1).toList = a1.toList then (some true) else (spec_l12Foes.l0 k a0_0 a1 a2 (wrap64 (x7 + 1)))) else (spec_l12Foes.l0 k a0_0 a1 a2 (wrap64 (x7 + 1))))) else none) else (some false))
def spec_l12Foes.f (k : Nat) (a0_0 : List S_impl_StuffFoe) (a0_1 : List S_impl_StuffLot) (a0_2 : List S_impl_StuffVessel) (a0_3 : List S_impl_StuffOut) (a1 : ByteArray) (a2 : ByteArray) : Option (Bool) := (spec_l12Foes.l0 k a0_0 a1 a2 0)
mutual
def spec_l12HoldsOk.l2 : Nat → List S_impl_StuffFoe → List S_impl_StuffLot → List S_impl_StuffVessel → List S_impl_StuffOut → List S_impl_StuffPart → List ByteArray → Int → Int → Option (Bool)
  | 0, _, _, _, _, _, _, _, _ => none
  | k + 1, a0_0, a0_1, a0_2, a0_3, l1, l2, x11, x12 => (if x12 < x11 then ((spec_l12Stuff.f k a0_0 a0_1 a0_2 a0_3 (rdOf ByteArray.empty l2 x11)).bind fun t332 => (if 0 ≤ x12 then (if x12 < (l2.length : Int) then ((spec_l12Stuff.f k a0_0 a0_1 a0_2 a0_3 (rdOf ByteArray.empty l2 x12)).bind fun t333 => ((spec_l12Foes.f k a0_0 a0_1 a0_2 a0_3 t332 t333).bind fun t334 => (if t334 = true then (some false) else (spec_l12HoldsOk.l2 k a0_0 a0_1 a0_2 a0_3 l1 l2 x11 (wrap64 (x12 + 1)))))) else none) else none)) else (spec_l12HoldsOk.l1 k a0_0 a0_1 a0_2 a0_3 l1 l2 (wrap64 (x11 + 1))))
def spec_l12HoldsOk.l3 : Nat → List S_impl_StuffFoe → List S_impl_StuffLot → List S_impl_StuffVessel → List S_impl_StuffOut → List S_impl_StuffPart → List ByteArray → Int → Int → Option (Bool)
  | 0, _, _, _, _, _, _, _, _ => none
  | k + 1, a0_0, a0_1, a0_2, a0_3, l1, l2, x11, x12_1 => (if x12_1 < x11 then ((spec_l12Stuff.f k a0_0 a0_1 a0_2 a0_3 (rdOf ByteArray.empty l2 x11)).bind fun t335 => (if 0 ≤ x12_1 then (if x12_1 < (l2.length : Int) then ((spec_l12Stuff.f k a0_0 a0_1 a0_2 a0_3 (rdOf ByteArray.empty l2 x12_1)).bind fun t336 => ((spec_l12Foes.f k a0_0 a0_1 a0_2 a0_3 t335 t336).bind fun t337 => (if t337 = true then (some false) else (spec_l12HoldsOk.l3 k a0_0 a0_1 a0_2 a0_3 l1 l2 x11 (wrap64 (x12_1 + 1)))))) else none) else none)) else (spec_l12HoldsOk.l1 k a0_0 a0_1 a0_2 a0_3 l1 l2 (wrap64 (x11 + 1))))
def spec_l12HoldsOk.l1 : Nat → List S_impl_StuffFoe → List S_impl_StuffLot → List S_impl_StuffVessel → List S_impl_StuffOut → List S_impl_StuffPart → List ByteArray → Int → Option (Bool)
  | 0, _, _, _, _, _, _, _ => none
  | k + 1, a0_0, a0_1, a0_2, a0_3, l1, l2, x11 => (if x11 < (l2.length : Int) then (if 0 ≤ x11 then ((spec_l12Stuff.f k a0_0 a0_1 a0_2 a0_3 (rdOf ByteArray.empty l2 x11)).bind fun t331 => (if t331.toList = (⟨#[]⟩ : ByteArray).toList then (some false) else (if x11 > 0 then (if 0 ≤ (wrap64 (x11 - 1)) then (if (wrap64 (x11 - 1)) < (l2.length : Int) then (if (Op.bytesLess (rdOf ByteArray.empty l2 (wrap64 (x11 - 1))).toList (rdOf ByteArray.empty l2 x11).toList) = true then (spec_l12HoldsOk.l2 k a0_0 a0_1 a0_2 a0_3 l1 l2 x11 0) else (some false)) else none) else none) else (spec_l12HoldsOk.l3 k a0_0 a0_1 a0_2 a0_3 l1 l2 x11 0)))) else none) else (some true))
end
def spec_l12HoldsOk.l0 : Nat → List S_impl_StuffFoe → List S_impl_StuffLot → List S_impl_StuffVessel → List S_impl_StuffOut → List S_impl_StuffPart → List ByteArray → Int → Int → Int → Option (Bool)
  | 0, _, _, _, _, _, _, _, _, _ => none
  | k + 1, a0_0, a0_1, a0_2, a0_3, l1, l2, a3, x9, x10 => (if x10 < (l1.length : Int) then (if 0 ≤ x10 then ((spec_l12Has.f k l2 ((rd_impl_StuffPart l1 x10).f0)).bind fun t304 => (if t304 = true then ((spec_l11In.f ((rd_impl_StuffPart l1 x10).f1) 1 1000).bind fun t305 => (if t305 = true then (if x10 > 0 then (if 0 ≤ (wrap64 (x10 - 1)) then (if (wrap64 (x10 - 1)) < (l1.length : Int) then (if (Op.bytesLess ((rd_impl_StuffPart l1 (wrap64 (x10 - 1))).f0).toList ((rd_impl_StuffPart l1 x10).f0).toList) = true then (if (wrap64 (x9 + ((rd_impl_StuffPart l1 x10).f1))) > a3 then (some false) else (spec_l12HoldsOk.l0 k a0_0 a0_1 a0_2 a0_3 l1 l2 a3 (wrap64 (x9 + ((rd_impl_StuffPart l1 x10).f1))) (wrap64 (x10 + 1)))) else (some false)) else none) else none) else (if (wrap64 (x9 + ((rd_impl_StuffPart l1 x10).f1))) > a3 then (some false) else (spec_l12HoldsOk.l0 k a0_0 a0_1 a0_2 a0_3 l1 l2 a3 (wrap64 (x9 + ((rd_impl_StuffPart l1 x10).f1))) (wrap64 (x10 + 1))))) else (some false))) else (some false))) else none) else (spec_l12HoldsOk.l1 k a0_0 a0_1 a0_2 a0_3 l1 l2 0))
def spec_l12HoldsOk.f (k : Nat) (a0_0 : List S_impl_StuffFoe) (a0_1 : List S_impl_StuffLot) (a0_2 : List S_impl_StuffVessel) (a0_3 : List S_impl_StuffOut) (l1 : List S_impl_StuffPart) (l2 : List ByteArray) (a3 : Int) : Option (Bool) := (spec_l12HoldsOk.l0 k a0_0 a0_1 a0_2 a0_3 l1 l2 a3 0 0)
def spec_l12Vessel.l0 : Nat → List S_impl_StuffVessel → ByteArray → Int → Option (Int)
  | 0, _, _, _ => none
  | k + 1, a0_2, a1, x5 => (if x5 < (a0_2.length : Int) then (if 0 ≤ x5 then (if ((rd_impl_StuffVessel a0_2 x5).f0).toList = a1.toList then (some x5) else (spec_l12Vessel.l0 k a0_2 a1 (wrap64 (x5 + 1)))) else none) else (some (-1)))
def spec_l12Vessel.f (k : Nat) (a0_0 : List S_impl_StuffFoe) (a0_1 : List S_impl_StuffLot) (a0_2 : List S_impl_StuffVessel) (a0_3 : List S_impl_StuffOut) (a1 : ByteArray) : Option (Int) := (spec_l12Vessel.l0 k a0_2 a1 0)
def spec_StuffBookOk.l1 : Nat → List S_impl_StuffFoe → List S_impl_StuffLot → List S_impl_StuffVessel → List S_impl_StuffOut → Int → Option (Bool)
  | 0, _, _, _, _, _ => none
  | k + 1, a0_0, a0_1, a0_2, a0_3, x5 => (if x5 < (a0_3.length : Int) then (if 0 ≤ x5 then ((spec_l12NameOk.f k ((rd_impl_StuffOut a0_3 x5).f0)).bind fun t409 => (if t409 = true then (if x5 > 0 then (if 0 ≤ (wrap64 (x5 - 1)) then (if (wrap64 (x5 - 1)) < (a0_3.length : Int) then (if (Op.bytesLess ((rd_impl_StuffOut a0_3 (wrap64 (x5 - 1))).f0).toList ((rd_impl_StuffOut a0_3 x5).f0).toList) = true then ((spec_l12Vessel.f k a0_0 a0_1 a0_2 a0_3 ((rd_impl_StuffOut a0_3 x5).f0)).bind fun t410 => (if t410 ≥ 0 then (some false) else ((spec_l12HoldsOk.f k a0_0 a0_1 a0_2 a0_3 ((rd_impl_StuffOut a0_3 x5).f1) ((rd_impl_StuffOut a0_3 x5).f2) 1000).bind fun t411 => (if t411 = true then (spec_StuffBookOk.l1 k a0_0 a0_1 a0_2 a0_3 (wrap64 (x5 + 1))) else (some false))))) else (some false)) else none) else none) else ((spec_l12Vessel.f k a0_0 a0_1 a0_2 a0_3 ((rd_impl_StuffOut a0_3 x5).f0)).bind fun t412 => (if t412 ≥ 0 then (some false) else ((spec_l12HoldsOk.f k a0_0 a0_1 a0_2 a0_3 ((rd_impl_StuffOut a0_3 x5).f1) ((rd_impl_StuffOut a0_3 x5).f2) 1000).bind fun t413 => (if t413 = true then (spec_StuffBookOk.l1 k a0_0 a0_1 a0_2 a0_3 (wrap64 (x5 + 1))) else (some false)))))) else (some false))) else none) else (some true))
def spec_StuffBookOk.l0 : Nat → List S_impl_StuffFoe → List S_impl_StuffLot → List S_impl_StuffVessel → List S_impl_StuffOut → Int → Option (Bool)
  | 0, _, _, _, _, _ => none
  | k + 1, a0_0, a0_1, a0_2, a0_3, x3 => (if x3 < (a0_2.length : Int) then (if 0 ≤ x3 then ((spec_l12NameOk.f k ((rd_impl_StuffVessel a0_2 x3).f0)).bind fun t389 => (if t389 = true then (if x3 > 0 then (if 0 ≤ (wrap64 (x3 - 1)) then (if (wrap64 (x3 - 1)) < (a0_2.length : Int) then (if (Op.bytesLess ((rd_impl_StuffVessel a0_2 (wrap64 (x3 - 1))).f0).toList ((rd_impl_StuffVessel a0_2 x3).f0).toList) = true then ((spec_l11In.f ((rd_impl_StuffVessel a0_2 x3).f1) 1 1000).bind fun t390 => (if t390 = true then ((spec_l12HoldsOk.f k a0_0 a0_1 a0_2 a0_3 ((rd_impl_StuffVessel a0_2 x3).f2) ((rd_impl_StuffVessel a0_2 x3).f3) ((rd_impl_StuffVessel a0_2 x3).f1)).bind fun t391 => (if t391 = true then (spec_StuffBookOk.l0 k a0_0 a0_1 a0_2 a0_3 (wrap64 (x3 + 1))) else (some false))) else (some false))) else (some false)) else none) else none) else ((spec_l11In.f ((rd_impl_StuffVessel a0_2 x3).f1) 1 1000).bind fun t392 => (if t392 = true then ((spec_l12HoldsOk.f k a0_0 a0_1 a0_2 a0_3 ((rd_impl_StuffVessel a0_2 x3).f2) ((rd_impl_StuffVessel a0_2 x3).f3) ((rd_impl_StuffVessel a0_2 x3).f1)).bind fun t393 => (if t393 = true then (spec_StuffBookOk.l0 k a0_0 a0_1 a0_2 a0_3 (wrap64 (x3 + 1))) else (some false))) else (some false)))) else (some false))) else none) else (spec_StuffBookOk.l1 k a0_0 a0_1 a0_2 a0_3 0))
def spec_StuffBookOk.f (k : Nat) (a0_0 : List S_impl_StuffFoe) (a0_1 : List S_impl_StuffLot) (a0_2 : List S_impl_StuffVessel) (a0_3 : List S_impl_StuffOut) : Option (Bool) := ((spec_l12FoesOk.f k a0_0 a0_1 a0_2 a0_3).bind fun t372 => (if t372 = true then ((spec_l12LotsOk.f k a0_0 a0_1 a0_2 a0_3).bind fun t373 => (if t373 = true then (if (a0_2.length : Int) > 8 then (some false) else (if (a0_3.length : Int) > 12 then (some false) else (spec_StuffBookOk.l0 k a0_0 a0_1 a0_2 a0_3 0))) else (some false))) else (some false)))
def spec_StuffRecall.l1 : Nat → List S_impl_StuffOut → ByteArray → List ByteArray → Int → Option (List ByteArray)
  | 0, _, _, _, _ => none
  | k + 1, a0_3, a1, x5_1, x7 => (if x7 < (a0_3.length : Int) then (if 0 ≤ x7 then ((spec_l12Has.f k ((rd_impl_StuffOut a0_3 x7).f2) a1).bind fun t428 => (if t428 = true then (if (x5_1.length + 1) * 16 ≤ 140737488355328 then (spec_StuffRecall.l1 k a0_3 a1 (x5_1 ++ ([(rd_impl_StuffOut a0_3 x7).f0] : List ByteArray)) (wrap64 (x7 + 1))) else none) else (spec_StuffRecall.l1 k a0_3 a1 x5_1 (wrap64 (x7 + 1))))) else none) else (some x5_1))
def spec_StuffRecall.l0 : Nat → List S_impl_StuffVessel → List S_impl_StuffOut → ByteArray → List ByteArray → Int → Option (List ByteArray)
  | 0, _, _, _, _, _ => none
  | k + 1, a0_2, a0_3, a1, x5, x6 => (if x6 < (a0_2.length : Int) then (if 0 ≤ x6 then ((spec_l12Has.f k ((rd_impl_StuffVessel a0_2 x6).f3) a1).bind fun t422 => (if t422 = true then (if (x5.length + 1) * 16 ≤ 140737488355328 then (spec_StuffRecall.l0 k a0_2 a0_3 a1 (x5 ++ ([(rd_impl_StuffVessel a0_2 x6).f0] : List ByteArray)) (wrap64 (x6 + 1))) else none) else (spec_StuffRecall.l0 k a0_2 a0_3 a1 x5 (wrap64 (x6 + 1))))) else none) else (spec_StuffRecall.l1 k a0_3 a1 x5 0))
def spec_StuffRecall.f (k : Nat) (a0_0 : List S_impl_StuffFoe) (a0_1 : List S_impl_StuffLot) (a0_2 : List S_impl_StuffVessel) (a0_3 : List S_impl_StuffOut) (a1 : ByteArray) : Option (List ByteArray) := ((spec_StuffBookOk.f k a0_0 a0_1 a0_2 a0_3).bind fun t416 => (if t416 = true then (spec_StuffRecall.l0 k a0_2 a0_3 a1 ([] : List ByteArray) 0) else (some ([] : List ByteArray))))
def impl_StuffBook_pairs.l0 : Nat → List S_impl_StuffFoe → List S_A2_string → Int → Option (List S_A2_string)
  | 0, _, _, _ => none
  | k + 1, a0_0, x2, x8 => (if x8 < (a0_0.length : Int) then (if 0 ≤ x8 then (if (x2.length + 1) * 32 ≤ 140737488355328 then (impl_StuffBook_pairs.l0 k a0_0 (x2 ++ ([(⟨(rd_impl_StuffFoe a0_0 x8).f0, (rd_impl_StuffFoe a0_0 x8).f1⟩ : S_A2_string)] : List S_A2_string)) (wrap64 (x8 + 1))) else none) else none) else (some x2))
def impl_StuffBook_pairs.f (k : Nat) (a0_0 : List S_impl_StuffFoe) (a0_1 : List S_impl_StuffLot) (a0_2 : List S_impl_StuffVessel) (a0_3 : List S_impl_StuffOut) : Option (List S_A2_string) := (impl_StuffBook_pairs.l0 k a0_0 [] 0)
def impl_isName.l0 : Nat → ByteArray → Int → Option (Bool)
  | 0, _, _ => none
  | k + 1, a0, x7 => (if x7 < (a0.size : Int) then (if 0 ≤ x7 then (if (bt a0 x7) < 97 then (if (bt a0 x7) < 48 then (if (bt a0 x7) = 45 then (impl_isName.l0 k a0 (wrap64 (x7 + 1))) else (some false)) else (if (bt a0 x7) > 57 then (if (bt a0 x7) = 45 then (impl_isName.l0 k a0 (wrap64 (x7 + 1))) else (some false)) else (impl_isName.l0 k a0 (wrap64 (x7 + 1))))) else (if (bt a0 x7) > 122 then (if (bt a0 x7) < 48 then (if (bt a0 x7) = 45 then (impl_isName.l0 k a0 (wrap64 (x7 + 1))) else (some false)) else (if (bt a0 x7) > 57 then (if (bt a0 x7) = 45 then (impl_isName.l0 k a0 (wrap64 (x7 + 1))) else (some false)) else (impl_isName.l0 k a0 (wrap64 (x7 + 1))))) else (impl_isName.l0 k a0 (wrap64 (x7 + 1))))) else none) else (if (a0.size : Int) ≥ 1 then (some (decide ((a0.size : Int) ≤ 8))) else (some false)))
def impl_isName.f (k : Nat) (a0 : ByteArray) : Option (Bool) := (impl_isName.l0 k a0 0)
def impl_foesOk.l0 : Nat → List S_A2_string → Int → Int → Option (Bool)
  | 0, _, _, _ => none
  | k + 1, l0, a1, x9 => (if x9 < (l0.length : Int) then (if 0 ≤ x9 then ((impl_isName.f k ((rd_A2_string l0 x9).f0)).bind fun t479 => (if t479 = true then ((impl_isName.f k ((rd_A2_string l0 x9).f1)).bind fun t480 => (if t480 = true then (if (Op.bytesLess ((rd_A2_string l0 x9).f0).toList ((rd_A2_string l0 x9).f1).toList) = true then (if x9 > 0 then (if 0 ≤ (wrap64 (x9 - 1)) then (if (wrap64 (x9 - 1)) < (l0.length : Int) then (if (Op.bytesLess ((rd_A2_string l0 x9).f0).toList ((rd_A2_string l0 (wrap64 (x9 - 1))).f0).toList) = true then (some false) else (if ((rd_A2_string l0 (wrap64 (x9 - 1))).f0).toList = ((rd_A2_string l0 x9).f0).toList then (if (Op.bytesLess ((rd_A2_string l0 (wrap64 (x9 - 1))).f1).toList ((rd_A2_string l0 x9).f1).toList) = true then (impl_foesOk.l0 k l0 a1 (wrap64 (x9 + 1))) else (some false)) else (impl_foesOk.l0 k l0 a1 (wrap64 (x9 + 1))))) else none) else none) else (impl_foesOk.l0 k l0 a1 (wrap64 (x9 + 1)))) else (some false)) else (some false))) else (some false))) else none) else (some (decide ((l0.length : Int) ≤ a1))))
def impl_foesOk.f (k : Nat) (l0 : List S_A2_string) (a1 : Int) : Option (Bool) := (impl_foesOk.l0 k l0 a1 0)
def slices_Index_string_string.l0 : Nat → List ByteArray → ByteArray → Int → Option (Int)
  | 0, _, _, _ => none
  | k + 1, l0, a1, x8 => (if x8 < (l0.length : Int) then (if 0 ≤ x8 then (if a1.toList = (rdOf ByteArray.empty l0 x8).toList then (some x8) else (slices_Index_string_string.l0 k l0 a1 (wrap64 (x8 + 1)))) else none) else (some (-1)))
def slices_Index_string_string.f (k : Nat) (l0 : List ByteArray) (a1 : ByteArray) : Option (Int) := (slices_Index_string_string.l0 k l0 a1 0)
def slices_Contains_string_string.f (k : Nat) (l0 : List ByteArray) (a1 : ByteArray) : Option (Bool) := ((slices_Index_string_string.f k l0 a1).bind fun t574 => (some (decide (t574 ≥ 0))))
def impl_has.f (k : Nat) (l0 : List ByteArray) (a1 : ByteArray) : Option (Bool) := ((slices_Contains_string_string.f k l0 a1).bind fun t576 => (some t576))
def impl_StuffBook_stuff.l0 : Nat → List S_impl_StuffLot → ByteArray → Int → Option (ByteArray × Bool)
  | 0, _, _, _ => none
  | k + 1, a0_1, a1, x11 => (if x11 < (a0_1.length : Int) then (if 0 ≤ x11 then (if ((rd_impl_StuffLot a0_1 x11).f0).toList = a1.toList then (some ((rd_impl_StuffLot a0_1 x11).f1, true)) else (impl_StuffBook_stuff.l0 k a0_1 a1 (wrap64 (x11 + 1)))) else none) else (some ((⟨#[]⟩ : ByteArray), false)))
def impl_StuffBook_stuff.f (k : Nat) (a0_0 : List S_impl_StuffFoe) (a0_1 : List S_impl_StuffLot) (a0_2 : List S_impl_StuffVessel) (a0_3 : List S_impl_StuffOut) (a1 : ByteArray) : Option (ByteArray × Bool) := (impl_StuffBook_stuff.l0 k a0_1 a1 0)
def impl_rising.l0 : Nat → List ByteArray → Int → Option (Bool)
  | 0, _, _ => none
  | k + 1, l0, x3 => (if x3 < (l0.length : Int) then (if 0 ≤ (wrap64 (x3 - 1)) then (if (wrap64 (x3 - 1)) < (l0.length : Int) then (if 0 ≤ x3 then (if (Op.bytesLess (rdOf ByteArray.empty l0 (wrap64 (x3 - 1))).toList (rdOf ByteArray.empty l0 x3).toList) = true then (impl_rising.l0 k l0 (wrap64 (x3 + 1))) else (some false)) else none) else none) else none) else (some true))
def impl_rising.f (k : Nat) (l0 : List ByteArray) : Option (Bool) := (impl_rising.l0 k l0 1)
def sort_Strings.f (l0 : List ByteArray) : Option (List ByteArray) := sortSf l0
def impl_with.l0 : Nat → List ByteArray → List ByteArray → List ByteArray → Int → Option (List ByteArray)
  | 0, _, _, _, _ => none
  | k + 1, l0, l1, x5, x12 => (if x12 < (l1.length : Int) then (if 0 ≤ x12 then ((impl_has.f k x5 (rdOf ByteArray.empty l1 x12)).bind fun t719 => (if t719 = true then (impl_with.l0 k l0 l1 x5 (wrap64 (x12 + 1))) else (if (x5.length + 1) * 16 ≤ 140737488355328 then (impl_with.l0 k l0 l1 (x5 ++ ([rdOf ByteArray.empty l1 x12] : List ByteArray)) (wrap64 (x12 + 1))) else none))) else none) else ((sort_Strings.f x5).bind fun t721 => (some t721)))
def impl_with.f (k : Nat) (l0 : List ByteArray) (l1 : List ByteArray) : Option (List ByteArray) := (if l0.length * 16 ≤ 140737488355328 then (impl_with.l0 k l0 l1 l0 0) else none)
def impl_StuffBook_stuffs.l0 : Nat → List S_impl_StuffFoe → List S_impl_StuffLot → List S_impl_StuffVessel → List S_impl_StuffOut → List ByteArray → List ByteArray → Int → Option (List ByteArray)
  | 0, _, _, _, _, _, _, _ => none
  | k + 1, a0_0, a0_1, a0_2, a0_3, l1, x5, x12 => (if x12 < (l1.length : Int) then (if 0 ≤ x12 then ((impl_StuffBook_stuff.f k a0_0 a0_1 a0_2 a0_3 (rdOf ByteArray.empty l1 x12)).bind fun t816 => ((impl_with.f k x5 ([t816.1] : List ByteArray)).bind fun t817 => (impl_StuffBook_stuffs.l0 k a0_0 a0_1 a0_2 a0_3 l1 t817 (wrap64 (x12 + 1))))) else none) else (some x5))
def impl_StuffBook_stuffs.f (k : Nat) (a0_0 : List S_impl_StuffFoe) (a0_1 : List S_impl_StuffLot) (a0_2 : List S_impl_StuffVessel) (a0_3 : List S_impl_StuffOut) (l1 : List ByteArray) : Option (List ByteArray) := (impl_StuffBook_stuffs.l0 k a0_0 a0_1 a0_2 a0_3 l1 [] 0)
def impl_foes.l0 : Nat → List S_A2_string → ByteArray → ByteArray → Int → Option (Bool)
  | 0, _, _, _, _ => none
  | k + 1, l0, a1, a2, x11 => (if x11 < (l0.length : Int) then (if 0 ≤ x11 then (if (decide (((rd_A2_string l0 x11).f0).toList = a1.toList) && (decide (((rd_A2_string l0 x11).f1).toList = a2.toList) && true)) = true then (some true) else (if (decide (((rd_A2_string l0 x11).f0).toList = a2.toList) && (decide (((rd_A2_string l0 x11).f1).toList = a1.toList) && true)) = true then (some true) else (impl_foes.l0 k l0 a1 a2 (wrap64 (x11 + 1))))) else none) else (some false))
def impl_foes.f (k : Nat) (l0 : List S_A2_string) (a1 : ByteArray) (a2 : ByteArray) : Option (Bool) := (impl_foes.l0 k l0 a1 a2 0)
mutual
def impl_anyFoes.l1 : Nat → List S_A2_string → List ByteArray → List ByteArray → Int → Int → Option (Bool)
  | 0, _, _, _, _, _ => none
  | k + 1, l0, l1, l2, x13, x19 => (if x19 < (l2.length : Int) then (if 0 ≤ x19 then ((impl_foes.f k l0 (rdOf ByteArray.empty l1 x13) (rdOf ByteArray.empty l2 x19)).bind fun t898 => (if t898 = true then (some true) else (impl_anyFoes.l1 k l0 l1 l2 x13 (wrap64 (x19 + 1))))) else none) else (impl_anyFoes.l0 k l0 l1 l2 (wrap64 (x13 + 1))))
def impl_anyFoes.l0 : Nat → List S_A2_string → List ByteArray → List ByteArray → Int → Option (Bool)
  | 0, _, _, _, _ => none
  | k + 1, l0, l1, l2, x13 => (if x13 < (l1.length : Int) then (if 0 ≤ x13 then (impl_anyFoes.l1 k l0 l1 l2 x13 0) else none) else (some false))
end
def impl_anyFoes.f (k : Nat) (l0 : List S_A2_string) (l1 : List ByteArray) (l2 : List ByteArray) : Option (Bool) := (impl_anyFoes.l0 k l0 l1 l2 0)
def impl_StuffBook_held.l1 : Nat → List S_impl_StuffFoe → List S_impl_StuffLot → List S_impl_StuffVessel → List S_impl_StuffOut → List S_impl_StuffPart → List ByteArray → Int → Int → Int → Option (Bool)
  | 0, _, _, _, _, _, _, _, _, _ => none
  | k + 1, a0_0, a0_1, a0_2, a0_3, l1, l2, a3, x9, x60 => (if x60 < (l2.length : Int) then (if 0 ≤ x60 then ((impl_StuffBook_stuff.f k a0_0 a0_1 a0_2 a0_3 (rdOf ByteArray.empty l2 x60)).bind fun t909 => (if t909.2 = true then (impl_StuffBook_held.l1 k a0_0 a0_1 a0_2 a0_3 l1 l2 a3 x9 (wrap64 (x60 + 1))) else (some false))) else none) else (if x9 ≤ a3 then ((impl_rising.f k l2).bind fun t915 => (if t915 = true then ((impl_StuffBook_pairs.f k a0_0 a0_1 a0_2 a0_3).bind fun t916 => ((impl_StuffBook_stuffs.f k a0_0 a0_1 a0_2 a0_3 l2).bind fun t917 => ((impl_StuffBook_stuffs.f k a0_0 a0_1 a0_2 a0_3 l2).bind fun t918 => ((impl_anyFoes.f k t916 t917 t918).bind fun t919 => (some (!t919)))))) else (some false))) else (some false)))
def impl_StuffBook_held.l0 : Nat → List S_impl_StuffFoe → List S_impl_StuffLot → List S_impl_StuffVessel → List S_impl_StuffOut → List S_impl_StuffPart → List ByteArray → Int → Int → Int → Option (Bool)
  | 0, _, _, _, _, _, _, _, _, _ => none
  | k + 1, a0_0, a0_1, a0_2, a0_3, l1, l2, a3, x9, x18 => (if x18 < (l1.length : Int) then (if 0 ≤ x18 then (if ((rd_impl_StuffPart l1 x18).f1) < 1 then (some false) else (if ((rd_impl_StuffPart l1 x18).f1) > 1000 then (some false) else ((impl_has.f k l2 ((rd_impl_StuffPart l1 x18).f0)).bind fun t905 => (if t905 = true then (if x18 > 0 then (if 0 ≤ (wrap64 (x18 - 1)) then (if (wrap64 (x18 - 1)) < (l1.length : Int) then (if (Op.bytesLess ((rd_impl_StuffPart l1 (wrap64 (x18 - 1))).f0).toList ((rd_impl_StuffPart l1 x18).f0).toList) = true then (impl_StuffBook_held.l0 k a0_0 a0_1 a0_2 a0_3 l1 l2 a3 (wrap64 (x9 + ((rd_impl_StuffPart l1 x18).f1))) (wrap64 (x18 + 1))) else (some false)) else none) else none) else (impl_StuffBook_held.l0 k a0_0 a0_1 a0_2 a0_3 l1 l2 a3 (wrap64 (x9 + ((rd_impl_StuffPart l1 x18).f1))) (wrap64 (x18 + 1)))) else (some false))))) else none) else (impl_StuffBook_held.l1 k a0_0 a0_1 a0_2 a0_3 l1 l2 a3 x9 0))
def impl_StuffBook_held.f (k : Nat) (a0_0 : List S_impl_StuffFoe) (a0_1 : List S_impl_StuffLot) (a0_2 : List S_impl_StuffVessel) (a0_3 : List S_impl_StuffOut) (l1 : List S_impl_StuffPart) (l2 : List ByteArray) (a3 : Int) : Option (Bool) := (impl_StuffBook_held.l0 k a0_0 a0_1 a0_2 a0_3 l1 l2 a3 0 0)
def impl_StuffBook_vessel.l0 : Nat → List S_impl_StuffVessel → ByteArray → Int → Option (Int)
  | 0, _, _, _ => none
  | k + 1, a0_2, a1, x10 => (if x10 < (a0_2.length : Int) then (if 0 ≤ x10 then (if ((rd_impl_StuffVessel a0_2 x10).f0).toList = a1.toList then (some x10) else (impl_StuffBook_vessel.l0 k a0_2 a1 (wrap64 (x10 + 1)))) else none) else (some (-1)))
def impl_StuffBook_vessel.f (k : Nat) (a0_0 : List S_impl_StuffFoe) (a0_1 : List S_impl_StuffLot) (a0_2 : List S_impl_StuffVessel) (a0_3 : List S_impl_StuffOut) (a1 : ByteArray) : Option (Int) := (impl_StuffBook_vessel.l0 k a0_2 a1 0)
def impl_StuffBookOk.l2 : Nat → List S_impl_StuffFoe → List S_impl_StuffLot → List S_impl_StuffVessel → List S_impl_StuffOut → Int → Option (Bool)
  | 0, _, _, _, _, _ => none
  | k + 1, a0_0, a0_1, a0_2, a0_3, x119 => (if x119 < (a0_3.length : Int) then (if 0 ≤ x119 then ((impl_isName.f k ((rd_impl_StuffOut a0_3 x119).f0)).bind fun t993 => (if t993 = true then ((impl_StuffBook_vessel.f k a0_0 a0_1 a0_2 a0_3 ((rd_impl_StuffOut a0_3 x119).f0)).bind fun t994 => (if t994 ≥ 0 then (some false) else (if x119 > 0 then (if 0 ≤ (wrap64 (x119 - 1)) then (if (wrap64 (x119 - 1)) < (a0_3.length : Int) then (if (Op.bytesLess ((rd_impl_StuffOut a0_3 (wrap64 (x119 - 1))).f0).toList ((rd_impl_StuffOut a0_3 x119).f0).toList) = true then ((impl_StuffBook_held.f k a0_0 a0_1 a0_2 a0_3 ((rd_impl_StuffOut a0_3 x119).f1) ((rd_impl_StuffOut a0_3 x119).f2) 1000).bind fun t995 => (if t995 = true then (impl_StuffBookOk.l2 k a0_0 a0_1 a0_2 a0_3 (wrap64 (x119 + 1))) else (some false))) else (some false)) else none) else none) else ((impl_StuffBook_held.f k a0_0 a0_1 a0_2 a0_3 ((rd_impl_StuffOut a0_3 x119).f1) ((rd_impl_StuffOut a0_3 x119).f2) 1000).bind fun t996 => (if t996 = true then (impl_StuffBookOk.l2 k a0_0 a0_1 a0_2 a0_3 (wrap64 (x119 + 1))) else (some false)))))) else (some false))) else none) else (some true))
def impl_StuffBookOk.l1 : Nat → List S_impl_StuffFoe → List S_impl_StuffLot → List S_impl_StuffVessel → List S_impl_StuffOut → Int → Option (Bool)
  | 0, _, _, _, _, _ => none
  | k + 1, a0_0, a0_1, a0_2, a0_3, x69 => (if x69 < (a0_2.length : Int) then (if 0 ≤ x69 then ((impl_isName.f k ((rd_impl_StuffVessel a0_2 x69).f0)).bind fun t978 => (if t978 = true then (if ((rd_impl_StuffVessel a0_2 x69).f1) < 1 then (some false) else (if ((rd_impl_StuffVessel a0_2 x69).f1) > 1000 then (some false) else (if x69 > 0 then (if 0 ≤ (wrap64 (x69 - 1)) then (if (wrap64 (x69 - 1)) < (a0_2.length : Int) then (if (Op.bytesLess ((rd_impl_StuffVessel a0_2 (wrap64 (x69 - 1))).f0).toList ((rd_impl_StuffVessel a0_2 x69).f0).toList) = true then ((impl_StuffBook_held.f k a0_0 a0_1 a0_2 a0_3 ((rd_impl_StuffVessel a0_2 x69).f2) ((rd_impl_StuffVessel a0_2 x69).f3) ((rd_impl_StuffVessel a0_2 x69).f1)).bind fun t979 => (if t979 = true then (impl_StuffBookOk.l1 k a0_0 a0_1 a0_2 a0_3 (wrap64 (x69 + 1))) else (some false))) else (some false)) else none) else none) else ((impl_StuffBook_held.f k a0_0 a0_1 a0_2 a0_3 ((rd_impl_StuffVessel a0_2 x69).f2) ((rd_impl_StuffVessel a0_2 x69).f3) ((rd_impl_StuffVessel a0_2 x69).f1)).bind fun t980 => (if t980 = true then (impl_StuffBookOk.l1 k a0_0 a0_1 a0_2 a0_3 (wrap64 (x69 + 1))) else (some false)))))) else (some false))) else none) else (impl_StuffBookOk.l2 k a0_0 a0_1 a0_2 a0_3 0))
def impl_StuffBookOk.l0 : Nat → List S_impl_StuffFoe → List S_impl_StuffLot → List S_impl_StuffVessel → List S_impl_StuffOut → Int → Option (Bool)
  | 0, _, _, _, _, _ => none
  | k + 1, a0_0, a0_1, a0_2, a0_3, x34 => (if x34 < (a0_1.length : Int) then (if 0 ≤ x34 then ((impl_isName.f k ((rd_impl_StuffLot a0_1 x34).f0)).bind fun t967 => (if t967 = true then ((impl_isName.f k ((rd_impl_StuffLot a0_1 x34).f1)).bind fun t968 => (if t968 = true then (if x34 > 0 then (if 0 ≤ (wrap64 (x34 - 1)) then (if (wrap64 (x34 - 1)) < (a0_1.length : Int) then (if (Op.bytesLess ((rd_impl_StuffLot a0_1 (wrap64 (x34 - 1))).f0).toList ((rd_impl_StuffLot a0_1 x34).f0).toList) = true then (impl_StuffBookOk.l0 k a0_0 a0_1 a0_2 a0_3 (wrap64 (x34 + 1))) else (some false)) else none) else none) else (impl_StuffBookOk.l0 k a0_0 a0_1 a0_2 a0_3 (wrap64 (x34 + 1)))) else (some false))) else (some false))) else none) else (impl_StuffBookOk.l1 k a0_0 a0_1 a0_2 a0_3 0))
def impl_StuffBookOk.f (k : Nat) (a0_0 : List S_impl_StuffFoe) (a0_1 : List S_impl_StuffLot) (a0_2 : List S_impl_StuffVessel) (a0_3 : List S_impl_StuffOut) : Option (Bool) := ((impl_StuffBook_pairs.f k a0_0 a0_1 a0_2 a0_3).bind fun t959 => ((impl_foesOk.f k t959 12).bind fun t960 => (if t960 = true then (if (a0_1.length : Int) > 16 then (some false) else (if (a0_2.length : Int) > 8 then (some false) else (if (a0_3.length : Int) > 12 then (some false) else (impl_StuffBookOk.l0 k a0_0 a0_1 a0_2 a0_3 0)))) else (some false))))
def impl_StuffRecall.l1 : Nat → List S_impl_StuffOut → ByteArray → List ByteArray → Int → Option (List ByteArray)
  | 0, _, _, _, _ => none
  | k + 1, a0_3, a1, x5_1, x33 => (if x33 < (a0_3.length : Int) then (if 0 ≤ x33 then ((impl_has.f k ((rd_impl_StuffOut a0_3 x33).f2) a1).bind fun t1013 => (if t1013 = true then (if (x5_1.length + 1) * 16 ≤ 140737488355328 then (impl_StuffRecall.l1 k a0_3 a1 (x5_1 ++ ([(rd_impl_StuffOut a0_3 x33).f0] : List ByteArray)) (wrap64 (x33 + 1))) else none) else (impl_StuffRecall.l1 k a0_3 a1 x5_1 (wrap64 (x33 + 1))))) else none) else (some x5_1))
def impl_StuffRecall.l0 : Nat → List S_impl_StuffVessel → List S_impl_StuffOut → ByteArray → List ByteArray → Int → Option (List ByteArray)
  | 0, _, _, _, _, _ => none
  | k + 1, a0_2, a0_3, a1, x5, x16 => (if x16 < (a0_2.length : Int) then (if 0 ≤ x16 then ((impl_has.f k ((rd_impl_StuffVessel a0_2 x16).f3) a1).bind fun t1005 => (if t1005 = true then (if (x5.length + 1) * 16 ≤ 140737488355328 then (impl_StuffRecall.l0 k a0_2 a0_3 a1 (x5 ++ ([(rd_impl_StuffVessel a0_2 x16).f0] : List ByteArray)) (wrap64 (x16 + 1))) else none) else (impl_StuffRecall.l0 k a0_2 a0_3 a1 x5 (wrap64 (x16 + 1))))) else none) else (impl_StuffRecall.l1 k a0_3 a1 x5 0))
def impl_StuffRecall.f (k : Nat) (a0_0 : List S_impl_StuffFoe) (a0_1 : List S_impl_StuffLot) (a0_2 : List S_impl_StuffVessel) (a0_3 : List S_impl_StuffOut) (a1 : ByteArray) : Option (List ByteArray) := ((impl_StuffBookOk.f k a0_0 a0_1 a0_2 a0_3).bind fun t999 => (if t999 = true then (impl_StuffRecall.l0 k a0_2 a0_3 a1 [] 0) else (some [])))
def laws_eqStringS.l0 : Nat → List ByteArray → List ByteArray → Int → Option (Bool)
  | 0, _, _, _ => none
  | k + 1, l0, l1, x5 => (if x5 < (l0.length : Int) then (if 0 ≤ x5 then (if x5 < (l1.length : Int) then (if (rdOf ByteArray.empty l0 x5).toList = (rdOf ByteArray.empty l1 x5).toList then (laws_eqStringS.l0 k l0 l1 (wrap64 (x5 + 1))) else (some false)) else none) else none) else (some true))
def laws_eqStringS.f (k : Nat) (l0 : List ByteArray) (l1 : List ByteArray) : Option (Bool) := (if (l0.length : Int) = (l1.length : Int) then (laws_eqStringS.l0 k l0 l1 0) else (some false))
def laws_eqStuffFoe.f (a0_0 : ByteArray) (a0_1 : ByteArray) (a1_0 : ByteArray) (a1_1 : ByteArray) : Option (Bool) := (if a0_0.toList = a1_0.toList then (if a0_1.toList = a1_1.toList then (some true) else (some false)) else (some false))
def laws_eqStuffFoeS.l0 : Nat → List S_impl_StuffFoe → List S_impl_StuffFoe → Int → Option (Bool)
  | 0, _, _, _ => none
  | k + 1, l0, l1, x5 => (if x5 < (l0.length : Int) then (if 0 ≤ x5 then (if x5 < (l1.length : Int) then ((laws_eqStuffFoe.f ((rd_impl_StuffFoe l0 x5).f0) ((rd_impl_StuffFoe l0 x5).f1) ((rd_impl_StuffFoe l1 x5).f0) ((rd_impl_StuffFoe l1 x5).f1)).bind fun t1069 => (if t1069 = true then (laws_eqStuffFoeS.l0 k l0 l1 (wrap64 (x5 + 1))) else (some false))) else none) else none) else (some true))
def laws_eqStuffFoeS.f (k : Nat) (l0 : List S_impl_StuffFoe) (l1 : List S_impl_StuffFoe) : Option (Bool) := (if (l0.length : Int) = (l1.length : Int) then (laws_eqStuffFoeS.l0 k l0 l1 0) else (some false))
def laws_eqStuffLot.f (a0_0 : ByteArray) (a0_1 : ByteArray) (a1_0 : ByteArray) (a1_1 : ByteArray) : Option (Bool) := (if a0_0.toList = a1_0.toList then (if a0_1.toList = a1_1.toList then (some true) else (some false)) else (some false))
def laws_eqStuffLotS.l0 : Nat → List S_impl_StuffLot → List S_impl_StuffLot → Int → Option (Bool)
  | 0, _, _, _ => none
  | k + 1, l0, l1, x5 => (if x5 < (l0.length : Int) then (if 0 ≤ x5 then (if x5 < (l1.length : Int) then ((laws_eqStuffLot.f ((rd_impl_StuffLot l0 x5).f0) ((rd_impl_StuffLot l0 x5).f1) ((rd_impl_StuffLot l1 x5).f0) ((rd_impl_StuffLot l1 x5).f1)).bind fun t1107 => (if t1107 = true then (laws_eqStuffLotS.l0 k l0 l1 (wrap64 (x5 + 1))) else (some false))) else none) else none) else (some true))
def laws_eqStuffLotS.f (k : Nat) (l0 : List S_impl_StuffLot) (l1 : List S_impl_StuffLot) : Option (Bool) := (if (l0.length : Int) = (l1.length : Int) then (laws_eqStuffLotS.l0 k l0 l1 0) else (some false))
def laws_eqStuffPart.f (a0_0 : ByteArray) (a0_1 : Int) (a1_0 : ByteArray) (a1_1 : Int) : Option (Bool) := (if a0_0.toList = a1_0.toList then (if a0_1 = a1_1 then (some true) else (some false)) else (some false))
def laws_eqStuffPartS.l0 : Nat → List S_impl_StuffPart → List S_impl_StuffPart → Int → Option (Bool)
  | 0, _, _, _ => none
  | k + 1, l0, l1, x5 => (if x5 < (l0.length : Int) then (if 0 ≤ x5 then (if x5 < (l1.length : Int) then ((laws_eqStuffPart.f ((rd_impl_StuffPart l0 x5).f0) ((rd_impl_StuffPart l0 x5).f1) ((rd_impl_StuffPart l1 x5).f0) ((rd_impl_StuffPart l1 x5).f1)).bind fun t1191 => (if t1191 = true then (laws_eqStuffPartS.l0 k l0 l1 (wrap64 (x5 + 1))) else (some false))) else none) else none) else (some true))
def laws_eqStuffPartS.f (k : Nat) (l0 : List S_impl_StuffPart) (l1 : List S_impl_StuffPart) : Option (Bool) := (if (l0.length : Int) = (l1.length : Int) then (laws_eqStuffPartS.l0 k l0 l1 0) else (some false))
def laws_eqStuffVessel.f (k : Nat) (a0_0 : ByteArray) (a0_1 : Int) (a0_2 : List S_impl_StuffPart) (a0_3 : List ByteArray) (a1_0 : ByteArray) (a1_1 : Int) (a1_2 : List S_impl_StuffPart) (a1_3 : List ByteArray) : Option (Bool) := (if a0_0.toList = a1_0.toList then (if a0_1 = a1_1 then ((laws_eqStuffPartS.f k a0_2 a1_2).bind fun t1194 => (if t1194 = true then ((laws_eqStringS.f k a0_3 a1_3).bind fun t1197 => (if t1197 = true then (some true) else (some false))) else (some false))) else (some false)) else (some false))
def laws_eqStuffVesselS.l0 : Nat → List S_impl_StuffVessel → List S_impl_StuffVessel → Int → Option (Bool)
  | 0, _, _, _ => none
  | k + 1, l0, l1, x5 => (if x5 < (l0.length : Int) then (if 0 ≤ x5 then (if x5 < (l1.length : Int) then ((laws_eqStuffVessel.f k ((rd_impl_StuffVessel l0 x5).f0) ((rd_impl_StuffVessel l0 x5).f1) ((rd_impl_StuffVessel l0 x5).f2) ((rd_impl_StuffVessel l0 x5).f3) ((rd_impl_StuffVessel l1 x5).f0) ((rd_impl_StuffVessel l1 x5).f1) ((rd_impl_StuffVessel l1 x5).f2) ((rd_impl_StuffVessel l1 x5).f3)).bind fun t1201 => (if t1201 = true then (laws_eqStuffVesselS.l0 k l0 l1 (wrap64 (x5 + 1))) else (some false))) else none) else none) else (some true))
def laws_eqStuffVesselS.f (k : Nat) (l0 : List S_impl_StuffVessel) (l1 : List S_impl_StuffVessel) : Option (Bool) := (if (l0.length : Int) = (l1.length : Int) then (laws_eqStuffVesselS.l0 k l0 l1 0) else (some false))
def laws_eqStuffOut.f (k : Nat) (a0_0 : ByteArray) (a0_1 : List S_impl_StuffPart) (a0_2 : List ByteArray) (a1_0 : ByteArray) (a1_1 : List S_impl_StuffPart) (a1_2 : List ByteArray) : Option (Bool) := (if a0_0.toList = a1_0.toList then ((laws_eqStuffPartS.f k a0_1 a1_1).bind fun t1250 => (if t1250 = true then ((laws_eqStringS.f k a0_2 a1_2).bind fun t1253 => (if t1253 = true then (some true) else (some false))) else (some false))) else (some false))
def laws_eqStuffOutS.l0 : Nat → List S_impl_StuffOut → List S_impl_StuffOut → Int → Option (Bool)
  | 0, _, _, _ => none
  | k + 1, l0, l1, x5 => (if x5 < (l0.length : Int) then (if 0 ≤ x5 then (if x5 < (l1.length : Int) then ((laws_eqStuffOut.f k ((rd_impl_StuffOut l0 x5).f0) ((rd_impl_StuffOut l0 x5).f1) ((rd_impl_StuffOut l0 x5).f2) ((rd_impl_StuffOut l1 x5).f0) ((rd_impl_StuffOut l1 x5).f1) ((rd_impl_StuffOut l1 x5).f2)).bind fun t1257 => (if t1257 = true then (laws_eqStuffOutS.l0 k l0 l1 (wrap64 (x5 + 1))) else (some false))) else none) else none) else (some true))
def laws_eqStuffOutS.f (k : Nat) (l0 : List S_impl_StuffOut) (l1 : List S_impl_StuffOut) : Option (Bool) := (if (l0.length : Int) = (l1.length : Int) then (laws_eqStuffOutS.l0 k l0 l1 0) else (some false))
def laws_eqStuffBook.f (k : Nat) (a0_0 : List S_impl_StuffFoe) (a0_1 : List S_impl_StuffLot) (a0_2 : List S_impl_StuffVessel) (a0_3 : List S_impl_StuffOut) (a1_0 : List S_impl_StuffFoe) (a1_1 : List S_impl_StuffLot) (a1_2 : List S_impl_StuffVessel) (a1_3 : List S_impl_StuffOut) : Option (Bool) := ((laws_eqStuffFoeS.f k a0_0 a1_0).bind fun t1260 => (if t1260 = true then ((laws_eqStuffLotS.f k a0_1 a1_1).bind fun t1263 => (if t1263 = true then ((laws_eqStuffVesselS.f k a0_2 a1_2).bind fun t1266 => (if t1266 = true then ((laws_eqStuffOutS.f k a0_3 a1_3).bind fun t1269 => (if t1269 = true then (some true) else (some false))) else (some false))) else (some false))) else (some false)))
def laws_markText.l0 : Nat → Int → ByteArray → Option (ByteArray)
  | 0, _, _ => none
  | k + 1, x0, x3 => (if x0 > 0 then (if (((⟨#[UInt8.ofNat (IntKind.wrap .u8 (wrap64 (48 + (Int.tmod x0 10)))).toNat]⟩ : ByteArray).size + x3.size : Nat) : Int) ≤ 9223372036854775807 then (laws_markText.l0 k (wrap64 (Int.tdiv x0 10)) ((⟨#[UInt8.ofNat (IntKind.wrap .u8 (wrap64 (48 + (Int.tmod x0 10)))).toNat]⟩ : ByteArray) ++ x3)) else none) else (if (((⟨#[109]⟩ : ByteArray).size + x3.size : Nat) : Int) ≤ 9223372036854775807 then (some ((⟨#[109]⟩ : ByteArray) ++ x3)) else none))
def laws_markText.f (k : Nat) (a0 : Int) : Option (ByteArray) := (if a0 ≤ 0 then (some (⟨#[109, 48]⟩ : ByteArray)) else (laws_markText.l0 k a0 (⟨#[]⟩ : ByteArray)))
def laws_markStuffFoeS.l0 : Nat → List S_impl_StuffFoe → Int → Int → List S_impl_StuffFoe → Option (Int × (List S_impl_StuffFoe))
  | 0, _, _, _, _ => none
  | k + 1, l0, x1, x5, x1000 => (if x1000.length = l0.length then (if x5 < (l0.length : Int) then ((laws_markText.f k x1).bind fun t1357 => (if 0 ≤ x5 then ((laws_markText.f k (wrap64 (x1 + 1))).bind fun t1358 => (laws_markStuffFoeS.l0 k l0 (wrap64 ((wrap64 (x1 + 1)) + 1)) (wrap64 (x5 + 1)) (x1000.set (x5).toNat (⟨t1357, t1358⟩ : S_impl_StuffFoe)))) else none)) else (some (x1, x1000))) else none)
def laws_markStuffFoeS.f (k : Nat) (l0 : List S_impl_StuffFoe) (a1 : Int) : Option (Int × (List S_impl_StuffFoe)) := (laws_markStuffFoeS.l0 k l0 a1 0 l0)
def laws_markStuffLotS.l0 : Nat → List S_impl_StuffLot → Int → Int → List S_impl_StuffLot → Option (Int × (List S_impl_StuffLot))
  | 0, _, _, _, _ => none
  | k + 1, l0, x1, x5, x1000 => (if x1000.length = l0.length then (if x5 < (l0.length : Int) then ((laws_markText.f k x1).bind fun t1431 => (if 0 ≤ x5 then ((laws_markText.f k (wrap64 (x1 + 1))).bind fun t1432 => (laws_markStuffLotS.l0 k l0 (wrap64 ((wrap64 (x1 + 1)) + 1)) (wrap64 (x5 + 1)) (x1000.set (x5).toNat (⟨t1431, t1432⟩ : S_impl_StuffLot)))) else none)) else (some (x1, x1000))) else none)
def laws_markStuffLotS.f (k : Nat) (l0 : List S_impl_StuffLot) (a1 : Int) : Option (Int × (List S_impl_StuffLot)) := (laws_markStuffLotS.l0 k l0 a1 0 l0)
def laws_markStuffPartS.l0 : Nat → List S_impl_StuffPart → Int → Int → List S_impl_StuffPart → Option (Int × (List S_impl_StuffPart))
  | 0, _, _, _, _ => none
  | k + 1, l0, x1, x5, x1000 => (if x1000.length = l0.length then (if x5 < (l0.length : Int) then ((laws_markText.f k x1).bind fun t1557 => (if 0 ≤ x5 then (laws_markStuffPartS.l0 k l0 (wrap64 ((wrap64 (x1 + 1)) + 1)) (wrap64 (x5 + 1)) (x1000.set (x5).toNat (⟨t1557, wrap64 (x1 + 1)⟩ : S_impl_StuffPart))) else none)) else (some (x1, x1000))) else none)
def laws_markStuffPartS.f (k : Nat) (l0 : List S_impl_StuffPart) (a1 : Int) : Option (Int × (List S_impl_StuffPart)) := (laws_markStuffPartS.l0 k l0 a1 0 l0)
def laws_markStringS.l0 : Nat → List ByteArray → Int → Int → List ByteArray → Option (Int × (List ByteArray))
  | 0, _, _, _, _ => none
  | k + 1, l0, x1, x5, x1000 => (if x1000.length = l0.length then (if x5 < (l0.length : Int) then ((laws_markText.f k x1).bind fun t1618 => (if 0 ≤ x5 then (laws_markStringS.l0 k l0 (wrap64 (x1 + 1)) (wrap64 (x5 + 1)) (x1000.set (x5).toNat t1618)) else none)) else (some (x1, x1000))) else none)
def laws_markStringS.f (k : Nat) (l0 : List ByteArray) (a1 : Int) : Option (Int × (List ByteArray)) := (laws_markStringS.l0 k l0 a1 0 l0)
def laws_markStuffVesselS.l0 : Nat → List S_impl_StuffVessel → Int → Int → List S_impl_StuffVessel → Option (Int × (List S_impl_StuffVessel))
  | 0, _, _, _, _ => none
  | k + 1, l0, x1, x5, x1000 => (if x1000.length = l0.length then (if x5 < (l0.length : Int) then ((laws_markText.f k x1).bind fun t1633 => (if 0 ≤ x5 then ((laws_markStuffPartS.f k ((rd_impl_StuffVessel x1000 x5).f2) (wrap64 ((wrap64 (x1 + 1)) + 1))).bind fun t1634 => ((laws_markStringS.f k ((rd_impl_StuffVessel x1000 x5).f3) t1634.1).bind fun t1635 => (laws_markStuffVesselS.l0 k l0 t1635.1 (wrap64 (x5 + 1)) (x1000.set (x5).toNat (⟨t1633, wrap64 (x1 + 1), t1634.2, t1635.2⟩ : S_impl_StuffVessel))))) else none)) else (some (x1, x1000))) else none)
def laws_markStuffVesselS.f (k : Nat) (l0 : List S_impl_StuffVessel) (a1 : Int) : Option (Int × (List S_impl_StuffVessel)) := (laws_markStuffVesselS.l0 k l0 a1 0 l0)
def laws_markStuffOutS.l0 : Nat → List S_impl_StuffOut → Int → Int → List S_impl_StuffOut → Option (Int × (List S_impl_StuffOut))
  | 0, _, _, _, _ => none
  | k + 1, l0, x1, x5, x1000 => (if x1000.length = l0.length then (if x5 < (l0.length : Int) then ((laws_markText.f k x1).bind fun t1724 => (if 0 ≤ x5 then ((laws_markStuffPartS.f k ((rd_impl_StuffOut x1000 x5).f1) (wrap64 (x1 + 1))).bind fun t1725 => ((laws_markStringS.f k ((rd_impl_StuffOut x1000 x5).f2) t1725.1).bind fun t1726 => (laws_markStuffOutS.l0 k l0 t1726.1 (wrap64 (x5 + 1)) (x1000.set (x5).toNat (⟨t1724, t1725.2, t1726.2⟩ : S_impl_StuffOut))))) else none)) else (some (x1, x1000))) else none)
def laws_markStuffOutS.f (k : Nat) (l0 : List S_impl_StuffOut) (a1 : Int) : Option (Int × (List S_impl_StuffOut)) := (laws_markStuffOutS.l0 k l0 a1 0 l0)
def laws_markStuffBook.f (k : Nat) (a0_0 : List S_impl_StuffFoe) (a0_1 : List S_impl_StuffLot) (a0_2 : List S_impl_StuffVessel) (a0_3 : List S_impl_StuffOut) (a1 : Int) : Option (Int × (List S_impl_StuffFoe) × (List S_impl_StuffLot) × (List S_impl_StuffVessel) × (List S_impl_StuffOut)) := ((laws_markStuffFoeS.f k a0_0 a1).bind fun t1753 => ((laws_markStuffLotS.f k a0_1 t1753.1).bind fun t1755 => ((laws_markStuffVesselS.f k a0_2 t1755.1).bind fun t1757 => ((laws_markStuffOutS.f k a0_3 t1757.1).bind fun t1759 => (some (t1759.1, t1753.2, t1755.2, t1757.2, t1759.2))))))
def laws_heldStringS.l0 : Nat → List ByteArray → Int → Int → Option (Int)
  | 0, _, _, _ => none
  | k + 1, l0, x1, x5 => (if x5 < (l0.length : Int) then (if 0 ≤ x5 then ((laws_markText.f k x1).bind fun t2220 => (if (rdOf ByteArray.empty l0 x5).toList = t2220.toList then (laws_heldStringS.l0 k l0 (wrap64 (x1 + 1)) (wrap64 (x5 + 1))) else (some (-1)))) else none) else (some x1))
def laws_heldStringS.f (k : Nat) (l0 : List ByteArray) (a1 : Int) : Option (Int) := (laws_heldStringS.l0 k l0 a1 0)
def laws_FnExactStuffRecall.f (k : Nat) (a0_0 : List S_laws_StuffFoe) (a0_1 : List S_laws_StuffLot) (a0_2 : List S_laws_StuffVessel) (a0_3 : List S_laws_StuffOut) (a1 : ByteArray) : Option (Bool) := (if (a1.size : Int) > 1048576 then (some true) else ((laws_szStuffBook.f k a0_0 a0_1 a0_2 a0_3 1048576).bind fun t2222 => (if t2222 < 0 then (some true) else ((laws_toStuffBook.f k a0_0 a0_1 a0_2 a0_3).bind fun t2225 => ((spec_StuffRecall.f k t2225.1 t2225.2.1 t2225.2.2.1 t2225.2.2.2 a1).bind fun t2226 => ((laws_toStuffBook.f k a0_0 a0_1 a0_2 a0_3).bind fun t2228 => ((impl_StuffRecall.f k t2228.1 t2228.2.1 t2228.2.2.1 t2228.2.2.2 a1).bind fun t2230 => ((laws_eqStringS.f k t2230 t2226).bind fun t2233 => (if t2233 = true then ((laws_toStuffBook.f k a0_0 a0_1 a0_2 a0_3).bind fun t2238 => ((laws_eqStuffBook.f k t2228.1 t2228.2.1 t2228.2.2.1 t2228.2.2.2 t2238.1 t2238.2.1 t2238.2.2.1 t2238.2.2.2).bind fun t2239 => (if t2239 = true then ((laws_markStuffBook.f k t2228.1 t2228.2.1 t2228.2.2.1 t2228.2.2.2 1).bind fun t2241 => (if t2241.1 < 0 then (some false) else ((laws_eqStringS.f k t2230 t2226).bind fun t2244 => (if t2244 = true then ((laws_markStringS.f k t2230 1).bind fun t2246 => ((laws_heldStringS.f k t2246.2 1).bind fun t2248 => (if t2248 < 0 then (some false) else (if t2248 = t2246.1 then ((laws_toStuffBook.f k a0_0 a0_1 a0_2 a0_3).bind fun t2251 => ((impl_StuffRecall.f k t2251.1 t2251.2.1 t2251.2.2.1 t2251.2.2.2 a1).bind fun t2252 => ((laws_eqStringS.f k t2252 t2226).bind fun t2255 => (if t2255 = true then ((laws_heldStringS.f k t2246.2 1).bind fun t2257 => (if t2257 < 0 then (some false) else (if t2257 = t2246.1 then (some true) else (some false)))) else (some false))))) else (some false))))) else (some false))))) else (some false)))) else (some false))))))))))
end Go.Proofs.Ytamkmmkchdnkmaa.SR
namespace Go.Proofs.Ytamkmmkchdnkmaa.Pure
open Go Go.RowKit Go.Aw Go.Proofs.Ytamkmmkchdnkmaa.SR
set_option linter.unusedVariables false
set_option linter.unusedSimpArgs false
/-! ### general words -/
theorem ev_pos {α : Type} {c : Prop} {d : Decidable c} {g f : Nat → Option α} {r : α} (h : c) (k : Ev g r) : Ev (fun n => @ite _ c d (g n) (f n)) r := Ev.congr (fun _ => if_pos h) k
theorem ev_neg {α : Type} {c : Prop} {d : Decidable c} {g f : Nat → Option α} {r : α} (h : ¬ c) (k : Ev f r) : Ev (fun n => @ite _ c d (g n) (f n)) r := Ev.congr (fun _ => if_neg h) k
theorem ev_ret {α : Type} {a r : α} (h : a = r) : Ev (fun _ => some a) r := h ▸ Ev.now a
theorem ev_let {α β : Type} {g : Option α} {a : α} {r : β} {f : Nat → α → Option β} (h : g = some a) (k : Ev (fun n => f n a) r) : Ev (fun n => g.bind (f n)) r := by
  subst h; exact k
theorem ev_eq {α : Type} {g : Nat → Option α} {a r : α} (k : Ev g a) (h : a = r) : Ev g r := h ▸ k
theorem ev_split {α : Type} {c : Prop} {d : Decidable c} {g f : Nat → Option α} {r : α} (h : c → Ev g r) (k : ¬ c → Ev f r) : Ev (fun n => @ite _ c d (g n) (f n)) r := by
  by_cases q : c
  · exact ev_pos q (h q)
  · exact ev_neg q (k q)
/-- a value that is called on -/
theorem ev_of {α β : Type} {g : Nat → Option α} {a : α} {r : β} {f : Nat → α → Option β} (h : Ev g a) (k : Ev (fun n => f n a) r) : Ev (fun n => (g n).bind (f n)) r := Ev.bind h k
theorem ex_ret {α : Type} {a : α} : ∃ q, Ev (fun _ => some a) q := ⟨a, Ev.now a⟩
theorem ex_ite {α : Type} {c : Prop} {d : Decidable c} {g f : Nat → Option α} (h : ∃ q, Ev g q) (k : ∃ q, Ev f q) : ∃ q, Ev (fun n => @ite _ c d (g n) (f n)) q := by
  by_cases q : c
  · exact h.imp fun _ e => ev_pos q e
  · exact k.imp fun _ e => ev_neg q e
theorem ex_pos {α : Type} {c : Prop} {d : Decidable c} {g f : Nat → Option α} (h : c) (k : ∃ q, Ev g q) : ∃ q, Ev (fun n => @ite _ c d (g n) (f n)) q := k.imp fun _ e => ev_pos h e
theorem ex_bind {α β : Type} {g : Nat → Option α} {f : Nat → α → Option β} (h : ∃ a, Ev g a) (k : ∀ a, ∃ q, Ev (fun n => f n a) q) : ∃ q, Ev (fun n => (g n).bind (f n)) q := by
  obtain ⟨a, h⟩ := h
  exact (k a).imp fun _ e => Ev.bind h e
theorem ex_step {α : Type} {g f : Nat → Option α} (h : ∀ k, g (k + 1) = f k) (k : ∃ q, Ev f q) : ∃ q, Ev g q := k.imp fun _ e => Ev.step h e
theorem w64 {x : Int} (h0 : -9223372036854775808 ≤ x) (h1 : x ≤ 9223372036854775807) : wrap64 x = x := by unfold wrap64; omega
theorem wsucc {i n : Nat} (h : i < n) (hn : n ≤ 9223372036854775807) : wrap64 ((i : Int) + 1) = ((i + 1 : Nat) : Int) := by unfold wrap64; omega
theorem wplus {a : Int} (h0 : 0 ≤ a) (h1 : a ≤ 4611686018427387904) : wrap64 (a + 1) = a + 1 := by unfold wrap64; omega
theorem pre64 {i : Nat} (h : ¬ i = 0) (hi : i ≤ 9223372036854775807) : wrap64 ((i : Int) - 1) = ((i - 1 : Nat) : Int) := by unfold wrap64; omega
theorem getD_eq {α : Type} (d : α) (xs : List α) (i : Nat) (h : i < xs.length) : xs.getD i d = xs[i] := by
  rw [List.getD_eq_getElem?_getD, List.getElem?_eq_getElem h]; rfl
theorem mem_getD {α : Type} (d : α) (xs : List α) (i : Nat) (h : i < xs.length) : xs.getD i d ∈ xs := by
  rw [getD_eq d xs i h]; exact List.getElem_mem h
theorem getD_set {α : Type} (d : α) (xs : List α) (i j : Nat) (v : α) (h : i < xs.length) : (xs.set i v).getD j d = if j = i then v else xs.getD j d := by
  rw [List.getD_eq_getElem?_getD, List.getD_eq_getElem?_getD, List.getElem?_set]
  by_cases e : i = j
  · subst e; simp [h]
  · rw [if_neg e, if_neg (fun q => e q.symm)]
theorem fill_end {α : Type} (d : α) (z y : List α) (hl : y.length = z.length) (h : ∀ j, j < z.length → y.getD j d = z.getD j d) : y = z := by
  apply List.ext_getElem hl
  intro j h1 h2
  have e := h j h2
  rwa [getD_eq d y j h1, getD_eq d z j h2] at e
theorem fill_step {α : Type} (d : α) (z y : List α) (i : Nat) (hl : y.length = z.length) (hi : i < z.length) (h : ∀ j, j < i → y.getD j d = z.getD j d) (v : α) (hv : v = z.getD i d) :
    (y.set i v).length = z.length ∧ ∀ j, j < i + 1 → (y.set i v).getD j d = z.getD j d := by
  refine ⟨by simpa using hl, fun j hj => ?_⟩
  rw [getD_set d y i j v (by omega)]
  by_cases e : j = i
  · rw [if_pos e, e, hv]
  · rw [if_neg e]; exact h j (by omega)
theorem rdOf_nat {α : Type} (d : α) (xs : List α) (i : Nat) : rdOf d xs (i : Int) = xs.getD i d := by simp [rdOf]
theorem rd_nat (xs : List Int) (i : Nat) : rd xs (i : Int) = xs.getD i 0 := by simp [rd]
theorem map_getD {α β : Type} (e : β) (d : α) (f : α → β) (l : List α) (i : Nat) (h : i < l.length) : (l.map f).getD i e = f (l.getD i d) := by
  rw [getD_eq e _ i (by simpa using h), getD_eq d l i h, List.getElem_map]
/-- a list told from its end: what is left from place i on -/
theorem loopL {α : Type} (d : α) (l : List α) {P : Nat → List α → Prop} (h0 : P l.length []) (hs : ∀ i x r, i < l.length → l.getD i d = x → x ∈ l → l.drop (i + 1) = r → P (i + 1) r → P i (x :: r)) : P 0 l := by
  have key : ∀ (n i : Nat), i + n = l.length → P i (l.drop i) := fun n => by
    induction n with
    | zero =>
      intro i hi
      have e : i = l.length := by omega
      subst e; rw [List.drop_length]; exact h0
    | succ n ih =>
      intro i hi
      have hlt : i < l.length := by omega
      have e : l.drop i = l.getD i d :: l.drop (i + 1) := by rw [List.drop_eq_getElem_cons hlt, getD_eq d l i hlt]
      rw [e]
      exact hs i _ _ hlt rfl (mem_getD d l i hlt) rfl (ih (i + 1) (by omega))
  simpa using key l.length 0 (by omega)
/-- the element ahead of place i -/
def ahead {α : Type} (d : α) (l : List α) (i : Nat) : Option α := if i = 0 then none else some (l.getD (i - 1) d)
theorem ahead_zero {α : Type} (d : α) (l : List α) : ahead d l 0 = none := rfl
theorem ahead_succ {α : Type} (d : α) (l : List α) (i : Nat) : ahead d l (i + 1) = some (l.getD i d) := by simp [ahead]
theorem ahead_pos {α : Type} (d : α) (l : List α) (i : Nat) (h : ¬ i = 0) : ahead d l i = some (l.getD (i - 1) d) := if_neg h
/-! ### the order of bytes -/
theorem bl_irr : ∀ x : List UInt8, Op.bytesLess x x = false
  | [] => rfl
  | a :: x => by simp [Op.bytesLess, bl_irr x]
theorem bl_asym : ∀ x y : List UInt8, Op.bytesLess x y = true → Op.bytesLess y x = false
  | [], [], _ => rfl
  | [], _ :: _, _ => rfl
  | _ :: _, [], h => by simp [Op.bytesLess] at h
  | a :: x, b :: y, h => by
    simp only [Op.bytesLess, Bool.or_eq_true, Bool.and_eq_true, decide_eq_true_eq, beq_iff_eq] at h
    simp only [Op.bytesLess, Bool.or_eq_false_iff, Bool.and_eq_false_iff, decide_eq_false_iff_not, beq_eq_false_iff_ne]
    rcases h with h | ⟨rfl, h⟩
    · exact ⟨UInt8.lt_asymm h, .inl (fun e => by subst e; exact UInt8.lt_irrefl _ h)⟩
    · exact ⟨UInt8.lt_irrefl _, .inr (bl_asym x y h)⟩
theorem bl_tri : ∀ x y : List UInt8, Op.bytesLess x y = true ∨ x = y ∨ Op.bytesLess y x = true
  | [], [] => .inr (.inl rfl)
  | [], _ :: _ => .inl rfl
  | _ :: _, [] => .inr (.inr rfl)
  | a :: x, b :: y => by
    simp only [Op.bytesLess, Bool.or_eq_true, Bool.and_eq_true, decide_eq_true_eq, beq_iff_eq, List.cons.injEq]
    rcases UInt8.lt_or_lt_of_ne (a := a) (b := b) |> fun f => (Classical.em (a = b)).imp id f with rfl | h | h
    · rcases bl_tri x y with q | rfl | q
      · exact .inl (.inr ⟨rfl, q⟩)
      · exact .inr (.inl ⟨rfl, rfl⟩)
      · exact .inr (.inr (.inr ⟨rfl, q⟩))
    · exact .inl (.inl h)
    · exact .inr (.inr (.inl h))
theorem bl_trans : ∀ x y z : List UInt8, Op.bytesLess x y = true → Op.bytesLess y z = true → Op.bytesLess x z = true
  | [], _, _ :: _, _, _ => rfl
  | [], [], [], h, _ => h
  | [], _ :: _, [], _, h => by simp [Op.bytesLess] at h
  | _ :: _, [], _, h, _ => by simp [Op.bytesLess] at h
  | _ :: _, _ :: _, [], _, h => by simp [Op.bytesLess] at h
  | a :: x, b :: y, c :: z, h, k => by
    simp only [Op.bytesLess, Bool.or_eq_true, Bool.and_eq_true, decide_eq_true_eq, beq_iff_eq] at h k ⊢
    rcases h with h | ⟨rfl, h⟩
    · rcases k with k | ⟨rfl, k⟩
      · exact .inl (UInt8.lt_trans h k)
      · exact .inl h
    · rcases k with k | ⟨rfl, k⟩
      · exact .inl k
      · exact .inr ⟨rfl, bl_trans x y z h k⟩
theorem ba_ext {a b : ByteArray} (h : a.toList = b.toList) : a = b := by
  apply ByteArray.ext
  apply Array.ext'
  simpa [ByteArray.toList_eq] using h
theorem ba_iff {a b : ByteArray} : a.toList = b.toList ↔ a = b := ⟨ba_ext, fun h => h ▸ rfl⟩
/-- a text ahead of another -/
def lt (a b : ByteArray) : Bool := Op.bytesLess a.toList b.toList
theorem lt_irr (a : ByteArray) : lt a a = false := bl_irr _
theorem lt_asym {a b : ByteArray} (h : lt a b = true) : lt b a = false := bl_asym _ _ h
theorem lt_trans {a b c : ByteArray} (h : lt a b = true) (k : lt b c = true) : lt a c = true := bl_trans _ _ _ h k
theorem lt_tri (a b : ByteArray) : lt a b = true ∨ a = b ∨ lt b a = true := (bl_tri a.toList b.toList).imp id (·.imp ba_ext id)
theorem lt_ne {a b : ByteArray} (h : lt a b = true) : a ≠ b := fun e => by rw [e, lt_irr] at h; cases h
/-- pair by pair: the first, then the second -/
def befB (a0 a1 b0 b1 : ByteArray) : Bool := lt a0 b0 || (decide (a0 = b0) && lt a1 b1)
/-! ### marks: a text a number -/
theorem one_size (x : Int) : ((⟨#[UInt8.ofNat x.toNat]⟩ : ByteArray)).size = 1 := rfl
theorem markLoop_ev : ∀ (n : Nat) (x : Int) (s : ByteArray), 0 ≤ x → x.toNat ≤ n → x ≤ 4611686018427387904 → s.size + x.toNat ≤ 4611686018427387904 → ∃ r, Ev (fun k => laws_markText.l0 k x s) r
  | 0, x, s, h0, hn, hx, hs => ⟨(⟨#[109]⟩ : ByteArray) ++ s, by
      refine Ev.step (fun k => by rw [laws_markText.l0]) ?_
      exact ev_neg (by omega) (ev_pos (by show ((1 + s.size : Nat) : Int) ≤ _; omega) (ev_ret rfl))⟩
  | n + 1, x, s, h0, hn, hx, hs => by
    by_cases c : x > 0
    · have hd : Int.tdiv x 10 = x / 10 := Int.tdiv_eq_ediv_of_nonneg (by omega)
      have hw : wrap64 (Int.tdiv x 10) = x / 10 := by rw [hd]; unfold wrap64; omega
      obtain ⟨r, hr⟩ := markLoop_ev n (x / 10) ((⟨#[UInt8.ofNat (IntKind.wrap .u8 (wrap64 (48 + (Int.tmod x 10)))).toNat]⟩ : ByteArray) ++ s) (by omega) (by omega) (by omega) (by rw [ByteArray.size_append, one_size]; omega)
      refine ⟨r, ?_⟩
      refine Ev.step (fun k => by rw [laws_markText.l0]) ?_
      refine ev_pos c ?_
      rw [hw]
      exact ev_pos (by rw [one_size]; omega) hr
    · refine ⟨(⟨#[109]⟩ : ByteArray) ++ s, ?_⟩
      refine Ev.step (fun k => by rw [laws_markText.l0]) ?_
      exact ev_neg c (ev_pos (by show ((1 + s.size : Nat) : Int) ≤ _; omega) (ev_ret rfl))
theorem markText_ex (x : Int) (h : x ≤ 1152921504606846976) : ∃ r, Ev (fun k => laws_markText.f k x) r := by
  unfold laws_markText.f
  by_cases c : x ≤ 0
  · exact ⟨_, ev_pos c (ev_ret rfl)⟩
  · obtain ⟨r, hr⟩ := markLoop_ev x.toNat x (⟨#[]⟩ : ByteArray) (by omega) (Nat.le_refl _) (by omega) (by show 0 + x.toNat ≤ _; omega)
    exact ⟨r, ev_neg c hr⟩
open Classical in
noncomputable def mtx (x : Int) : ByteArray := if h : x ≤ 1152921504606846976 then (markText_ex x h).choose else ByteArray.empty
theorem markText_ev (x : Int) (h : x ≤ 1152921504606846976) : Ev (fun k => laws_markText.f k x) (mtx x) := by
  unfold mtx
  rw [dif_pos h]
  exact (markText_ex x h).choose_spec
theorem range_map_getD {α : Type} (d : α) (n : Nat) (f : Nat → α) (i : Nat) (h : i < n) : ((List.range n).map f).getD i d = f i := by
  rw [List.getD_eq_getElem?_getD, List.getElem?_map, List.getElem?_range h]; rfl
/-! ### the laws' own words -/
theorem szStuffFoe_ev (x : S_laws_StuffFoe) (h : ok_laws_StuffFoe x) (a : Int) : ∃ q, Ev (fun k => laws_szStuffFoe.f x.f0 x.f1 a) q := by
  have h0 := h.1
  have h1 := h.2
  unfold laws_szStuffFoe.f
  repeat' (first | exact ex_ret | refine ex_ite ?_ ?_ | refine ex_bind ?_ (fun t => ?_))
theorem szStuffFoeS_ev (l : List S_laws_StuffFoe) (hl : l.length ≤ 140737488351232) (h : ∀ z ∈ l, ok_laws_StuffFoe z) (a : Int) : ∃ q, Ev (fun k => laws_szStuffFoeS.f k l a) q := by
  have key : ∀ b, ∃ q, Ev (fun k => laws_szStuffFoeS.l0 k l b 0) q := loopL z_laws_StuffFoe l (P := fun i _ => ∀ b, ∃ q, Ev (fun k => laws_szStuffFoeS.l0 k l b (i : Int)) q)
    (fun b => ex_step (fun k => by rw [laws_szStuffFoeS.l0]) ⟨_, ev_neg (by omega) (ev_ret rfl)⟩)
    (fun i x r hi hx hm _ ih b => ex_step (fun k => by rw [laws_szStuffFoeS.l0]) (ex_pos (by omega) (ex_pos (by omega) (by
      rw [wsucc hi (by omega)]
      refine ex_bind (by rw [show rd_laws_StuffFoe l (i : Int) = x from by unfold rd_laws_StuffFoe; simpa using hx]; exact szStuffFoe_ev x (h x hm) b) (fun t => ex_ite ex_ret (ih _))))))
  unfold laws_szStuffFoeS.f
  exact ex_ite ex_ret (key _)
theorem szStuffLot_ev (x : S_laws_StuffLot) (h : ok_laws_StuffLot x) (a : Int) : ∃ q, Ev (fun k => laws_szStuffLot.f x.f0 x.f1 a) q := by
  have h0 := h.1
  have h1 := h.2
  unfold laws_szStuffLot.f
  repeat' (first | exact ex_ret | refine ex_ite ?_ ?_ | refine ex_bind ?_ (fun t => ?_))
theorem szStuffLotS_ev (l : List S_laws_StuffLot) (hl : l.length ≤ 140737488351232) (h : ∀ z ∈ l, ok_laws_StuffLot z) (a : Int) : ∃ q, Ev (fun k => laws_szStuffLotS.f k l a) q := by
  have key : ∀ b, ∃ q, Ev (fun k => laws_szStuffLotS.l0 k l b 0) q := loopL z_laws_StuffLot l (P := fun i _ => ∀ b, ∃ q, Ev (fun k => laws_szStuffLotS.l0 k l b (i : Int)) q)
    (fun b => ex_step (fun k => by rw [laws_szStuffLotS.l0]) ⟨_, ev_neg (by omega) (ev_ret rfl)⟩)
    (fun i x r hi hx hm _ ih b => ex_step (fun k => by rw [laws_szStuffLotS.l0]) (ex_pos (by omega) (ex_pos (by omega) (by
      rw [wsucc hi (by omega)]
      refine ex_bind (by rw [show rd_laws_StuffLot l (i : Int) = x from by unfold rd_laws_StuffLot; simpa using hx]; exact szStuffLot_ev x (h x hm) b) (fun t => ex_ite ex_ret (ih _))))))
  unfold laws_szStuffLotS.f
  exact ex_ite ex_ret (key _)
theorem szStuffPart_ev (x : S_laws_StuffPart) (h : ok_laws_StuffPart x) (a : Int) : ∃ q, Ev (fun k => laws_szStuffPart.f x.f0 x.f1 a) q := by
  have h0 := h.1
  have h1 := h.2
  unfold laws_szStuffPart.f
  repeat' (first | exact ex_ret | refine ex_ite ?_ ?_ | refine ex_bind ?_ (fun t => ?_))
theorem szStuffPartS_ev (l : List S_laws_StuffPart) (hl : l.length ≤ 140737488351232) (h : ∀ z ∈ l, ok_laws_StuffPart z) (a : Int) : ∃ q, Ev (fun k => laws_szStuffPartS.f k l a) q := by
  have key : ∀ b, ∃ q, Ev (fun k => laws_szStuffPartS.l0 k l b 0) q := loopL z_laws_StuffPart l (P := fun i _ => ∀ b, ∃ q, Ev (fun k => laws_szStuffPartS.l0 k l b (i : Int)) q)
    (fun b => ex_step (fun k => by rw [laws_szStuffPartS.l0]) ⟨_, ev_neg (by omega) (ev_ret rfl)⟩)
    (fun i x r hi hx hm _ ih b => ex_step (fun k => by rw [laws_szStuffPartS.l0]) (ex_pos (by omega) (ex_pos (by omega) (by
      rw [wsucc hi (by omega)]
      refine ex_bind (by rw [show rd_laws_StuffPart l (i : Int) = x from by unfold rd_laws_StuffPart; simpa using hx]; exact szStuffPart_ev x (h x hm) b) (fun t => ex_ite ex_ret (ih _))))))
  unfold laws_szStuffPartS.f
  exact ex_ite ex_ret (key _)
theorem szStringS_ev (l : List ByteArray) (hl : l.length ≤ 140737488351232) (h : ∀ z ∈ l, z.size ≤ 140737488351232) (a : Int) : ∃ q, Ev (fun k => laws_szStringS.f k l a) q := by
  have key : ∀ b, ∃ q, Ev (fun k => laws_szStringS.l0 k l b 0) q := loopL ByteArray.empty l (P := fun i _ => ∀ b, ∃ q, Ev (fun k => laws_szStringS.l0 k l b (i : Int)) q)
    (fun b => ex_step (fun k => by rw [laws_szStringS.l0]) ⟨_, ev_neg (by omega) (ev_ret rfl)⟩)
    (fun i x r hi hx hm _ ih b => ex_step (fun k => by rw [laws_szStringS.l0]) (ex_pos (by omega) (ex_pos (by omega) (by
      rw [wsucc hi (by omega)]
      exact ex_ite ex_ret (ih _)))))
  unfold laws_szStringS.f
  exact ex_ite ex_ret (key _)
theorem szStuffVessel_ev (x : S_laws_StuffVessel) (h : ok_laws_StuffVessel x) (a : Int) : ∃ q, Ev (fun k => laws_szStuffVessel.f k x.f0 x.f1 x.f2 x.f3 a) q := by
  have h0 := h.1
  have h1 := h.2.1
  have h2 := h.2.2.1
  have h3 := h.2.2.2
  unfold laws_szStuffVessel.f
  repeat' (first | exact ex_ret | with_reducible exact szStuffPartS_ev _ (by have := h2.1; omega) (h2.2) _ | with_reducible exact szStringS_ev _ (by have := h3.1; omega) (h3.2) _ | refine ex_ite ?_ ?_ | refine ex_bind ?_ (fun t => ?_))
theorem szStuffVesselS_ev (l : List S_laws_StuffVessel) (hl : l.length ≤ 140737488351232) (h : ∀ z ∈ l, ok_laws_StuffVessel z) (a : Int) : ∃ q, Ev (fun k => laws_szStuffVesselS.f k l a) q := by
  have key : ∀ b, ∃ q, Ev (fun k => laws_szStuffVesselS.l0 k l b 0) q := loopL z_laws_StuffVessel l (P := fun i _ => ∀ b, ∃ q, Ev (fun k => laws_szStuffVesselS.l0 k l b (i : Int)) q)
    (fun b => ex_step (fun k => by rw [laws_szStuffVesselS.l0]) ⟨_, ev_neg (by omega) (ev_ret rfl)⟩)
    (fun i x r hi hx hm _ ih b => ex_step (fun k => by rw [laws_szStuffVesselS.l0]) (ex_pos (by omega) (ex_pos (by omega) (by
      rw [wsucc hi (by omega)]
      refine ex_bind (by rw [show rd_laws_StuffVessel l (i : Int) = x from by unfold rd_laws_StuffVessel; simpa using hx]; exact szStuffVessel_ev x (h x hm) b) (fun t => ex_ite ex_ret (ih _))))))
  unfold laws_szStuffVesselS.f
  exact ex_ite ex_ret (key _)
theorem szStuffOut_ev (x : S_laws_StuffOut) (h : ok_laws_StuffOut x) (a : Int) : ∃ q, Ev (fun k => laws_szStuffOut.f k x.f0 x.f1 x.f2 a) q := by
  have h0 := h.1
  have h1 := h.2.1
  have h2 := h.2.2
  unfold laws_szStuffOut.f
  repeat' (first | exact ex_ret | with_reducible exact szStuffPartS_ev _ (by have := h1.1; omega) (h1.2) _ | with_reducible exact szStringS_ev _ (by have := h2.1; omega) (h2.2) _ | refine ex_ite ?_ ?_ | refine ex_bind ?_ (fun t => ?_))
theorem szStuffOutS_ev (l : List S_laws_StuffOut) (hl : l.length ≤ 140737488351232) (h : ∀ z ∈ l, ok_laws_StuffOut z) (a : Int) : ∃ q, Ev (fun k => laws_szStuffOutS.f k l a) q := by
  have key : ∀ b, ∃ q, Ev (fun k => laws_szStuffOutS.l0 k l b 0) q := loopL z_laws_StuffOut l (P := fun i _ => ∀ b, ∃ q, Ev (fun k => laws_szStuffOutS.l0 k l b (i : Int)) q)
    (fun b => ex_step (fun k => by rw [laws_szStuffOutS.l0]) ⟨_, ev_neg (by omega) (ev_ret rfl)⟩)
    (fun i x r hi hx hm _ ih b => ex_step (fun k => by rw [laws_szStuffOutS.l0]) (ex_pos (by omega) (ex_pos (by omega) (by
      rw [wsucc hi (by omega)]
      refine ex_bind (by rw [show rd_laws_StuffOut l (i : Int) = x from by unfold rd_laws_StuffOut; simpa using hx]; exact szStuffOut_ev x (h x hm) b) (fun t => ex_ite ex_ret (ih _))))))
  unfold laws_szStuffOutS.f
  exact ex_ite ex_ret (key _)
theorem szStuffBook_ev (x : S_laws_StuffBook) (h : ok_laws_StuffBook x) (a : Int) : ∃ q, Ev (fun k => laws_szStuffBook.f k x.f0 x.f1 x.f2 x.f3 a) q := by
  have h0 := h.1
  have h1 := h.2.1
  have h2 := h.2.2.1
  have h3 := h.2.2.2
  unfold laws_szStuffBook.f
  repeat' (first | exact ex_ret | with_reducible exact szStuffFoeS_ev _ (by have := h0.1; omega) (h0.2) _ | with_reducible exact szStuffLotS_ev _ (by have := h1.1; omega) (h1.2) _ | with_reducible exact szStuffVesselS_ev _ (by have := h2.1; omega) (h2.2) _ | with_reducible exact szStuffOutS_ev _ (by have := h3.1; omega) (h3.2) _ | refine ex_ite ?_ ?_ | refine ex_bind ?_ (fun t => ?_))
def cv_laws_StuffFoe (x : S_laws_StuffFoe) : S_impl_StuffFoe := ⟨x.f0, x.f1⟩
theorem toStuffFoe_ev (x : S_laws_StuffFoe) (h : ok_laws_StuffFoe x) : Ev (fun k => laws_toStuffFoe.f x.f0 x.f1) ((cv_laws_StuffFoe x).f0, (cv_laws_StuffFoe x).f1) := by
  have h0 := h.1
  have h1 := h.2
  unfold laws_toStuffFoe.f
  repeat' (first | exact ev_ret rfl)
theorem toStuffFoeS_ev (l : List S_laws_StuffFoe) (hl : l.length ≤ 4398046511104) (h : ∀ z ∈ l, ok_laws_StuffFoe z) : Ev (fun k => laws_toStuffFoeS.f k l) (l.map cv_laws_StuffFoe) := by
  unfold laws_toStuffFoeS.f
  refine ev_pos (by omega) ?_
  refine loopL z_laws_StuffFoe l (P := fun i _ => ∀ y : List S_impl_StuffFoe, y.length = l.length → (∀ j, j < i → y.getD j z_impl_StuffFoe = (l.map cv_laws_StuffFoe).getD j z_impl_StuffFoe) → Ev (fun k => laws_toStuffFoeS.l0 k l y (i : Int)) (l.map cv_laws_StuffFoe))
    (fun y hyl hy => by
      obtain rfl := fill_end z_impl_StuffFoe (l.map cv_laws_StuffFoe) y (by simpa using hyl) (fun j hj => hy j (by simpa using hj))
      refine Ev.step (fun k => by rw [laws_toStuffFoeS.l0]) (ev_neg (by omega) (ev_ret rfl)))
    (fun i x r hi hx hm _ ih y hyl hy => by
      refine Ev.step (fun k => by rw [laws_toStuffFoeS.l0]) (ev_pos (by omega) (ev_pos (by omega) ?_))
      rw [wsucc hi (by omega), Int.toNat_natCast, show rd_laws_StuffFoe l (i : Int) = x from by unfold rd_laws_StuffFoe; simpa using hx]
      refine Ev.bind (toStuffFoe_ev x (h x hm)) (ev_pos (by omega) ?_)
      obtain ⟨h1, h2⟩ := fill_step z_impl_StuffFoe (l.map cv_laws_StuffFoe) y i (by simpa using hyl) (by simpa using hi) hy (cv_laws_StuffFoe x) (by rw [map_getD z_impl_StuffFoe z_laws_StuffFoe _ l i hi, hx])
      exact ih _ (by rw [h1]; simp) h2) _ (by simp) (fun j hj => absurd hj (Nat.not_lt_zero _))
def cv_laws_StuffLot (x : S_laws_StuffLot) : S_impl_StuffLot := ⟨x.f0, x.f1⟩
theorem toStuffLot_ev (x : S_laws_StuffLot) (h : ok_laws_StuffLot x) : Ev (fun k => laws_toStuffLot.f x.f0 x.f1) ((cv_laws_StuffLot x).f0, (cv_laws_StuffLot x).f1) := by
  have h0 := h.1
  have h1 := h.2
  unfold laws_toStuffLot.f
  repeat' (first | exact ev_ret rfl)
theorem toStuffLotS_ev (l : List S_laws_StuffLot) (hl : l.length ≤ 4398046511104) (h : ∀ z ∈ l, ok_laws_StuffLot z) : Ev (fun k => laws_toStuffLotS.f k l) (l.map cv_laws_StuffLot) := by
  unfold laws_toStuffLotS.f
  refine ev_pos (by omega) ?_
  refine loopL z_laws_StuffLot l (P := fun i _ => ∀ y : List S_impl_StuffLot, y.length = l.length → (∀ j, j < i → y.getD j z_impl_StuffLot = (l.map cv_laws_StuffLot).getD j z_impl_StuffLot) → Ev (fun k => laws_toStuffLotS.l0 k l y (i : Int)) (l.map cv_laws_StuffLot))
    (fun y hyl hy => by
      obtain rfl := fill_end z_impl_StuffLot (l.map cv_laws_StuffLot) y (by simpa using hyl) (fun j hj => hy j (by simpa using hj))
      refine Ev.step (fun k => by rw [laws_toStuffLotS.l0]) (ev_neg (by omega) (ev_ret rfl)))
    (fun i x r hi hx hm _ ih y hyl hy => by
      refine Ev.step (fun k => by rw [laws_toStuffLotS.l0]) (ev_pos (by omega) (ev_pos (by omega) ?_))
      rw [wsucc hi (by omega), Int.toNat_natCast, show rd_laws_StuffLot l (i : Int) = x from by unfold rd_laws_StuffLot; simpa using hx]
      refine Ev.bind (toStuffLot_ev x (h x hm)) (ev_pos (by omega) ?_)
      obtain ⟨h1, h2⟩ := fill_step z_impl_StuffLot (l.map cv_laws_StuffLot) y i (by simpa using hyl) (by simpa using hi) hy (cv_laws_StuffLot x) (by rw [map_getD z_impl_StuffLot z_laws_StuffLot _ l i hi, hx])
      exact ih _ (by rw [h1]; simp) h2) _ (by simp) (fun j hj => absurd hj (Nat.not_lt_zero _))
def cv_laws_StuffPart (x : S_laws_StuffPart) : S_impl_StuffPart := ⟨x.f0, x.f1⟩
theorem toStuffPart_ev (x : S_laws_StuffPart) (h : ok_laws_StuffPart x) : Ev (fun k => laws_toStuffPart.f x.f0 x.f1) ((cv_laws_StuffPart x).f0, (cv_laws_StuffPart x).f1) := by
  have h0 := h.1
  have h1 := h.2
  unfold laws_toStuffPart.f
  repeat' (first | exact ev_ret rfl)
theorem toStuffPartS_ev (l : List S_laws_StuffPart) (hl : l.length ≤ 5864062014805) (h : ∀ z ∈ l, ok_laws_StuffPart z) : Ev (fun k => laws_toStuffPartS.f k l) (l.map cv_laws_StuffPart) := by
  unfold laws_toStuffPartS.f
  refine ev_pos (by omega) ?_
  refine loopL z_laws_StuffPart l (P := fun i _ => ∀ y : List S_impl_StuffPart, y.length = l.length → (∀ j, j < i → y.getD j z_impl_StuffPart = (l.map cv_laws_StuffPart).getD j z_impl_StuffPart) → Ev (fun k => laws_toStuffPartS.l0 k l y (i : Int)) (l.map cv_laws_StuffPart))
    (fun y hyl hy => by
      obtain rfl := fill_end z_impl_StuffPart (l.map cv_laws_StuffPart) y (by simpa using hyl) (fun j hj => hy j (by simpa using hj))
      refine Ev.step (fun k => by rw [laws_toStuffPartS.l0]) (ev_neg (by omega) (ev_ret rfl)))
    (fun i x r hi hx hm _ ih y hyl hy => by
      refine Ev.step (fun k => by rw [laws_toStuffPartS.l0]) (ev_pos (by omega) (ev_pos (by omega) ?_))
      rw [wsucc hi (by omega), Int.toNat_natCast, show rd_laws_StuffPart l (i : Int) = x from by unfold rd_laws_StuffPart; simpa using hx]
      refine Ev.bind (toStuffPart_ev x (h x hm)) (ev_pos (by omega) ?_)
      obtain ⟨h1, h2⟩ := fill_step z_impl_StuffPart (l.map cv_laws_StuffPart) y i (by simpa using hyl) (by simpa using hi) hy (cv_laws_StuffPart x) (by rw [map_getD z_impl_StuffPart z_laws_StuffPart _ l i hi, hx])
      exact ih _ (by rw [h1]; simp) h2) _ (by simp) (fun j hj => absurd hj (Nat.not_lt_zero _))
theorem toStringS_ev (l : List ByteArray) (hl : l.length ≤ 8796093022208) : Ev (fun k => laws_toStringS.f k l) l := by
  unfold laws_toStringS.f
  refine ev_pos (by omega) ?_
  refine loopL ByteArray.empty l (P := fun i _ => ∀ y : List ByteArray, y.length = l.length → (∀ j, j < i → y.getD j ByteArray.empty = l.getD j ByteArray.empty) → Ev (fun k => laws_toStringS.l0 k l y (i : Int)) l)
    (fun y hyl hy => by
      obtain rfl := fill_end ByteArray.empty l y hyl (fun j hj => hy j hj)
      refine Ev.step (fun k => by rw [laws_toStringS.l0]) (ev_neg (by omega) (ev_ret rfl)))
    (fun i x r hi hx hm _ ih y hyl hy => by
      refine Ev.step (fun k => by rw [laws_toStringS.l0]) (ev_pos (by omega) (ev_pos (by omega) (ev_pos (by omega) ?_)))
      rw [wsucc hi (by omega), Int.toNat_natCast, rdOf_nat]
      obtain ⟨h1, h2⟩ := fill_step ByteArray.empty l y i hyl hi hy (l.getD i ByteArray.empty) rfl
      exact ih _ h1 h2) _ (by simp) (fun j hj => absurd hj (Nat.not_lt_zero _))
def cv_laws_StuffVessel (x : S_laws_StuffVessel) : S_impl_StuffVessel := ⟨x.f0, x.f1, x.f2.map cv_laws_StuffPart, x.f3⟩
theorem toStuffVessel_ev (x : S_laws_StuffVessel) (h : ok_laws_StuffVessel x) : Ev (fun k => laws_toStuffVessel.f k x.f0 x.f1 x.f2 x.f3) ((cv_laws_StuffVessel x).f0, (cv_laws_StuffVessel x).f1, (cv_laws_StuffVessel x).f2, (cv_laws_StuffVessel x).f3) := by
  have h0 := h.1
  have h1 := h.2.1
  have h2 := h.2.2.1
  have h3 := h.2.2.2
  unfold laws_toStuffVessel.f
  repeat' (first | with_reducible refine Ev.bind (toStuffPartS_ev _ (by have := h2.1; omega) h2.2) ?_ | with_reducible refine Ev.bind (toStringS_ev _ (by have := h3.1; omega)) ?_ | exact ev_ret rfl)
theorem toStuffVesselS_ev (l : List S_laws_StuffVessel) (hl : l.length ≤ 1954687338268) (h : ∀ z ∈ l, ok_laws_StuffVessel z) : Ev (fun k => laws_toStuffVesselS.f k l) (l.map cv_laws_StuffVessel) := by
  unfold laws_toStuffVesselS.f
  refine ev_pos (by omega) ?_
  refine loopL z_laws_StuffVessel l (P := fun i _ => ∀ y : List S_impl_StuffVessel, y.length = l.length → (∀ j, j < i → y.getD j z_impl_StuffVessel = (l.map cv_laws_StuffVessel).getD j z_impl_StuffVessel) → Ev (fun k => laws_toStuffVesselS.l0 k l y (i : Int)) (l.map cv_laws_StuffVessel))
    (fun y hyl hy => by
      obtain rfl := fill_end z_impl_StuffVessel (l.map cv_laws_StuffVessel) y (by simpa using hyl) (fun j hj => hy j (by simpa using hj))
      refine Ev.step (fun k => by rw [laws_toStuffVesselS.l0]) (ev_neg (by omega) (ev_ret rfl)))
    (fun i x r hi hx hm _ ih y hyl hy => by
      refine Ev.step (fun k => by rw [laws_toStuffVesselS.l0]) (ev_pos (by omega) (ev_pos (by omega) ?_))
      rw [wsucc hi (by omega), Int.toNat_natCast, show rd_laws_StuffVessel l (i : Int) = x from by unfold rd_laws_StuffVessel; simpa using hx]
      refine Ev.bind (toStuffVessel_ev x (h x hm)) (ev_pos (by omega) ?_)
      obtain ⟨h1, h2⟩ := fill_step z_impl_StuffVessel (l.map cv_laws_StuffVessel) y i (by simpa using hyl) (by simpa using hi) hy (cv_laws_StuffVessel x) (by rw [map_getD z_impl_StuffVessel z_laws_StuffVessel _ l i hi, hx])
      exact ih _ (by rw [h1]; simp) h2) _ (by simp) (fun j hj => absurd hj (Nat.not_lt_zero _))
def cv_laws_StuffOut (x : S_laws_StuffOut) : S_impl_StuffOut := ⟨x.f0, x.f1.map cv_laws_StuffPart, x.f2⟩
theorem toStuffOut_ev (x : S_laws_StuffOut) (h : ok_laws_StuffOut x) : Ev (fun k => laws_toStuffOut.f k x.f0 x.f1 x.f2) ((cv_laws_StuffOut x).f0, (cv_laws_StuffOut x).f1, (cv_laws_StuffOut x).f2) := by
  have h0 := h.1
  have h1 := h.2.1
  have h2 := h.2.2
  unfold laws_toStuffOut.f
  repeat' (first | with_reducible refine Ev.bind (toStuffPartS_ev _ (by have := h1.1; omega) h1.2) ?_ | with_reducible refine Ev.bind (toStringS_ev _ (by have := h2.1; omega)) ?_ | exact ev_ret rfl)
theorem toStuffOutS_ev (l : List S_laws_StuffOut) (hl : l.length ≤ 2199023255552) (h : ∀ z ∈ l, ok_laws_StuffOut z) : Ev (fun k => laws_toStuffOutS.f k l) (l.map cv_laws_StuffOut) := by
  unfold laws_toStuffOutS.f
  refine ev_pos (by omega) ?_
  refine loopL z_laws_StuffOut l (P := fun i _ => ∀ y : List S_impl_StuffOut, y.length = l.length → (∀ j, j < i → y.getD j z_impl_StuffOut = (l.map cv_laws_StuffOut).getD j z_impl_StuffOut) → Ev (fun k => laws_toStuffOutS.l0 k l y (i : Int)) (l.map cv_laws_StuffOut))
    (fun y hyl hy => by
      obtain rfl := fill_end z_impl_StuffOut (l.map cv_laws_StuffOut) y (by simpa using hyl) (fun j hj => hy j (by simpa using hj))
      refine Ev.step (fun k => by rw [laws_toStuffOutS.l0]) (ev_neg (by omega) (ev_ret rfl)))
    (fun i x r hi hx hm _ ih y hyl hy => by
      refine Ev.step (fun k => by rw [laws_toStuffOutS.l0]) (ev_pos (by omega) (ev_pos (by omega) ?_))
      rw [wsucc hi (by omega), Int.toNat_natCast, show rd_laws_StuffOut l (i : Int) = x from by unfold rd_laws_StuffOut; simpa using hx]
      refine Ev.bind (toStuffOut_ev x (h x hm)) (ev_pos (by omega) ?_)
      obtain ⟨h1, h2⟩ := fill_step z_impl_StuffOut (l.map cv_laws_StuffOut) y i (by simpa using hyl) (by simpa using hi) hy (cv_laws_StuffOut x) (by rw [map_getD z_impl_StuffOut z_laws_StuffOut _ l i hi, hx])
      exact ih _ (by rw [h1]; simp) h2) _ (by simp) (fun j hj => absurd hj (Nat.not_lt_zero _))
theorem toStuffBook_ev (x : S_laws_StuffBook) (h : ok_laws_StuffBook x) : Ev (fun k => laws_toStuffBook.f k x.f0 x.f1 x.f2 x.f3) (x.f0.map cv_laws_StuffFoe, x.f1.map cv_laws_StuffLot, x.f2.map cv_laws_StuffVessel, x.f3.map cv_laws_StuffOut) := by
  have h0 := h.1
  have h1 := h.2.1
  have h2 := h.2.2.1
  have h3 := h.2.2.2
  unfold laws_toStuffBook.f
  repeat' (first | with_reducible refine Ev.bind (toStuffFoeS_ev _ (by have := h0.1; omega) h0.2) ?_ | with_reducible refine Ev.bind (toStuffLotS_ev _ (by have := h1.1; omega) h1.2) ?_ | with_reducible refine Ev.bind (toStuffVesselS_ev _ (by have := h2.1; omega) h2.2) ?_ | with_reducible refine Ev.bind (toStuffOutS_ev _ (by have := h3.1; omega) h3.2) ?_ | exact ev_ret rfl)
theorem eqStringS_ev (l : List ByteArray) (hl : l.length ≤ 140737488351232) : Ev (fun k => laws_eqStringS.f k l l) true := by
  unfold laws_eqStringS.f
  refine ev_pos rfl ?_
  refine loopL ByteArray.empty l (P := fun i _ => Ev (fun k => laws_eqStringS.l0 k l l (i : Int)) true)
    (Ev.step (fun k => by rw [laws_eqStringS.l0]) (ev_neg (by omega) (ev_ret rfl)))
    (fun i x r hi hx hm _ ih => Ev.step (fun k => by rw [laws_eqStringS.l0]) (ev_pos (by omega) (ev_pos (by omega) (ev_pos (by omega) (by
      rw [wsucc hi (by omega)]
      exact ev_pos rfl ih)))))
def ok_impl_StuffFoe (y : S_impl_StuffFoe) : Prop := (y.f0.size ≤ 140737488351232) ∧ (y.f1.size ≤ 140737488351232)
theorem eqStuffFoe_ev (x : S_impl_StuffFoe) (h : ok_impl_StuffFoe x) : Ev (fun k => laws_eqStuffFoe.f x.f0 x.f1 x.f0 x.f1) true := by
  have h0 := h.1
  have h1 := h.2
  unfold laws_eqStuffFoe.f
  repeat' (first | exact ev_ret rfl | refine ev_pos rfl ?_ | refine ev_neg (by simp) ?_)
theorem eqStuffFoeS_ev (l : List S_impl_StuffFoe) (hl : l.length ≤ 140737488351232) (h : ∀ z ∈ l, ok_impl_StuffFoe z) : Ev (fun k => laws_eqStuffFoeS.f k l l) true := by
  unfold laws_eqStuffFoeS.f
  refine ev_pos rfl ?_
  refine loopL z_impl_StuffFoe l (P := fun i _ => Ev (fun k => laws_eqStuffFoeS.l0 k l l (i : Int)) true)
    (Ev.step (fun k => by rw [laws_eqStuffFoeS.l0]) (ev_neg (by omega) (ev_ret rfl)))
    (fun i x r hi hx hm _ ih => Ev.step (fun k => by rw [laws_eqStuffFoeS.l0]) (ev_pos (by omega) (ev_pos (by omega) (ev_pos (by omega) (by
      rw [wsucc hi (by omega)]
      rw [show rd_impl_StuffFoe l (i : Int) = x from by unfold rd_impl_StuffFoe; simpa using hx]
      exact Ev.bind (eqStuffFoe_ev x (h x hm)) (ev_pos rfl ih))))))
def ok_impl_StuffLot (y : S_impl_StuffLot) : Prop := (y.f0.size ≤ 140737488351232) ∧ (y.f1.size ≤ 140737488351232)
theorem eqStuffLot_ev (x : S_impl_StuffLot) (h : ok_impl_StuffLot x) : Ev (fun k => laws_eqStuffLot.f x.f0 x.f1 x.f0 x.f1) true := by
  have h0 := h.1
  have h1 := h.2
  unfold laws_eqStuffLot.f
  repeat' (first | exact ev_ret rfl | refine ev_pos rfl ?_ | refine ev_neg (by simp) ?_)
theorem eqStuffLotS_ev (l : List S_impl_StuffLot) (hl : l.length ≤ 140737488351232) (h : ∀ z ∈ l, ok_impl_StuffLot z) : Ev (fun k => laws_eqStuffLotS.f k l l) true := by
  unfold laws_eqStuffLotS.f
  refine ev_pos rfl ?_
  refine loopL z_impl_StuffLot l (P := fun i _ => Ev (fun k => laws_eqStuffLotS.l0 k l l (i : Int)) true)
    (Ev.step (fun k => by rw [laws_eqStuffLotS.l0]) (ev_neg (by omega) (ev_ret rfl)))
    (fun i x r hi hx hm _ ih => Ev.step (fun k => by rw [laws_eqStuffLotS.l0]) (ev_pos (by omega) (ev_pos (by omega) (ev_pos (by omega) (by
      rw [wsucc hi (by omega)]
      rw [show rd_impl_StuffLot l (i : Int) = x from by unfold rd_impl_StuffLot; simpa using hx]
      exact Ev.bind (eqStuffLot_ev x (h x hm)) (ev_pos rfl ih))))))
def ok_impl_StuffPart (y : S_impl_StuffPart) : Prop := (y.f0.size ≤ 140737488351232) ∧ ((Lit.int .i64 y.f1).wf = true)
theorem eqStuffPart_ev (x : S_impl_StuffPart) (h : ok_impl_StuffPart x) : Ev (fun k => laws_eqStuffPart.f x.f0 x.f1 x.f0 x.f1) true := by
  have h0 := h.1
  have h1 := h.2
  unfold laws_eqStuffPart.f
  repeat' (first | exact ev_ret rfl | refine ev_pos rfl ?_ | refine ev_neg (by simp) ?_)
theorem eqStuffPartS_ev (l : List S_impl_StuffPart) (hl : l.length ≤ 140737488351232) (h : ∀ z ∈ l, ok_impl_StuffPart z) : Ev (fun k => laws_eqStuffPartS.f k l l) true := by
  unfold laws_eqStuffPartS.f
  refine ev_pos rfl ?_
  refine loopL z_impl_StuffPart l (P := fun i _ => Ev (fun k => laws_eqStuffPartS.l0 k l l (i : Int)) true)
    (Ev.step (fun k => by rw [laws_eqStuffPartS.l0]) (ev_neg (by omega) (ev_ret rfl)))
    (fun i x r hi hx hm _ ih => Ev.step (fun k => by rw [laws_eqStuffPartS.l0]) (ev_pos (by omega) (ev_pos (by omega) (ev_pos (by omega) (by
      rw [wsucc hi (by omega)]
      rw [show rd_impl_StuffPart l (i : Int) = x from by unfold rd_impl_StuffPart; simpa using hx]
      exact Ev.bind (eqStuffPart_ev x (h x hm)) (ev_pos rfl ih))))))
def ok_impl_StuffVessel (y : S_impl_StuffVessel) : Prop := (y.f0.size ≤ 140737488351232) ∧ ((Lit.int .i64 y.f1).wf = true) ∧ ((y.f2.length ≤ 9223372036854775807 ∧ y.f2.length * 24 ≤ 140737488351232) ∧ ∀ z ∈ y.f2, ok_impl_StuffPart z) ∧ ((y.f3.length ≤ 9223372036854775807 ∧ y.f3.length * 16 ≤ 140737488351232) ∧ ∀ z ∈ y.f3, z.size ≤ 140737488351232)
theorem eqStuffVessel_ev (x : S_impl_StuffVessel) (h : ok_impl_StuffVessel x) : Ev (fun k => laws_eqStuffVessel.f k x.f0 x.f1 x.f2 x.f3 x.f0 x.f1 x.f2 x.f3) true := by
  have h0 := h.1
  have h1 := h.2.1
  have h2 := h.2.2.1
  have h3 := h.2.2.2
  unfold laws_eqStuffVessel.f
  repeat' (first | with_reducible refine Ev.bind (eqStuffPartS_ev _ (by have := h2.1; omega) h2.2) ?_ | with_reducible refine Ev.bind (eqStringS_ev _ (by have := h3.1; omega)) ?_ | exact ev_ret rfl | refine ev_pos rfl ?_ | refine ev_neg (by simp) ?_)
theorem eqStuffVesselS_ev (l : List S_impl_StuffVessel) (hl : l.length ≤ 140737488351232) (h : ∀ z ∈ l, ok_impl_StuffVessel z) : Ev (fun k => laws_eqStuffVesselS.f k l l) true := by
  unfold laws_eqStuffVesselS.f
  refine ev_pos rfl ?_
  refine loopL z_impl_StuffVessel l (P := fun i _ => Ev (fun k => laws_eqStuffVesselS.l0 k l l (i : Int)) true)
    (Ev.step (fun k => by rw [laws_eqStuffVesselS.l0]) (ev_neg (by omega) (ev_ret rfl)))
    (fun i x r hi hx hm _ ih => Ev.step (fun k => by rw [laws_eqStuffVesselS.l0]) (ev_pos (by omega) (ev_pos (by omega) (ev_pos (by omega) (by
      rw [wsucc hi (by omega)]
      rw [show rd_impl_StuffVessel l (i : Int) = x from by unfold rd_impl_StuffVessel; simpa using hx]
      exact Ev.bind (eqStuffVessel_ev x (h x hm)) (ev_pos rfl ih))))))
def ok_impl_StuffOut (y : S_impl_StuffOut) : Prop := (y.f0.size ≤ 140737488351232) ∧ ((y.f1.length ≤ 9223372036854775807 ∧ y.f1.length * 24 ≤ 140737488351232) ∧ ∀ z ∈ y.f1, ok_impl_StuffPart z) ∧ ((y.f2.length ≤ 9223372036854775807 ∧ y.f2.length * 16 ≤ 140737488351232) ∧ ∀ z ∈ y.f2, z.size ≤ 140737488351232)
theorem eqStuffOut_ev (x : S_impl_StuffOut) (h : ok_impl_StuffOut x) : Ev (fun k => laws_eqStuffOut.f k x.f0 x.f1 x.f2 x.f0 x.f1 x.f2) true := by
  have h0 := h.1
  have h1 := h.2.1
  have h2 := h.2.2
  unfold laws_eqStuffOut.f
  repeat' (first | with_reducible refine Ev.bind (eqStuffPartS_ev _ (by have := h1.1; omega) h1.2) ?_ | with_reducible refine Ev.bind (eqStringS_ev _ (by have := h2.1; omega)) ?_ | exact ev_ret rfl | refine ev_pos rfl ?_ | refine ev_neg (by simp) ?_)
theorem eqStuffOutS_ev (l : List S_impl_StuffOut) (hl : l.length ≤ 140737488351232) (h : ∀ z ∈ l, ok_impl_StuffOut z) : Ev (fun k => laws_eqStuffOutS.f k l l) true := by
  unfold laws_eqStuffOutS.f
  refine ev_pos rfl ?_
  refine loopL z_impl_StuffOut l (P := fun i _ => Ev (fun k => laws_eqStuffOutS.l0 k l l (i : Int)) true)
    (Ev.step (fun k => by rw [laws_eqStuffOutS.l0]) (ev_neg (by omega) (ev_ret rfl)))
    (fun i x r hi hx hm _ ih => Ev.step (fun k => by rw [laws_eqStuffOutS.l0]) (ev_pos (by omega) (ev_pos (by omega) (ev_pos (by omega) (by
      rw [wsucc hi (by omega)]
      rw [show rd_impl_StuffOut l (i : Int) = x from by unfold rd_impl_StuffOut; simpa using hx]
      exact Ev.bind (eqStuffOut_ev x (h x hm)) (ev_pos rfl ih))))))
theorem eqStuffBook_ev (x0 : List S_impl_StuffFoe) (x1 : List S_impl_StuffLot) (x2 : List S_impl_StuffVessel) (x3 : List S_impl_StuffOut) (h0 : (x0.length ≤ 9223372036854775807 ∧ x0.length * 32 ≤ 140737488351232) ∧ ∀ z ∈ x0, ok_impl_StuffFoe z) (h1 : (x1.length ≤ 9223372036854775807 ∧ x1.length * 32 ≤ 140737488351232) ∧ ∀ z ∈ x1, ok_impl_StuffLot z) (h2 : (x2.length ≤ 9223372036854775807 ∧ x2.length * 72 ≤ 140737488351232) ∧ ∀ z ∈ x2, ok_impl_StuffVessel z) (h3 : (x3.length ≤ 9223372036854775807 ∧ x3.length * 64 ≤ 140737488351232) ∧ ∀ z ∈ x3, ok_impl_StuffOut z) : Ev (fun k => laws_eqStuffBook.f k x0 x1 x2 x3 x0 x1 x2 x3) true := by
  unfold laws_eqStuffBook.f
  repeat' (first | with_reducible refine Ev.bind (eqStuffFoeS_ev _ (by have := h0.1; omega) h0.2) ?_ | with_reducible refine Ev.bind (eqStuffLotS_ev _ (by have := h1.1; omega) h1.2) ?_ | with_reducible refine Ev.bind (eqStuffVesselS_ev _ (by have := h2.1; omega) h2.2) ?_ | with_reducible refine Ev.bind (eqStuffOutS_ev _ (by have := h3.1; omega) h3.2) ?_ | exact ev_ret rfl | refine ev_pos rfl ?_ | refine ev_neg (by simp) ?_)
noncomputable def mk_StuffFoeS (n : Nat) (a : Int) : List S_impl_StuffFoe := (List.range n).map fun (i : Nat) => ⟨mtx (a + 2 * (i : Int)), mtx (a + 2 * (i : Int) + 1)⟩
theorem mk_StuffFoeS_length (n : Nat) (a : Int) : (mk_StuffFoeS n a).length = n := by simp [mk_StuffFoeS]
theorem markStuffFoeS_ev (l : List S_impl_StuffFoe) (a : Int) (ha : 0 ≤ a) (hb : a ≤ 281474976710656) (hn : l.length ≤ 140737488351232) : Ev (fun k => laws_markStuffFoeS.f k l a) (a + 2 * (l.length : Int), mk_StuffFoeS l.length a) := by
  unfold laws_markStuffFoeS.f
  have key := loopL z_impl_StuffFoe l (P := fun i _ => ∀ y : List S_impl_StuffFoe, y.length = l.length → (∀ j, j < i → y.getD j z_impl_StuffFoe = (mk_StuffFoeS l.length a).getD j z_impl_StuffFoe) → Ev (fun k => laws_markStuffFoeS.l0 k l (a + 2 * (i : Int)) (i : Int) y) (a + 2 * (l.length : Int), mk_StuffFoeS l.length a))
    (fun y hyl hy => by
      obtain rfl := fill_end z_impl_StuffFoe (mk_StuffFoeS l.length a) y (by rw [mk_StuffFoeS_length]; exact hyl) (fun j hj => hy j (by rwa [mk_StuffFoeS_length] at hj))
      exact Ev.step (fun k => by rw [laws_markStuffFoeS.l0]) (ev_pos hyl (ev_neg (by omega) (ev_ret rfl))))
    (fun i x r hi hx hm _ ih y hyl hy => by
      obtain ⟨h1, h2⟩ := fill_step z_impl_StuffFoe (mk_StuffFoeS l.length a) y i (by rw [mk_StuffFoeS_length]; exact hyl) (by rw [mk_StuffFoeS_length]; exact hi) hy _ (range_map_getD _ _ _ i hi).symm
      have hk := ih _ (by simpa using hyl) h2
      have hbd : 0 ≤ a + 2 * (i : Int) ∧ a + 2 * (i : Int) ≤ 1125899906842624 := by omega
      have e : a + 2 * ((i + 1 : Nat) : Int) = a + 2 * (i : Int) + 1 + 1 := by omega
      rw [e] at hk
      clear h1 h2 hy e ih
      generalize a + 2 * (i : Int) = b at hk hbd ⊢
      refine Ev.step (fun k => by rw [laws_markStuffFoeS.l0]) (ev_pos hyl (ev_pos (by omega) ?_))
      have w1 : wrap64 (b + 1) = b + 1 := by unfold wrap64; omega
      have w2 : wrap64 (b + 1 + 1) = b + 1 + 1 := by unfold wrap64; omega
      simp only [w1, w2, wsucc hi (by omega : l.length ≤ 9223372036854775807), Int.toNat_natCast]
      repeat' (first | with_reducible exact hk | with_reducible refine Ev.bind (markText_ev _ (by omega)) ?_ | refine ev_pos (by omega) ?_))
  simpa using key l rfl (fun j hj => absurd hj (Nat.not_lt_zero _))
noncomputable def mk_StuffLotS (n : Nat) (a : Int) : List S_impl_StuffLot := (List.range n).map fun (i : Nat) => ⟨mtx (a + 2 * (i : Int)), mtx (a + 2 * (i : Int) + 1)⟩
theorem mk_StuffLotS_length (n : Nat) (a : Int) : (mk_StuffLotS n a).length = n := by simp [mk_StuffLotS]
theorem markStuffLotS_ev (l : List S_impl_StuffLot) (a : Int) (ha : 0 ≤ a) (hb : a ≤ 281474976710656) (hn : l.length ≤ 140737488351232) : Ev (fun k => laws_markStuffLotS.f k l a) (a + 2 * (l.length : Int), mk_StuffLotS l.length a) := by
  unfold laws_markStuffLotS.f
  have key := loopL z_impl_StuffLot l (P := fun i _ => ∀ y : List S_impl_StuffLot, y.length = l.length → (∀ j, j < i → y.getD j z_impl_StuffLot = (mk_StuffLotS l.length a).getD j z_impl_StuffLot) → Ev (fun k => laws_markStuffLotS.l0 k l (a + 2 * (i : Int)) (i : Int) y) (a + 2 * (l.length : Int), mk_StuffLotS l.length a))
    (fun y hyl hy => by
      obtain rfl := fill_end z_impl_StuffLot (mk_StuffLotS l.length a) y (by rw [mk_StuffLotS_length]; exact hyl) (fun j hj => hy j (by rwa [mk_StuffLotS_length] at hj))
      exact Ev.step (fun k => by rw [laws_markStuffLotS.l0]) (ev_pos hyl (ev_neg (by omega) (ev_ret rfl))))
    (fun i x r hi hx hm _ ih y hyl hy => by
      obtain ⟨h1, h2⟩ := fill_step z_impl_StuffLot (mk_StuffLotS l.length a) y i (by rw [mk_StuffLotS_length]; exact hyl) (by rw [mk_StuffLotS_length]; exact hi) hy _ (range_map_getD _ _ _ i hi).symm
      have hk := ih _ (by simpa using hyl) h2
      have hbd : 0 ≤ a + 2 * (i : Int) ∧ a + 2 * (i : Int) ≤ 1125899906842624 := by omega
      have e : a + 2 * ((i + 1 : Nat) : Int) = a + 2 * (i : Int) + 1 + 1 := by omega
      rw [e] at hk
      clear h1 h2 hy e ih
      generalize a + 2 * (i : Int) = b at hk hbd ⊢
      refine Ev.step (fun k => by rw [laws_markStuffLotS.l0]) (ev_pos hyl (ev_pos (by omega) ?_))
      have w1 : wrap64 (b + 1) = b + 1 := by unfold wrap64; omega
      have w2 : wrap64 (b + 1 + 1) = b + 1 + 1 := by unfold wrap64; omega
      simp only [w1, w2, wsucc hi (by omega : l.length ≤ 9223372036854775807), Int.toNat_natCast]
      repeat' (first | with_reducible exact hk | with_reducible refine Ev.bind (markText_ev _ (by omega)) ?_ | refine ev_pos (by omega) ?_))
  simpa using key l rfl (fun j hj => absurd hj (Nat.not_lt_zero _))
noncomputable def mk_StuffPartS (n : Nat) (a : Int) : List S_impl_StuffPart := (List.range n).map fun (i : Nat) => ⟨mtx (a + 2 * (i : Int)), a + 2 * (i : Int) + 1⟩
theorem mk_StuffPartS_length (n : Nat) (a : Int) : (mk_StuffPartS n a).length = n := by simp [mk_StuffPartS]
theorem markStuffPartS_ev (l : List S_impl_StuffPart) (a : Int) (ha : 0 ≤ a) (hb : a ≤ 281474976710656) (hn : l.length ≤ 140737488351232) : Ev (fun k => laws_markStuffPartS.f k l a) (a + 2 * (l.length : Int), mk_StuffPartS l.length a) := by
  unfold laws_markStuffPartS.f
  have key := loopL z_impl_StuffPart l (P := fun i _ => ∀ y : List S_impl_StuffPart, y.length = l.length → (∀ j, j < i → y.getD j z_impl_StuffPart = (mk_StuffPartS l.length a).getD j z_impl_StuffPart) → Ev (fun k => laws_markStuffPartS.l0 k l (a + 2 * (i : Int)) (i : Int) y) (a + 2 * (l.length : Int), mk_StuffPartS l.length a))
    (fun y hyl hy => by
      obtain rfl := fill_end z_impl_StuffPart (mk_StuffPartS l.length a) y (by rw [mk_StuffPartS_length]; exact hyl) (fun j hj => hy j (by rwa [mk_StuffPartS_length] at hj))
      exact Ev.step (fun k => by rw [laws_markStuffPartS.l0]) (ev_pos hyl (ev_neg (by omega) (ev_ret rfl))))
    (fun i x r hi hx hm _ ih y hyl hy => by
      obtain ⟨h1, h2⟩ := fill_step z_impl_StuffPart (mk_StuffPartS l.length a) y i (by rw [mk_StuffPartS_length]; exact hyl) (by rw [mk_StuffPartS_length]; exact hi) hy _ (range_map_getD _ _ _ i hi).symm
      have hk := ih _ (by simpa using hyl) h2
      have hbd : 0 ≤ a + 2 * (i : Int) ∧ a + 2 * (i : Int) ≤ 1125899906842624 := by omega
      have e : a + 2 * ((i + 1 : Nat) : Int) = a + 2 * (i : Int) + 1 + 1 := by omega
      rw [e] at hk
      clear h1 h2 hy e ih
      generalize a + 2 * (i : Int) = b at hk hbd ⊢
      refine Ev.step (fun k => by rw [laws_markStuffPartS.l0]) (ev_pos hyl (ev_pos (by omega) ?_))
      have w1 : wrap64 (b + 1) = b + 1 := by unfold wrap64; omega
      have w2 : wrap64 (b + 1 + 1) = b + 1 + 1 := by unfold wrap64; omega
      simp only [w1, w2, wsucc hi (by omega : l.length ≤ 9223372036854775807), Int.toNat_natCast]
      repeat' (first | with_reducible exact hk | with_reducible refine Ev.bind (markText_ev _ (by omega)) ?_ | refine ev_pos (by omega) ?_))
  simpa using key l rfl (fun j hj => absurd hj (Nat.not_lt_zero _))
noncomputable def mk_StringS (n : Nat) (a : Int) : List ByteArray := (List.range n).map fun (i : Nat) => mtx (a + 1 * (i : Int))
theorem mk_StringS_length (n : Nat) (a : Int) : (mk_StringS n a).length = n := by simp [mk_StringS]
theorem markStringS_ev (l : List ByteArray) (a : Int) (ha : 0 ≤ a) (hb : a ≤ 281474976710656) (hn : l.length ≤ 140737488351232) : Ev (fun k => laws_markStringS.f k l a) (a + 1 * (l.length : Int), mk_StringS l.length a) := by
  unfold laws_markStringS.f
  have key := loopL ByteArray.empty l (P := fun i _ => ∀ y : List ByteArray, y.length = l.length → (∀ j, j < i → y.getD j ByteArray.empty = (mk_StringS l.length a).getD j ByteArray.empty) → Ev (fun k => laws_markStringS.l0 k l (a + 1 * (i : Int)) (i : Int) y) (a + 1 * (l.length : Int), mk_StringS l.length a))
    (fun y hyl hy => by
      obtain rfl := fill_end ByteArray.empty (mk_StringS l.length a) y (by rw [mk_StringS_length]; exact hyl) (fun j hj => hy j (by rwa [mk_StringS_length] at hj))
      exact Ev.step (fun k => by rw [laws_markStringS.l0]) (ev_pos hyl (ev_neg (by omega) (ev_ret rfl))))
    (fun i x r hi hx hm _ ih y hyl hy => by
      obtain ⟨h1, h2⟩ := fill_step ByteArray.empty (mk_StringS l.length a) y i (by rw [mk_StringS_length]; exact hyl) (by rw [mk_StringS_length]; exact hi) hy _ (range_map_getD _ _ _ i hi).symm
      have hk := ih _ (by simpa using hyl) h2
      have hbd : 0 ≤ a + 1 * (i : Int) ∧ a + 1 * (i : Int) ≤ 1125899906842624 := by omega
      have e : a + 1 * ((i + 1 : Nat) : Int) = a + 1 * (i : Int) + 1 := by omega
      rw [e] at hk
      clear h1 h2 hy e ih
      generalize a + 1 * (i : Int) = b at hk hbd ⊢
      refine Ev.step (fun k => by rw [laws_markStringS.l0]) (ev_pos hyl (ev_pos (by omega) ?_))
      have w1 : wrap64 (b + 1) = b + 1 := by unfold wrap64; omega
      simp only [w1, wsucc hi (by omega : l.length ≤ 9223372036854775807), Int.toNat_natCast]
      repeat' (first | with_reducible exact hk | with_reducible refine Ev.bind (markText_ev _ (by omega)) ?_ | refine ev_pos (by omega) ?_))
  simpa using key l rfl (fun j hj => absurd hj (Nat.not_lt_zero _))
theorem heldStringS_ev (n : Nat) (a : Int) (ha : 0 ≤ a) (hb : a ≤ 281474976710656) (hn : n ≤ 140737488351232) : Ev (fun k => laws_heldStringS.f k (mk_StringS n a) a) (a + 1 * (n : Int)) := by
  unfold laws_heldStringS.f
  have key := loopL ByteArray.empty (mk_StringS n a) (P := fun i _ => Ev (fun k => laws_heldStringS.l0 k (mk_StringS n a) (a + 1 * (i : Int)) (i : Int)) (a + 1 * (n : Int)))
    (Ev.step (fun k => by rw [laws_heldStringS.l0]) (ev_neg (by omega) (ev_ret (by rw [mk_StringS_length]))))
    (fun i x r hi hx hm _ ih => by
      have hi' := hi
      rw [mk_StringS_length] at hi'
      have hx' := (range_map_getD ByteArray.empty n _ i hi').symm.trans hx
      have hr : rdOf ByteArray.empty (mk_StringS n a) (i : Int) = x := by rw [rdOf_nat]; exact hx
      have hbd : 0 ≤ a + 1 * (i : Int) ∧ a + 1 * (i : Int) ≤ 1125899906842624 := by omega
      have e : a + 1 * ((i + 1 : Nat) : Int) = a + 1 * (i : Int) + 1 := by omega
      rw [e] at ih
      have hlt : (i : Int) < ((mk_StringS n a).length : Int) := by omega
      have hl9 : (mk_StringS n a).length ≤ 9223372036854775807 := by rw [mk_StringS_length]; omega
      generalize mk_StringS n a = L at *
      clear e hx
      generalize a + 1 * (i : Int) = b at ih hbd hx' ⊢
      refine Ev.step (fun k => by rw [laws_heldStringS.l0]) (ev_pos (by omega) ?_)
      have w1 : wrap64 (b + 1) = b + 1 := by unfold wrap64; omega
      simp only [w1, wsucc hi hl9, hr]
      subst hx'
      repeat' (first | with_reducible exact ih | with_reducible refine Ev.bind (markText_ev _ (by omega)) ?_ | refine ev_pos (by omega) ?_ | refine ev_pos rfl ?_ | refine ev_neg (by simp) ?_))
  simpa using key
/-! ### sizes, and what they bound -/
def Dn (g : Nat → Option Int) (t a : Int) : Prop := ∃ q, Ev g q ∧ (0 ≤ q → 16 * q + t ≤ 16 * a)
theorem dn_ret {q t a : Int} (h : 0 ≤ q → 16 * q + t ≤ 16 * a) : Dn (fun _ => some q) t a := ⟨q, ev_ret rfl, h⟩
theorem dn_pos {p : Prop} [Decidable p] {A B : Nat → Option Int} {t a : Int} (c : p) (h : Dn A t a) : Dn (fun n => if p then A n else B n) t a := by
  obtain ⟨q, e, h⟩ := h; exact ⟨q, ev_pos c e, h⟩
theorem dn_neg {p : Prop} [Decidable p] {A B : Nat → Option Int} {t a : Int} (c : ¬ p) (h : Dn B t a) : Dn (fun n => if p then A n else B n) t a := by
  obtain ⟨q, e, h⟩ := h; exact ⟨q, ev_neg c e, h⟩
theorem dn_ite {p : Prop} [Decidable p] {A B : Nat → Option Int} {t a : Int} (h1 : p → Dn A t a) (h2 : ¬ p → Dn B t a) : Dn (fun n => if p then A n else B n) t a := by
  by_cases c : p
  · exact dn_pos c (h1 c)
  · exact dn_neg c (h2 c)
theorem dn_bind {g : Nat → Option Int} {f : Nat → Int → Option Int} {t1 a1 t a : Int} (h : Dn g t1 a1) (k : ∀ q, (0 ≤ q → 16 * q + t1 ≤ 16 * a1) → Dn (fun n => f n q) t a) : Dn (fun n => (g n).bind (f n)) t a := by
  obtain ⟨q, e, hq⟩ := h
  obtain ⟨q2, e2, hq2⟩ := k q hq
  exact ⟨q2, Ev.bind e e2, hq2⟩
theorem dn_step {g f : Nat → Option Int} {t a : Int} (h : ∀ k, g (k + 1) = f k) (k : Dn f t a) : Dn g t a := by
  obtain ⟨q, e, hq⟩ := k; exact ⟨q, Ev.step h e, hq⟩
theorem dn_le {g : Nat → Option Int} {t a t' a' : Int} (h : Dn g t a) (k : t' + 16 * a ≤ t + 16 * a') : Dn g t' a' := by
  obtain ⟨q, e, hq⟩ := h; exact ⟨q, e, fun h => by have := hq h; omega⟩
def Mk {β : Type} (g : Nat → Option (Int × β)) (a t : Int) : Prop := ∃ r, Ev g r ∧ a ≤ r.1 ∧ r.1 ≤ a + t
theorem mk_ret {β : Type} {r : Int × β} {a t : Int} (h : a ≤ r.1) (k : r.1 ≤ a + t) : Mk (fun _ => some r) a t := ⟨r, ev_ret rfl, h, k⟩
theorem mk_pos {β : Type} {p : Prop} [Decidable p] {A B : Nat → Option (Int × β)} {a t : Int} (c : p) (h : Mk A a t) : Mk (fun n => if p then A n else B n) a t := by
  obtain ⟨q, e, h⟩ := h; exact ⟨q, ev_pos c e, h⟩
theorem mk_neg {β : Type} {p : Prop} [Decidable p] {A B : Nat → Option (Int × β)} {a t : Int} (c : ¬ p) (h : Mk B a t) : Mk (fun n => if p then A n else B n) a t := by
  obtain ⟨q, e, h⟩ := h; exact ⟨q, ev_neg c e, h⟩
theorem mk_ev {α β : Type} {g : Nat → Option α} {f : Nat → α → Option (Int × β)} {v : α} {a t : Int} (h : Ev g v) (k : Mk (fun n => f n v) a t) : Mk (fun n => (g n).bind (f n)) a t := by
  obtain ⟨r, e, hr⟩ := k; exact ⟨r, Ev.bind h e, hr⟩
theorem mk_bind {α β : Type} {g : Nat → Option (Int × α)} {f : Nat → Int × α → Option (Int × β)} {b u a t : Int} (h : Mk g b u) (k : ∀ v : Int × α, b ≤ v.1 → v.1 ≤ b + u → Mk (fun n => f n v) a t) : Mk (fun n => (g n).bind (f n)) a t := by
  obtain ⟨v, e, h1, h2⟩ := h; exact mk_ev e (k v h1 h2)
theorem mk_step {β : Type} {g f : Nat → Option (Int × β)} {a t : Int} (h : ∀ k, g (k + 1) = f k) (k : Mk f a t) : Mk g a t := by
  obtain ⟨q, e, hq⟩ := k; exact ⟨q, Ev.step h e, hq⟩
theorem mk_le {β : Type} {g : Nat → Option (Int × β)} {b u a t : Int} (h : Mk g b u) (k1 : a ≤ b) (k2 : b + u ≤ a + t) : Mk g a t := by
  obtain ⟨q, e, h1, h2⟩ := h; exact ⟨q, e, by omega, by omega⟩
theorem drop_get {α : Type} {d : α} {y : List α} {i : Nat} {x : α} {r : List α} (h : y.drop i = x :: r) : y.getD i d = x := by
  have := congrArg (fun l => l[0]?) h
  simp only [List.getElem?_drop, Nat.add_zero, List.getElem?_cons_zero] at this
  rw [List.getD_eq_getElem?_getD, this]; rfl
theorem drop_next {α : Type} {y : List α} {i : Nat} {x z : α} {r : List α} (h : y.drop i = x :: r) : (y.set i z).drop (i + 1) = r := by
  rw [List.drop_set_of_lt (by omega), ← List.drop_drop, h]; rfl
theorem dn_szStuffFoe (x : S_laws_StuffFoe) (h : ok_laws_StuffFoe x) (a : Int) (a0 : 0 ≤ a) (a1 : a ≤ 1048576) : Dn (fun k => laws_szStuffFoe.f x.f0 x.f1 a) (0) a := by
  have h_0 := h.1
  have h_1 := h.2
  unfold laws_szStuffFoe.f
  repeat' (first
    | with_reducible exact dn_ret (by intro; omega)
    | with_reducible refine dn_ite (fun c => ?_) (fun c => ?_)
    | with_reducible exact dn_ret (by intro; (try unfold wrap64 at *); omega)
    | with_reducible exact dn_ret (by intro; omega))
theorem dn_szStuffFoeS (l : List S_laws_StuffFoe) (hl : l.length ≤ 140737488351232) (h : ∀ z ∈ l, ok_laws_StuffFoe z) (a : Int) (a0 : 0 ≤ a) (a1 : a ≤ 1048576) : Dn (fun k => laws_szStuffFoeS.f k l a) (16 * (l.length : Int)) a := by
  have key := loopL z_laws_StuffFoe l (P := fun i r => ∀ b : Int, 0 ≤ b → b ≤ 1048576 → Dn (fun k => laws_szStuffFoeS.l0 k l b (i : Int)) (0) b)
    (fun b _ _ => dn_step (fun k => by rw [laws_szStuffFoeS.l0]) (dn_neg (by omega) (dn_ret (by omega))))
    (fun i x r hi hx hm _ ih b b0 b1 => dn_step (fun k => by rw [laws_szStuffFoeS.l0]) (dn_pos (by omega) (dn_pos (by omega) (by
      rw [wsucc hi (by omega), show rd_laws_StuffFoe l (i : Int) = x from by unfold rd_laws_StuffFoe; rw [Int.toNat_natCast]; exact hx]
      exact dn_bind (dn_szStuffFoe x (h x hm) b b0 b1) (fun q hq => dn_ite (fun _ => dn_ret (by omega)) (fun c => dn_le (ih q (by omega) (by have := hq (by omega); omega)) (by have := hq (by omega); omega)))))))
  have w : wrap64 (a - (l.length : Int)) = a - (l.length : Int) := by unfold wrap64; omega
  unfold laws_szStuffFoeS.f
  rw [w]
  exact dn_ite (fun _ => dn_ret (by omega)) (fun c => dn_le (key _ (by omega) (by omega)) (by omega))
theorem dn_szStuffLot (x : S_laws_StuffLot) (h : ok_laws_StuffLot x) (a : Int) (a0 : 0 ≤ a) (a1 : a ≤ 1048576) : Dn (fun k => laws_szStuffLot.f x.f0 x.f1 a) (0) a := by
  have h_0 := h.1
  have h_1 := h.2
  unfold laws_szStuffLot.f
  repeat' (first
    | with_reducible exact dn_ret (by intro; omega)
    | with_reducible refine dn_ite (fun c => ?_) (fun c => ?_)
    | with_reducible exact dn_ret (by intro; (try unfold wrap64 at *); omega)
    | with_reducible exact dn_ret (by intro; omega))
theorem dn_szStuffLotS (l : List S_laws_StuffLot) (hl : l.length ≤ 140737488351232) (h : ∀ z ∈ l, ok_laws_StuffLot z) (a : Int) (a0 : 0 ≤ a) (a1 : a ≤ 1048576) : Dn (fun k => laws_szStuffLotS.f k l a) (16 * (l.length : Int)) a := by
  have key := loopL z_laws_StuffLot l (P := fun i r => ∀ b : Int, 0 ≤ b → b ≤ 1048576 → Dn (fun k => laws_szStuffLotS.l0 k l b (i : Int)) (0) b)
    (fun b _ _ => dn_step (fun k => by rw [laws_szStuffLotS.l0]) (dn_neg (by omega) (dn_ret (by omega))))
    (fun i x r hi hx hm _ ih b b0 b1 => dn_step (fun k => by rw [laws_szStuffLotS.l0]) (dn_pos (by omega) (dn_pos (by omega) (by
      rw [wsucc hi (by omega), show rd_laws_StuffLot l (i : Int) = x from by unfold rd_laws_StuffLot; rw [Int.toNat_natCast]; exact hx]
      exact dn_bind (dn_szStuffLot x (h x hm) b b0 b1) (fun q hq => dn_ite (fun _ => dn_ret (by omega)) (fun c => dn_le (ih q (by omega) (by have := hq (by omega); omega)) (by have := hq (by omega); omega)))))))
  have w : wrap64 (a - (l.length : Int)) = a - (l.length : Int) := by unfold wrap64; omega
  unfold laws_szStuffLotS.f
  rw [w]
  exact dn_ite (fun _ => dn_ret (by omega)) (fun c => dn_le (key _ (by omega) (by omega)) (by omega))
theorem dn_szStuffPart (x : S_laws_StuffPart) (h : ok_laws_StuffPart x) (a : Int) (a0 : 0 ≤ a) (a1 : a ≤ 1048576) : Dn (fun k => laws_szStuffPart.f x.f0 x.f1 a) (0) a := by
  have h_0 := h.1
  have h_1 := h.2
  unfold laws_szStuffPart.f
  repeat' (first
    | with_reducible exact dn_ret (by intro; omega)
    | with_reducible refine dn_ite (fun c => ?_) (fun c => ?_)
    | with_reducible exact dn_ret (by intro; (try unfold wrap64 at *); omega)
    | with_reducible exact dn_ret (by intro; omega))
theorem dn_szStuffPartS (l : List S_laws_StuffPart) (hl : l.length ≤ 140737488351232) (h : ∀ z ∈ l, ok_laws_StuffPart z) (a : Int) (a0 : 0 ≤ a) (a1 : a ≤ 1048576) : Dn (fun k => laws_szStuffPartS.f k l a) (16 * (l.length : Int)) a := by
  have key := loopL z_laws_StuffPart l (P := fun i r => ∀ b : Int, 0 ≤ b → b ≤ 1048576 → Dn (fun k => laws_szStuffPartS.l0 k l b (i : Int)) (0) b)
    (fun b _ _ => dn_step (fun k => by rw [laws_szStuffPartS.l0]) (dn_neg (by omega) (dn_ret (by omega))))
    (fun i x r hi hx hm _ ih b b0 b1 => dn_step (fun k => by rw [laws_szStuffPartS.l0]) (dn_pos (by omega) (dn_pos (by omega) (by
      rw [wsucc hi (by omega), show rd_laws_StuffPart l (i : Int) = x from by unfold rd_laws_StuffPart; rw [Int.toNat_natCast]; exact hx]
      exact dn_bind (dn_szStuffPart x (h x hm) b b0 b1) (fun q hq => dn_ite (fun _ => dn_ret (by omega)) (fun c => dn_le (ih q (by omega) (by have := hq (by omega); omega)) (by have := hq (by omega); omega)))))))
  have w : wrap64 (a - (l.length : Int)) = a - (l.length : Int) := by unfold wrap64; omega
  unfold laws_szStuffPartS.f
  rw [w]
  exact dn_ite (fun _ => dn_ret (by omega)) (fun c => dn_le (key _ (by omega) (by omega)) (by omega))
theorem dn_szStringS (l : List ByteArray) (hl : l.length ≤ 140737488351232) (h : ∀ z ∈ l, z.size ≤ 140737488351232) (a : Int) (a0 : 0 ≤ a) (a1 : a ≤ 1048576) : Dn (fun k => laws_szStringS.f k l a) (16 * (l.length : Int)) a := by
  have key := loopL ByteArray.empty l (P := fun i r => ∀ b : Int, 0 ≤ b → b ≤ 1048576 → Dn (fun k => laws_szStringS.l0 k l b (i : Int)) (0) b)
    (fun b _ _ => dn_step (fun k => by rw [laws_szStringS.l0]) (dn_neg (by omega) (dn_ret (by omega))))
    (fun i x r hi hx hm _ ih b b0 b1 => dn_step (fun k => by rw [laws_szStringS.l0]) (dn_pos (by omega) (dn_pos (by omega) (by
      rw [wsucc hi (by omega), show rdOf ByteArray.empty l (i : Int) = x from by rw [rdOf_nat]; exact hx]
      have hs := h x hm
      have w : wrap64 (b - (x.size : Int)) = b - (x.size : Int) := by unfold wrap64; omega
      rw [w]
      exact dn_ite (fun _ => dn_ret (by omega)) (fun c => dn_le (ih _ (by omega) (by omega)) (by omega))))))
  have w : wrap64 (a - (l.length : Int)) = a - (l.length : Int) := by unfold wrap64; omega
  unfold laws_szStringS.f
  rw [w]
  exact dn_ite (fun _ => dn_ret (by omega)) (fun c => dn_le (key _ (by omega) (by omega)) (by omega))
def te_laws_StuffVessel (x : S_laws_StuffVessel) : Int := 16 * (x.f2.length : Int) + 16 * (x.f3.length : Int)
theorem te_laws_StuffVessel_pos (x : S_laws_StuffVessel) : 0 ≤ te_laws_StuffVessel x := by unfold te_laws_StuffVessel; omega
def tes_laws_StuffVessel : List S_laws_StuffVessel → Int
  | [] => 0
  | x :: r => te_laws_StuffVessel x + tes_laws_StuffVessel r
theorem tes_laws_StuffVessel_pos : ∀ l : List S_laws_StuffVessel, 0 ≤ tes_laws_StuffVessel l
  | [] => by simp [tes_laws_StuffVessel]
  | x :: r => by have := te_laws_StuffVessel_pos x; have := tes_laws_StuffVessel_pos r; unfold tes_laws_StuffVessel; omega
theorem dn_szStuffVessel (x : S_laws_StuffVessel) (h : ok_laws_StuffVessel x) (a : Int) (a0 : 0 ≤ a) (a1 : a ≤ 1048576) : Dn (fun k => laws_szStuffVessel.f k x.f0 x.f1 x.f2 x.f3 a) (te_laws_StuffVessel x) a := by
  have h_0 := h.1
  have h_1 := h.2.1
  have h_2 := h.2.2.1
  have h_3 := h.2.2.2
  unfold laws_szStuffVessel.f
  repeat' (first
    | with_reducible refine dn_bind (dn_szStuffPartS x.f2 (by have := h_2.1; omega) h_2.2 _ (by (try unfold wrap64 at *); omega) (by (try unfold wrap64 at *); omega)) (fun q hq => ?_)
    | with_reducible refine dn_bind (dn_szStringS x.f3 (by have := h_3.1; omega) h_3.2 _ (by (try unfold wrap64 at *); omega) (by (try unfold wrap64 at *); omega)) (fun q hq => ?_)
    | with_reducible exact dn_ret (by intro; omega)
    | with_reducible refine dn_ite (fun c => ?_) (fun c => ?_)
    | with_reducible exact dn_ret (by intro; simp only [te_laws_StuffVessel] at *; (try unfold wrap64 at *); omega)
    | with_reducible exact dn_ret (by intro; simp only [te_laws_StuffVessel] at *; omega))
theorem dn_szStuffVesselS (l : List S_laws_StuffVessel) (hl : l.length ≤ 140737488351232) (h : ∀ z ∈ l, ok_laws_StuffVessel z) (a : Int) (a0 : 0 ≤ a) (a1 : a ≤ 1048576) : Dn (fun k => laws_szStuffVesselS.f k l a) (16 * (l.length : Int) + tes_laws_StuffVessel l) a := by
  have key := loopL z_laws_StuffVessel l (P := fun i r => ∀ b : Int, 0 ≤ b → b ≤ 1048576 → Dn (fun k => laws_szStuffVesselS.l0 k l b (i : Int)) (tes_laws_StuffVessel r) b)
    (fun b _ _ => dn_step (fun k => by rw [laws_szStuffVesselS.l0]) (dn_neg (by omega) (dn_ret (by simp [tes_laws_StuffVessel]))))
    (fun i x r hi hx hm _ ih b b0 b1 => dn_step (fun k => by rw [laws_szStuffVesselS.l0]) (dn_pos (by omega) (dn_pos (by omega) (by
      rw [wsucc hi (by omega), show rd_laws_StuffVessel l (i : Int) = x from by unfold rd_laws_StuffVessel; rw [Int.toNat_natCast]; exact hx]
      have := te_laws_StuffVessel_pos x
      simp only [tes_laws_StuffVessel]
      exact dn_bind (dn_szStuffVessel x (h x hm) b b0 b1) (fun q hq => dn_ite (fun _ => dn_ret (by omega)) (fun c => dn_le (ih q (by omega) (by have := hq (by omega); omega)) (by have := hq (by omega); omega)))))))
  have w : wrap64 (a - (l.length : Int)) = a - (l.length : Int) := by unfold wrap64; omega
  unfold laws_szStuffVesselS.f
  rw [w]
  exact dn_ite (fun _ => dn_ret (by omega)) (fun c => dn_le (key _ (by omega) (by omega)) (by omega))
def te_laws_StuffOut (x : S_laws_StuffOut) : Int := 16 * (x.f1.length : Int) + 16 * (x.f2.length : Int)
theorem te_laws_StuffOut_pos (x : S_laws_StuffOut) : 0 ≤ te_laws_StuffOut x := by unfold te_laws_StuffOut; omega
def tes_laws_StuffOut : List S_laws_StuffOut → Int
  | [] => 0
  | x :: r => te_laws_StuffOut x + tes_laws_StuffOut r
theorem tes_laws_StuffOut_pos : ∀ l : List S_laws_StuffOut, 0 ≤ tes_laws_StuffOut l
  | [] => by simp [tes_laws_StuffOut]
  | x :: r => by have := te_laws_StuffOut_pos x; have := tes_laws_StuffOut_pos r; unfold tes_laws_StuffOut; omega
theorem dn_szStuffOut (x : S_laws_StuffOut) (h : ok_laws_StuffOut x) (a : Int) (a0 : 0 ≤ a) (a1 : a ≤ 1048576) : Dn (fun k => laws_szStuffOut.f k x.f0 x.f1 x.f2 a) (te_laws_StuffOut x) a := by
  have h_0 := h.1
  have h_1 := h.2.1
  have h_2 := h.2.2
  unfold laws_szStuffOut.f
  repeat' (first
    | with_reducible refine dn_bind (dn_szStuffPartS x.f1 (by have := h_1.1; omega) h_1.2 _ (by (try unfold wrap64 at *); omega) (by (try unfold wrap64 at *); omega)) (fun q hq => ?_)
    | with_reducible refine dn_bind (dn_szStringS x.f2 (by have := h_2.1; omega) h_2.2 _ (by (try unfold wrap64 at *); omega) (by (try unfold wrap64 at *); omega)) (fun q hq => ?_)
    | with_reducible exact dn_ret (by intro; omega)
    | with_reducible refine dn_ite (fun c => ?_) (fun c => ?_)
    | with_reducible exact dn_ret (by intro; simp only [te_laws_StuffOut] at *; (try unfold wrap64 at *); omega)
    | with_reducible exact dn_ret (by intro; simp only [te_laws_StuffOut] at *; omega))
theorem dn_szStuffOutS (l : List S_laws_StuffOut) (hl : l.length ≤ 140737488351232) (h : ∀ z ∈ l, ok_laws_StuffOut z) (a : Int) (a0 : 0 ≤ a) (a1 : a ≤ 1048576) : Dn (fun k => laws_szStuffOutS.f k l a) (16 * (l.length : Int) + tes_laws_StuffOut l) a := by
  have key := loopL z_laws_StuffOut l (P := fun i r => ∀ b : Int, 0 ≤ b → b ≤ 1048576 → Dn (fun k => laws_szStuffOutS.l0 k l b (i : Int)) (tes_laws_StuffOut r) b)
    (fun b _ _ => dn_step (fun k => by rw [laws_szStuffOutS.l0]) (dn_neg (by omega) (dn_ret (by simp [tes_laws_StuffOut]))))
    (fun i x r hi hx hm _ ih b b0 b1 => dn_step (fun k => by rw [laws_szStuffOutS.l0]) (dn_pos (by omega) (dn_pos (by omega) (by
      rw [wsucc hi (by omega), show rd_laws_StuffOut l (i : Int) = x from by unfold rd_laws_StuffOut; rw [Int.toNat_natCast]; exact hx]
      have := te_laws_StuffOut_pos x
      simp only [tes_laws_StuffOut]
      exact dn_bind (dn_szStuffOut x (h x hm) b b0 b1) (fun q hq => dn_ite (fun _ => dn_ret (by omega)) (fun c => dn_le (ih q (by omega) (by have := hq (by omega); omega)) (by have := hq (by omega); omega)))))))
  have w : wrap64 (a - (l.length : Int)) = a - (l.length : Int) := by unfold wrap64; omega
  unfold laws_szStuffOutS.f
  rw [w]
  exact dn_ite (fun _ => dn_ret (by omega)) (fun c => dn_le (key _ (by omega) (by omega)) (by omega))
def te_laws_StuffBook (x : S_laws_StuffBook) : Int := 16 * (x.f0.length : Int) + 16 * (x.f1.length : Int) + 16 * (x.f2.length : Int) + 16 * (x.f3.length : Int)
theorem te_laws_StuffBook_pos (x : S_laws_StuffBook) : 0 ≤ te_laws_StuffBook x := by unfold te_laws_StuffBook; omega
def tes_laws_StuffBook : List S_laws_StuffBook → Int
  | [] => 0
  | x :: r => te_laws_StuffBook x + tes_laws_StuffBook r
theorem tes_laws_StuffBook_pos : ∀ l : List S_laws_StuffBook, 0 ≤ tes_laws_StuffBook l
  | [] => by simp [tes_laws_StuffBook]
  | x :: r => by have := te_laws_StuffBook_pos x; have := tes_laws_StuffBook_pos r; unfold tes_laws_StuffBook; omega
theorem dn_szStuffBook (x : S_laws_StuffBook) (h : ok_laws_StuffBook x) (a : Int) (a0 : 0 ≤ a) (a1 : a ≤ 1048576) : Dn (fun k => laws_szStuffBook.f k x.f0 x.f1 x.f2 x.f3 a) (16 * (x.f0.length : Int) + 16 * (x.f1.length : Int) + 16 * (x.f2.length : Int) + tes_laws_StuffVessel x.f2 + 16 * (x.f3.length : Int) + tes_laws_StuffOut x.f3) a := by
  have h_0 := h.1
  have h_1 := h.2.1
  have h_2 := h.2.2.1
  have h_3 := h.2.2.2
  have := tes_laws_StuffVessel_pos x.f2
  have := tes_laws_StuffOut_pos x.f3
  unfold laws_szStuffBook.f
  repeat' (first
    | with_reducible refine dn_bind (dn_szStuffFoeS x.f0 (by have := h_0.1; omega) h_0.2 _ (by (try unfold wrap64 at *); omega) (by (try unfold wrap64 at *); omega)) (fun q hq => ?_)
    | with_reducible refine dn_bind (dn_szStuffLotS x.f1 (by have := h_1.1; omega) h_1.2 _ (by (try unfold wrap64 at *); omega) (by (try unfold wrap64 at *); omega)) (fun q hq => ?_)
    | with_reducible refine dn_bind (dn_szStuffVesselS x.f2 (by have := h_2.1; omega) h_2.2 _ (by (try unfold wrap64 at *); omega) (by (try unfold wrap64 at *); omega)) (fun q hq => ?_)
    | with_reducible refine dn_bind (dn_szStuffOutS x.f3 (by have := h_3.1; omega) h_3.2 _ (by (try unfold wrap64 at *); omega) (by (try unfold wrap64 at *); omega)) (fun q hq => ?_)
    | with_reducible exact dn_ret (by intro; omega)
    | with_reducible refine dn_ite (fun c => ?_) (fun c => ?_)
    | with_reducible exact dn_ret (by intro; (try unfold wrap64 at *); omega)
    | with_reducible exact dn_ret (by intro; omega))
def te_impl_StuffVessel (x : S_impl_StuffVessel) : Int := 16 * (x.f2.length : Int) + 16 * (x.f3.length : Int)
theorem te_impl_StuffVessel_pos (x : S_impl_StuffVessel) : 0 ≤ te_impl_StuffVessel x := by unfold te_impl_StuffVessel; omega
def tes_impl_StuffVessel : List S_impl_StuffVessel → Int
  | [] => 0
  | x :: r => te_impl_StuffVessel x + tes_impl_StuffVessel r
theorem tes_impl_StuffVessel_pos : ∀ l : List S_impl_StuffVessel, 0 ≤ tes_impl_StuffVessel l
  | [] => by simp [tes_impl_StuffVessel]
  | x :: r => by have := te_impl_StuffVessel_pos x; have := tes_impl_StuffVessel_pos r; unfold tes_impl_StuffVessel; omega
theorem mk_markStuffVesselS (l : List S_impl_StuffVessel) (hl : l.length ≤ 1000000000) (a : Int) (a0 : 0 ≤ a) (a1 : a + (16 * (l.length : Int) + tes_impl_StuffVessel l) ≤ 1000000000) : Mk (fun k => laws_markStuffVesselS.f k l a) a (16 * (l.length : Int) + tes_impl_StuffVessel l) := by
  have key := loopL z_impl_StuffVessel l (P := fun i r => ∀ (y : List S_impl_StuffVessel) (b : Int), y.length = l.length → y.drop i = r → 0 ≤ b → b + (16 * (r.length : Int) + tes_impl_StuffVessel r) ≤ 1000000000 → Mk (fun k => laws_markStuffVesselS.l0 k l b (i : Int) y) b (16 * (r.length : Int) + tes_impl_StuffVessel r))
    (fun y b h1 h2 h3 h4 => mk_step (fun k => by rw [laws_markStuffVesselS.l0]) (mk_pos h1 (mk_neg (by omega) (mk_ret (Int.le_refl _) (by simp [tes_impl_StuffVessel])))))
    (fun i x r hi hx hm _ ih y b h1 h2 h3 h4 => by
      have hr : rd_impl_StuffVessel y (i : Int) = x := by unfold rd_impl_StuffVessel; rw [Int.toNat_natCast]; exact drop_get h2
      have hp := tes_impl_StuffVessel_pos r
      simp only [tes_impl_StuffVessel, te_impl_StuffVessel, List.length_cons] at h4 ⊢
      refine mk_step (fun k => by rw [laws_markStuffVesselS.l0]) (mk_pos h1 (mk_pos (by omega) ?_))
      rw [wsucc hi (by omega), hr, Int.toNat_natCast]
      have w1 : wrap64 (b + 1) = b + 1 := by unfold wrap64; omega
      have w2 : wrap64 (b + 1 + 1) = b + 1 + 1 := by unfold wrap64; omega
      have w3 : wrap64 (b + 1 + 1 + 1) = b + 1 + 1 + 1 := by unfold wrap64; omega
      have w4 : wrap64 (b + 1 + 1 + 1 + 1) = b + 1 + 1 + 1 + 1 := by unfold wrap64; omega
      simp only [w1, w2, w3, w4]
      repeat' (first | with_reducible refine mk_ev (markStuffPartS_ev x.f2 _ (by omega) (by omega) (by omega)) ?_ | with_reducible refine mk_ev (markStringS_ev x.f3 _ (by omega) (by omega) (by omega)) ?_ | with_reducible refine mk_ev (markText_ev _ (by omega)) ?_ | with_reducible refine mk_pos (by omega) ?_)
      refine mk_le (ih _ _ (by simpa using h1) (drop_next h2) ?_ ?_) ?_ ?_ <;> (try unfold wrap64) <;> omega)
  unfold laws_markStuffVesselS.f
  exact key l a rfl rfl a0 a1
def te_impl_StuffOut (x : S_impl_StuffOut) : Int := 16 * (x.f1.length : Int) + 16 * (x.f2.length : Int)
theorem te_impl_StuffOut_pos (x : S_impl_StuffOut) : 0 ≤ te_impl_StuffOut x := by unfold te_impl_StuffOut; omega
def tes_impl_StuffOut : List S_impl_StuffOut → Int
  | [] => 0
  | x :: r => te_impl_StuffOut x + tes_impl_StuffOut r
theorem tes_impl_StuffOut_pos : ∀ l : List S_impl_StuffOut, 0 ≤ tes_impl_StuffOut l
  | [] => by simp [tes_impl_StuffOut]
  | x :: r => by have := te_impl_StuffOut_pos x; have := tes_impl_StuffOut_pos r; unfold tes_impl_StuffOut; omega
theorem mk_markStuffOutS (l : List S_impl_StuffOut) (hl : l.length ≤ 1000000000) (a : Int) (a0 : 0 ≤ a) (a1 : a + (16 * (l.length : Int) + tes_impl_StuffOut l) ≤ 1000000000) : Mk (fun k => laws_markStuffOutS.f k l a) a (16 * (l.length : Int) + tes_impl_StuffOut l) := by
  have key := loopL z_impl_StuffOut l (P := fun i r => ∀ (y : List S_impl_StuffOut) (b : Int), y.length = l.length → y.drop i = r → 0 ≤ b → b + (16 * (r.length : Int) + tes_impl_StuffOut r) ≤ 1000000000 → Mk (fun k => laws_markStuffOutS.l0 k l b (i : Int) y) b (16 * (r.length : Int) + tes_impl_StuffOut r))
    (fun y b h1 h2 h3 h4 => mk_step (fun k => by rw [laws_markStuffOutS.l0]) (mk_pos h1 (mk_neg (by omega) (mk_ret (Int.le_refl _) (by simp [tes_impl_StuffOut])))))
    (fun i x r hi hx hm _ ih y b h1 h2 h3 h4 => by
      have hr : rd_impl_StuffOut y (i : Int) = x := by unfold rd_impl_StuffOut; rw [Int.toNat_natCast]; exact drop_get h2
      have hp := tes_impl_StuffOut_pos r
      simp only [tes_impl_StuffOut, te_impl_StuffOut, List.length_cons] at h4 ⊢
      refine mk_step (fun k => by rw [laws_markStuffOutS.l0]) (mk_pos h1 (mk_pos (by omega) ?_))
      rw [wsucc hi (by omega), hr, Int.toNat_natCast]
      have w1 : wrap64 (b + 1) = b + 1 := by unfold wrap64; omega
      have w2 : wrap64 (b + 1 + 1) = b + 1 + 1 := by unfold wrap64; omega
      have w3 : wrap64 (b + 1 + 1 + 1) = b + 1 + 1 + 1 := by unfold wrap64; omega
      simp only [w1, w2, w3]
      repeat' (first | with_reducible refine mk_ev (markStuffPartS_ev x.f1 _ (by omega) (by omega) (by omega)) ?_ | with_reducible refine mk_ev (markStringS_ev x.f2 _ (by omega) (by omega) (by omega)) ?_ | with_reducible refine mk_ev (markText_ev _ (by omega)) ?_ | with_reducible refine mk_pos (by omega) ?_)
      refine mk_le (ih _ _ (by simpa using h1) (drop_next h2) ?_ ?_) ?_ ?_ <;> (try unfold wrap64) <;> omega)
  unfold laws_markStuffOutS.f
  exact key l a rfl rfl a0 a1
theorem mk_markStuffBook (x0 : List S_impl_StuffFoe) (x1 : List S_impl_StuffLot) (x2 : List S_impl_StuffVessel) (x3 : List S_impl_StuffOut) (a : Int) (a0 : 0 ≤ a) (h0 : x0.length ≤ 1000000000) (h1 : x1.length ≤ 1000000000) (h2 : x2.length ≤ 1000000000) (h3 : x3.length ≤ 1000000000) (a1 : a + (16 * (x0.length : Int) + 16 * (x1.length : Int) + 16 * (x2.length : Int) + tes_impl_StuffVessel x2 + 16 * (x3.length : Int) + tes_impl_StuffOut x3) ≤ 1000000000) : Mk (fun k => laws_markStuffBook.f k x0 x1 x2 x3 a) a (16 * (x0.length : Int) + 16 * (x1.length : Int) + 16 * (x2.length : Int) + tes_impl_StuffVessel x2 + 16 * (x3.length : Int) + tes_impl_StuffOut x3) := by
  have := tes_impl_StuffVessel_pos x2
  have := tes_impl_StuffOut_pos x3
  unfold laws_markStuffBook.f
  refine mk_ev (markStuffFoeS_ev x0 _ (by omega) (by omega) (by omega)) ?_
  refine mk_ev (markStuffLotS_ev x1 _ (by omega) (by omega) (by omega)) ?_
  refine mk_bind (mk_markStuffVesselS x2 (by omega) _ (by omega) (by omega)) (fun v2 g2 k2 => ?_)
  refine mk_bind (mk_markStuffOutS x3 (by omega) _ (by omega) (by omega)) (fun v3 g3 k3 => ?_)
  exact mk_ret (by first | omega | (dsimp only; omega)) (by first | omega | (dsimp only; omega))
theorem tes_laws_StuffOut_cv : ∀ l : List S_laws_StuffOut, tes_impl_StuffOut (l.map cv_laws_StuffOut) = tes_laws_StuffOut l
  | [] => rfl
  | x :: r => by
    have ih := tes_laws_StuffOut_cv r
    have e : te_impl_StuffOut (cv_laws_StuffOut x) = te_laws_StuffOut x := by simp only [te_impl_StuffOut, te_laws_StuffOut, cv_laws_StuffOut]; simp
    simp only [List.map_cons, tes_impl_StuffOut, tes_laws_StuffOut, ih, e]
theorem tes_laws_StuffVessel_cv : ∀ l : List S_laws_StuffVessel, tes_impl_StuffVessel (l.map cv_laws_StuffVessel) = tes_laws_StuffVessel l
  | [] => rfl
  | x :: r => by
    have ih := tes_laws_StuffVessel_cv r
    have e : te_impl_StuffVessel (cv_laws_StuffVessel x) = te_laws_StuffVessel x := by simp only [te_impl_StuffVessel, te_laws_StuffVessel, cv_laws_StuffVessel]; simp
    simp only [List.map_cons, tes_impl_StuffVessel, tes_laws_StuffVessel, ih, e]
/-! ### names -/
theorem ev_b {α : Type} {b : Bool} {g f : Nat → Option α} {r : α} (h : b = true → Ev g r) (k : b = false → Ev f r) : Ev (fun n => if b = true then g n else f n) r := by
  cases b
  · exact ev_neg (by simp) (k rfl)
  · exact ev_pos rfl (h rfl)
/-- a yes or no that is asked -/
theorem ev_ask {α : Type} {o g f : Nat → Option α} {q : Nat → Option Bool} {b : Bool} {r : α} (hq : Ev q b) (h : b = true → Ev g r) (k : b = false → Ev f r) : Ev (fun n => (q n).bind fun t => if t = true then g n else f n) r := Ev.bind (f := fun n t => if t = true then g n else f n) hq (ev_b h k)
def okc (c : Int) : Bool := (decide (97 ≤ c) && decide (c ≤ 122)) || ((decide (48 ≤ c) && decide (c ≤ 57)) || decide (c = 45))
theorem okc_t {c : Int} (h : 97 ≤ c ∧ c ≤ 122 ∨ 48 ≤ c ∧ c ≤ 57 ∨ c = 45) : okc c = true := by simp [okc]; omega
theorem okc_f {c : Int} (h : ¬ (97 ≤ c ∧ c ≤ 122 ∨ 48 ≤ c ∧ c ≤ 57 ∨ c = 45)) : okc c = false := by
  rw [← Bool.not_eq_true]; intro q; apply h; simp [okc] at q; omega
def allFrom (s : ByteArray) (i : Nat) : Bool := decide (∀ j, j < s.size → i ≤ j → okc (bt s (j : Int)) = true)
theorem allFrom_step (s : ByteArray) (i : Nat) (h : i < s.size) : allFrom s i = (okc (bt s (i : Int)) && allFrom s (i + 1)) := by
  unfold allFrom
  rw [Bool.eq_iff_iff, Bool.and_eq_true, decide_eq_true_iff, decide_eq_true_iff]
  refine ⟨fun q => ⟨q i h (Nat.le_refl _), fun j hj hi => q j hj (by omega)⟩, fun q j hj hi => ?_⟩
  by_cases e : j = i
  · rw [e]; exact q.1
  · exact q.2 j hj (by omega)
theorem allFrom_end (s : ByteArray) : allFrom s s.size = true := by
  unfold allFrom
  rw [decide_eq_true_iff]
  intro j hj hi; omega
def nameB (s : ByteArray) : Bool := decide (1 ≤ s.size ∧ s.size ≤ 8) && allFrom s 0
/-- a walk over the places of a text -/
theorem loopN (n : Nat) {P : Nat → Prop} (h0 : P n) (hs : ∀ i, i < n → P (i + 1) → P i) : P 0 := by
  have key : ∀ (m i : Nat), i + m = n → P i := fun m => by
    induction m with
    | zero => intro i hi; have e : i = n := by omega
              subst e; exact h0
    | succ m ih => intro i hi; exact hs i (by omega) (ih (i + 1) (by omega))
  exact key n 0 (by omega)
/-- each before the next -/
def chainB {α : Type} (p : α → α → Bool) : Option α → List α → Bool
  | _, [] => true
  | none, x :: r => chainB p (some x) r
  | some y, x :: r => p y x && chainB p (some x) r
def namesB (l : List ByteArray) : Bool := l.all nameB && chainB lt none l
def hasB (l : List ByteArray) (s : ByteArray) : Bool := l.any fun x => decide (x = s)
theorem hasB_iff {l : List ByteArray} {s : ByteArray} : hasB l s = true ↔ s ∈ l := by
  unfold hasB
  rw [List.any_eq_true]
  exact ⟨fun ⟨x, h, e⟩ => by simp at e; exact e ▸ h, fun h => ⟨s, h, by simp⟩⟩
def inB (a b c : Int) : Bool := decide (b ≤ a ∧ a ≤ c)
theorem inB_t {a b c : Int} (h : b ≤ a ∧ a ≤ c) : inB a b c = true := decide_eq_true h
theorem inB_f {a b c : Int} (h : ¬ (b ≤ a ∧ a ≤ c)) : inB a b c = false := decide_eq_false h
theorem l11In_ev (a b c : Int) : Ev (fun _ => spec_l11In.f a b c) (inB a b c) := by
  unfold spec_l11In.f inB
  refine ev_split (fun h => ev_ret (decide_eq_decide.2 (by omega))) (fun h => ev_ret ?_)
  symm; apply decide_eq_false; omega
theorem l12NameOk_ev (s : ByteArray) : Ev (fun k => spec_l12NameOk.f k s) (nameB s) := by
  unfold spec_l12NameOk.f nameB
  refine Ev.bind (l11In_ev _ _ _) (ev_b (fun h => ?_) (fun h => ev_ret ?_))
  · have hs : 1 ≤ s.size ∧ s.size ≤ 8 := by have : inB _ _ _ = true := h; unfold inB at this; have := of_decide_eq_true this; omega
    rw [decide_eq_true hs, Bool.true_and]
    refine loopN s.size (P := fun i => Ev (fun k => spec_l12NameOk.l0 k s (i : Int)) (allFrom s i))
      (by refine Ev.step (fun k => by rw [spec_l12NameOk.l0]) ?_; exact ev_neg (by omega) (ev_ret (allFrom_end s).symm)) (fun i hi ih => ?_)
    refine Ev.step (fun k => by rw [spec_l12NameOk.l0]) (ev_pos (by omega) (ev_pos (by omega) ?_))
    rw [wsucc hi (by omega), allFrom_step s i hi]
    generalize bt s (i : Int) = c
    repeat' (first | (refine ev_split (fun _ => ?_) (fun _ => ?_)) | (rw [okc_t (by omega), Bool.true_and]; exact ih) | (rw [okc_f (by omega)]; exact ev_ret rfl))
  · have hs : ¬ (1 ≤ s.size ∧ s.size ≤ 8) := fun q => by have : inB _ _ _ = false := h; unfold inB at this; have := of_decide_eq_false this; omega
    rw [decide_eq_false hs]; rfl
theorem l12Has_ev (l : List ByteArray) (s : ByteArray) (hn : l.length ≤ 140737488351232) : Ev (fun k => spec_l12Has.f k l s) (hasB l s) := by
  unfold spec_l12Has.f hasB
  refine loopL ByteArray.empty l (P := fun i r => Ev (fun k => spec_l12Has.l0 k l s (i : Int)) (r.any fun x => decide (x = s)))
    (by refine Ev.step (fun k => by rw [spec_l12Has.l0]) ?_; exact ev_neg (by omega) (ev_ret rfl)) (fun i x r hi hx _ _ ih => ?_)
  refine Ev.step (fun k => by rw [spec_l12Has.l0]) (ev_pos (by omega) (ev_pos (by omega) ?_))
  rw [wsucc hi (by omega), rdOf_nat, hx]
  refine ev_split (fun c => ev_ret ?_) (fun c => ev_eq ih ?_)
  · simp [ba_iff.1 c]
  · simp [show ¬ x = s from fun e => c (ba_iff.2 e)]
theorem isName_ev (s : ByteArray) (hn : s.size ≤ 140737488351232) : Ev (fun k => impl_isName.f k s) (nameB s) := by
  unfold impl_isName.f nameB
  refine loopN s.size (P := fun i => Ev (fun k => impl_isName.l0 k s (i : Int)) (decide (1 ≤ s.size ∧ s.size ≤ 8) && allFrom s i))
    (by
      refine Ev.step (fun k => by rw [impl_isName.l0]) (ev_neg (by omega) ?_)
      rw [allFrom_end, Bool.and_true]
      refine ev_split (fun h => ev_ret (decide_eq_decide.2 (by omega))) (fun h => ev_ret ?_)
      symm; apply decide_eq_false; omega) (fun i hi ih => ?_)
  refine Ev.step (fun k => by rw [impl_isName.l0]) (ev_pos (by omega) (ev_pos (by omega) ?_))
  rw [wsucc hi (by omega), allFrom_step s i hi]
  generalize bt s (i : Int) = c
  repeat' (first | (refine ev_split (fun _ => ?_) (fun _ => ?_)) | (rw [okc_t (by omega), Bool.true_and]; exact ih) | (rw [okc_f (by omega), Bool.false_and, Bool.and_false]; exact ev_ret rfl))
theorem chain_none {α : Type} (p : α → α → Bool) (x : α) (r : List α) : chainB p none (x :: r) = chainB p (some x) r := rfl
theorem rising_ev (l : List ByteArray) (hn : l.length ≤ 140737488351232) : Ev (fun k => impl_rising.f k l) (chainB lt none l) := by
  unfold impl_rising.f
  have key : ∀ r i, l.drop (i + 1) = r → i < l.length → Ev (fun k => impl_rising.l0 k l ((i + 1 : Nat) : Int)) (chainB lt (some (l.getD i ByteArray.empty)) r) := fun r => by
    induction r with
    | nil =>
      intro i hd hi
      have : l.length ≤ i + 1 := List.drop_eq_nil_iff.1 hd
      refine Ev.step (fun k => by rw [impl_rising.l0]) ?_
      exact ev_neg (by omega) (ev_ret rfl)
    | cons x r ih =>
      intro i hd hi
      have hlt : i + 1 < l.length := by
        refine Nat.lt_of_not_le fun hle => ?_
        rw [List.drop_eq_nil_iff.2 hle] at hd; cases hd
      have e := List.drop_eq_getElem_cons hlt
      rw [hd] at e; injection e with e1 e2
      have hx : l.getD (i + 1) ByteArray.empty = x := by rw [getD_eq _ l _ hlt]; exact e1.symm
      refine Ev.step (fun k => by rw [impl_rising.l0]) (ev_pos (by omega) ?_)
      have hw : wrap64 (((i + 1 : Nat) : Int) - 1) = ((i : Nat) : Int) := by unfold wrap64; omega
      rw [hw, rdOf_nat, rdOf_nat, hx, wsucc hlt (by omega)]
      refine ev_pos (by omega) (ev_pos (by omega) (ev_pos (by omega) (ev_b (fun c => ?_) (fun c => ev_ret ?_))))
      · have c : lt (l.getD i ByteArray.empty) x = true := c
        have := ih (i + 1) e2.symm hlt
        rw [hx] at this
        simp only [chainB, c, Bool.true_and]; exact this
      · have c : lt (l.getD i ByteArray.empty) x = false := c
        simp only [chainB, c, Bool.false_and]
  cases l with
  | nil =>
    refine Ev.step (fun k => by rw [impl_rising.l0]) ?_
    exact ev_neg (show ¬ (1 : Int) < ((0 : Nat) : Int) by omega) (ev_ret rfl)
  | cons x r =>
    rw [chain_none]
    exact key r 0 rfl (by simp)
theorem has_ev (l : List ByteArray) (s : ByteArray) (hn : l.length ≤ 140737488351232) : Ev (fun k => impl_has.f k l s) (hasB l s) := by
  have key : ∃ v : Int, (decide (v ≥ 0) = hasB l s) ∧ Ev (fun k => slices_Index_string_string.f k l s) v := by
    unfold slices_Index_string_string.f hasB
    refine loopL ByteArray.empty l (P := fun i r => ∃ v : Int, (decide (v ≥ 0) = r.any fun x => decide (x = s)) ∧ Ev (fun k => slices_Index_string_string.l0 k l s (i : Int)) v)
      ⟨-1, rfl, Ev.step (fun k => by rw [slices_Index_string_string.l0]) (ev_neg (by omega) (ev_ret rfl))⟩ (fun i x r hi hx _ _ ih => ?_)
    obtain ⟨v, hv, he⟩ := ih
    by_cases c : x = s
    · refine ⟨(i : Int), by simp [c], Ev.step (fun k => by rw [slices_Index_string_string.l0]) ?_⟩
      rw [rdOf_nat, hx]
      exact ev_pos (by omega) (ev_pos (by omega) (ev_pos (by rw [c]) (ev_ret rfl)))
    · refine ⟨v, by simpa [c] using hv, Ev.step (fun k => by rw [slices_Index_string_string.l0]) ?_⟩
      rw [rdOf_nat, hx, wsucc hi (by omega)]
      exact ev_pos (by omega) (ev_pos (by omega) (ev_neg (fun q => c (ba_ext q).symm) he))
  obtain ⟨v, hv, he⟩ := key
  unfold impl_has.f slices_Contains_string_string.f
  exact Ev.bind (Ev.bind he (ev_ret hv)) (ev_ret rfl)
/-! ### stuffs: what a valid book is -/
theorem befB_of {a0 a1 b0 b1 : ByteArray} (h : Op.bytesLess b0.toList a0.toList = false) : befB a0 a1 b0 b1 = (decide (a0 = b0 → Op.bytesLess a1.toList b1.toList = true)) := by
  unfold befB
  rcases lt_tri a0 b0 with c | c | c
  · rw [c, decide_eq_true (fun e => absurd e (lt_ne c))]; rfl
  · subst c; rw [lt_irr, decide_eq_true rfl]
    cases q : Op.bytesLess a1.toList b1.toList <;> simp [lt, q]
  · have : Op.bytesLess b0.toList a0.toList = true := c
    rw [h] at this; cases this
theorem befB_no {a0 a1 b0 b1 : ByteArray} (h : Op.bytesLess b0.toList a0.toList = true) : befB a0 a1 b0 b1 = false := by
  unfold befB
  rw [lt_asym h, decide_eq_false (fun e => lt_ne h e.symm)]; rfl
theorem rdSF (l : List S_impl_StuffFoe) (i : Nat) : rd_impl_StuffFoe l (i : Int) = l.getD i z_impl_StuffFoe := by unfold rd_impl_StuffFoe; rw [Int.toNat_natCast]
theorem rdSL (l : List S_impl_StuffLot) (i : Nat) : rd_impl_StuffLot l (i : Int) = l.getD i z_impl_StuffLot := by unfold rd_impl_StuffLot; rw [Int.toNat_natCast]
theorem rdSP (l : List S_impl_StuffPart) (i : Nat) : rd_impl_StuffPart l (i : Int) = l.getD i z_impl_StuffPart := by unfold rd_impl_StuffPart; rw [Int.toNat_natCast]
theorem rdSV (l : List S_impl_StuffVessel) (i : Nat) : rd_impl_StuffVessel l (i : Int) = l.getD i z_impl_StuffVessel := by unfold rd_impl_StuffVessel; rw [Int.toNat_natCast]
theorem rdSO (l : List S_impl_StuffOut) (i : Nat) : rd_impl_StuffOut l (i : Int) = l.getD i z_impl_StuffOut := by unfold rd_impl_StuffOut; rw [Int.toNat_natCast]
def foeLt (x y : S_impl_StuffFoe) : Bool := befB x.f0 x.f1 y.f0 y.f1
def foeB (x : S_impl_StuffFoe) : Bool := nameB x.f0 && (nameB x.f1 && lt x.f0 x.f1)
def foesB (f : List S_impl_StuffFoe) : Bool := f.all foeB && chainB foeLt none f
def foeHas (f : List S_impl_StuffFoe) (a b : ByteArray) : Bool := f.any fun x => (decide (x.f0 = a) && decide (x.f1 = b)) || (decide (x.f0 = b) && decide (x.f1 = a))
def lotLt (x y : S_impl_StuffLot) : Bool := lt x.f0 y.f0
def lotB (x : S_impl_StuffLot) : Bool := nameB x.f0 && nameB x.f1
def lotsB (l : List S_impl_StuffLot) : Bool := l.all lotB && chainB lotLt none l
/-- the stuff of a lot, none if there is no such lot -/
def stuffOf (x : ByteArray) : List S_impl_StuffLot → ByteArray
  | [] => (⟨#[]⟩ : ByteArray)
  | y :: r => if y.f0 = x then y.f1 else stuffOf x r
section
variable (f : List S_impl_StuffFoe) (l : List S_impl_StuffLot) (v : List S_impl_StuffVessel) (o : List S_impl_StuffOut)
theorem l12FoesOk_ev (hf : f.length ≤ 140737488351232) :
    Ev (fun k => spec_l12FoesOk.f k f l v o) (decide (f.length ≤ 12) && foesB f) := by
  unfold spec_l12FoesOk.f
  refine ev_split (fun c => ev_ret (by rw [decide_eq_false (by omega : ¬ f.length ≤ 12)]; rfl)) (fun c => ?_)
  rw [decide_eq_true (by omega : f.length ≤ 12), Bool.true_and]
  refine loopL z_impl_StuffFoe f (P := fun i r => Ev (fun k => spec_l12FoesOk.l0 k f (i : Int)) (r.all foeB && chainB foeLt (ahead z_impl_StuffFoe f i) r))
    (by refine Ev.step (fun k => by rw [spec_l12FoesOk.l0]) ?_; exact ev_neg (by omega) (ev_ret rfl)) (fun i x r hi hx hm _ ih => ?_)
  refine Ev.step (fun k => by rw [spec_l12FoesOk.l0]) (ev_pos (by omega) (ev_pos (by omega) ?_))
  rw [wsucc hi (by omega), rdSF, hx]
  rw [ahead_succ, hx] at ih
  clear hx hm
  by_cases z : i = 0
  · subst z
    rw [ahead_zero]
    repeat' (first
      | with_reducible refine Ev.bind (l12NameOk_ev _) ?_
      | with_reducible refine ev_pos (by omega) ?_
      | with_reducible refine ev_neg (by omega) ?_
      | with_reducible refine ev_b (fun c => ?_) (fun c => ?_)
      | with_reducible refine ev_split (fun c => ?_) (fun c => ?_))
    all_goals (first
      | (with_reducible refine ev_ret ?_; simp_all [chainB, lt, ba_iff, foeB, foeLt]; done)
      | (with_reducible refine ev_eq (ih) ?_; simp_all [chainB, lt, ba_iff, foeB, foeLt]; done))
  · rw [pre64 z (by omega), rdSF, ahead_pos _ _ _ z]
    generalize f.getD (i - 1) z_impl_StuffFoe = y
    have hb := @befB_of y.f0 y.f1 x.f0 x.f1
    have hc := @befB_no y.f0 y.f1 x.f0 x.f1
    repeat' (first
      | with_reducible refine Ev.bind (l12NameOk_ev _) ?_
      | with_reducible refine ev_pos (by omega) ?_
      | with_reducible refine ev_neg (by omega) ?_
      | with_reducible refine ev_b (fun c => ?_) (fun c => ?_)
      | with_reducible refine ev_split (fun c => ?_) (fun c => ?_))
    all_goals (first
      | (with_reducible refine ev_ret ?_; simp_all [chainB, lt, ba_iff, foeB, foeLt]; done)
      | (with_reducible refine ev_eq (ih) ?_; simp_all [chainB, lt, ba_iff, foeB, foeLt]; done))
theorem l12Foes_ev (a b : ByteArray) (hf : f.length ≤ 140737488351232) :
    Ev (fun k => spec_l12Foes.f k f l v o a b) (foeHas f a b) := by
  unfold spec_l12Foes.f foeHas
  refine loopL z_impl_StuffFoe f (P := fun i r => Ev (fun k => spec_l12Foes.l0 k f a b (i : Int)) (r.any fun x => (decide (x.f0 = a) && decide (x.f1 = b)) || (decide (x.f0 = b) && decide (x.f1 = a))))
    (by refine Ev.step (fun k => by rw [spec_l12Foes.l0]) ?_; exact ev_neg (by omega) (ev_ret rfl)) (fun i x r hi hx hm _ ih => ?_)
  refine Ev.step (fun k => by rw [spec_l12Foes.l0]) (ev_pos (by omega) (ev_pos (by omega) ?_))
  rw [wsucc hi (by omega), rdSF, hx]
  clear hx hm
  repeat' (first
    | with_reducible refine ev_pos (by omega) ?_
    | with_reducible refine ev_neg (by omega) ?_
    | with_reducible refine ev_b (fun c => ?_) (fun c => ?_)
    | with_reducible refine ev_split (fun c => ?_) (fun c => ?_))
  all_goals (first
    | (with_reducible refine ev_ret ?_; simp_all [chainB, lt, ba_iff]; done)
    | (with_reducible refine ev_eq (ih) ?_; simp_all [chainB, lt, ba_iff]; done))
theorem l12LotsOk_ev (hl : l.length ≤ 140737488351232) : Ev (fun k => spec_l12LotsOk.f k f l v o) (decide (l.length ≤ 16) && lotsB l) := by
  unfold spec_l12LotsOk.f
  refine ev_split (fun c => ev_ret (by rw [decide_eq_false (by omega : ¬ l.length ≤ 16)]; rfl)) (fun c => ?_)
  rw [decide_eq_true (by omega : l.length ≤ 16), Bool.true_and]
  refine loopL z_impl_StuffLot l (P := fun i r => Ev (fun k => spec_l12LotsOk.l0 k l (i : Int)) (r.all lotB && chainB lotLt (ahead z_impl_StuffLot l i) r))
    (by refine Ev.step (fun k => by rw [spec_l12LotsOk.l0]) ?_; exact ev_neg (by omega) (ev_ret rfl)) (fun i x r hi hx hm _ ih => ?_)
  refine Ev.step (fun k => by rw [spec_l12LotsOk.l0]) (ev_pos (by omega) (ev_pos (by omega) ?_))
  rw [wsucc hi (by omega), rdSL, hx]
  rw [ahead_succ, hx] at ih
  clear hx hm
  by_cases z : i = 0
  · subst z
    rw [ahead_zero]
    repeat' (first
      | with_reducible refine Ev.bind (l12NameOk_ev _) ?_
      | with_reducible refine ev_pos (by omega) ?_
      | with_reducible refine ev_neg (by omega) ?_
      | with_reducible refine ev_b (fun c => ?_) (fun c => ?_)
      | with_reducible refine ev_split (fun c => ?_) (fun c => ?_))
    all_goals (first
      | (with_reducible refine ev_ret ?_; simp_all [chainB, lt, ba_iff, lotB, lotLt]; done)
      | (with_reducible refine ev_eq (ih) ?_; simp_all [chainB, lt, ba_iff, lotB, lotLt]; done))
  · rw [pre64 z (by omega), rdSL, ahead_pos _ _ _ z]
    generalize l.getD (i - 1) z_impl_StuffLot = y
    repeat' (first
      | with_reducible refine Ev.bind (l12NameOk_ev _) ?_
      | with_reducible refine ev_pos (by omega) ?_
      | with_reducible refine ev_neg (by omega) ?_
      | with_reducible refine ev_b (fun c => ?_) (fun c => ?_)
      | with_reducible refine ev_split (fun c => ?_) (fun c => ?_))
    all_goals (first
      | (with_reducible refine ev_ret ?_; simp_all [chainB, lt, ba_iff, lotB, lotLt]; done)
      | (with_reducible refine ev_eq (ih) ?_; simp_all [chainB, lt, ba_iff, lotB, lotLt]; done))
theorem l12Stuff_ev (x : ByteArray) (hl : l.length ≤ 140737488351232) : Ev (fun k => spec_l12Stuff.f k f l v o x) (stuffOf x l) := by
  unfold spec_l12Stuff.f
  refine loopL z_impl_StuffLot l (P := fun i r => Ev (fun k => spec_l12Stuff.l0 k l x (i : Int)) (stuffOf x r))
    (by refine Ev.step (fun k => by rw [spec_l12Stuff.l0]) ?_; exact ev_neg (by omega) (ev_ret rfl)) (fun i y r hi hx hm _ ih => ?_)
  refine Ev.step (fun k => by rw [spec_l12Stuff.l0]) (ev_pos (by omega) (ev_pos (by omega) ?_))
  rw [wsucc hi (by omega), rdSL, hx]
  unfold stuffOf
  exact ev_split (fun c => ev_ret (by rw [if_pos (ba_iff.1 c)])) (fun c => ev_eq ih (by rw [if_neg (fun e => c (ba_iff.2 e))]))
end
/-! ### stuffs: what the program says of them -/
def mkPair (x : S_impl_StuffFoe) : S_A2_string := ⟨x.f0, x.f1⟩
theorem rdA2 (l : List S_A2_string) (i : Nat) : rd_A2_string l (i : Int) = l.getD i z_A2_string := by unfold rd_A2_string; rw [Int.toNat_natCast]
def pairLt (x y : S_A2_string) : Bool := befB x.f0 x.f1 y.f0 y.f1
def pairB (x : S_A2_string) : Bool := nameB x.f0 && (nameB x.f1 && lt x.f0 x.f1)
def pairsB (l : List S_A2_string) : Bool := l.all pairB && chainB pairLt none l
theorem foesOk_ev (l : List S_A2_string) (a : Int) (hn : l.length ≤ 140737488351232) (h : ∀ x ∈ l, x.f0.size ≤ 140737488351232 ∧ x.f1.size ≤ 140737488351232) :
    Ev (fun k => impl_foesOk.f k l a) (pairsB l && decide ((l.length : Int) ≤ a)) := by
  unfold impl_foesOk.f
  refine loopL z_A2_string l (P := fun i r => Ev (fun k => impl_foesOk.l0 k l a (i : Int)) ((r.all pairB && chainB pairLt (ahead z_A2_string l i) r) && decide ((l.length : Int) ≤ a)))
    (by refine Ev.step (fun k => by rw [impl_foesOk.l0]) ?_; exact ev_neg (by omega) (ev_ret rfl)) (fun i x r hi hx hm _ ih => ?_)
  refine Ev.step (fun k => by rw [impl_foesOk.l0]) (ev_pos (by omega) (ev_pos (by omega) ?_))
  obtain ⟨q0, q1⟩ := h x hm
  rw [wsucc hi (by omega), rdA2, hx]
  rw [ahead_succ, hx] at ih
  generalize decide ((l.length : Int) ≤ a) = D at ih ⊢
  clear hx h hm
  by_cases z : i = 0
  · subst z
    rw [ahead_zero]
    repeat' (first
      | with_reducible refine Ev.bind (isName_ev _ q0) ?_
      | with_reducible refine Ev.bind (isName_ev _ q1) ?_
      | with_reducible refine ev_pos (by omega) ?_
      | with_reducible refine ev_neg (by omega) ?_
      | with_reducible refine ev_b (fun c => ?_) (fun c => ?_)
      | with_reducible refine ev_split (fun c => ?_) (fun c => ?_))
    all_goals (first
      | (with_reducible refine ev_ret ?_; simp_all [chainB, lt, ba_iff, pairB, pairLt]; done)
      | (with_reducible refine ev_eq (ih) ?_; simp_all [chainB, lt, ba_iff, pairB, pairLt]; done))
  · rw [pre64 z (by omega), rdA2, ahead_pos _ _ _ z]
    generalize l.getD (i - 1) z_A2_string = y
    have hb := @befB_of y.f0 y.f1 x.f0 x.f1
    have hc := @befB_no y.f0 y.f1 x.f0 x.f1
    repeat' (first
      | with_reducible refine Ev.bind (isName_ev _ q0) ?_
      | with_reducible refine Ev.bind (isName_ev _ q1) ?_
      | with_reducible refine ev_pos (by omega) ?_
      | with_reducible refine ev_neg (by omega) ?_
      | with_reducible refine ev_b (fun c => ?_) (fun c => ?_)
      | with_reducible refine ev_split (fun c => ?_) (fun c => ?_))
    all_goals (first
      | (with_reducible refine ev_ret ?_; simp_all [chainB, lt, ba_iff, pairB, pairLt]; done)
      | (with_reducible refine ev_eq (ih) ?_; simp_all [chainB, lt, ba_iff, pairB, pairLt]; done))
theorem chain_map {α β : Type} {p : α → α → Bool} {q : β → β → Bool} (g : α → β) (h : ∀ x y, q (g x) (g y) = p x y) : ∀ (r : List α) (o : Option α), chainB q (o.map g) (r.map g) = chainB p o r
  | [], o => by cases o <;> rfl
  | x :: r, none => chain_map g h r (some x)
  | x :: r, some y => by
    show (q (g y) (g x) && chainB q (some (g x)) (r.map g)) = (p y x && chainB p (some x) r)
    rw [h]; congr 1; exact chain_map g h r (some x)
theorem pairs_same (f : List S_impl_StuffFoe) : pairsB (f.map mkPair) = foesB f := by
  unfold pairsB foesB
  rw [show chainB pairLt none (f.map mkPair) = chainB foeLt none f from chain_map mkPair (fun _ _ => rfl) f none, List.all_map]
  rfl
def clashB (f : List S_impl_StuffFoe) (l m : List ByteArray) : Bool := l.any fun a => m.any (foeHas f a)
section
variable (f : List S_impl_StuffFoe) (l : List S_impl_StuffLot) (v : List S_impl_StuffVessel) (o : List S_impl_StuffOut)
theorem pairs_ev (hf : f.length ≤ 4398046511104) : Ev (fun k => impl_StuffBook_pairs.f k f l v o) (f.map mkPair) := by
  unfold impl_StuffBook_pairs.f
  have key := loopL z_impl_StuffFoe f (P := fun i r => ∀ acc : List S_A2_string, acc.length = i → Ev (fun k => impl_StuffBook_pairs.l0 k f acc (i : Int)) (acc ++ r.map mkPair))
    (fun acc h => by refine Ev.step (fun k => by rw [impl_StuffBook_pairs.l0]) ?_; exact ev_neg (by omega) (ev_ret (by simp))) (fun i x r hi hx _ _ ih acc h => ?_)
  · simpa using key [] rfl
  refine Ev.step (fun k => by rw [impl_StuffBook_pairs.l0]) (ev_pos (by omega) (ev_pos (by omega) (ev_pos (by omega) ?_)))
  rw [wsucc hi (by omega), rdSF, hx]
  refine ev_eq (ih _ (by simp [h])) (by simp [mkPair])
theorem foes_ev (a b : ByteArray) (hf : f.length ≤ 140737488351232) : Ev (fun k => impl_foes.f k (f.map mkPair) a b) (foeHas f a b) := by
  unfold impl_foes.f foeHas
  refine loopL z_impl_StuffFoe f (P := fun i r => Ev (fun k => impl_foes.l0 k (f.map mkPair) a b (i : Int)) (r.any fun x => (decide (x.f0 = a) && decide (x.f1 = b)) || (decide (x.f0 = b) && decide (x.f1 = a))))
    (by refine Ev.step (fun k => by rw [impl_foes.l0]) ?_; exact ev_neg (by rw [List.length_map]; omega) (ev_ret rfl)) (fun i x r hi hx hm _ ih => ?_)
  refine Ev.step (fun k => by rw [impl_foes.l0]) (ev_pos (by rw [List.length_map]; omega) (ev_pos (by omega) ?_))
  rw [wsucc hi (by omega), rdA2, map_getD z_A2_string z_impl_StuffFoe mkPair f i hi, hx]
  simp only [mkPair, ba_iff, Bool.and_true]
  refine ev_b (fun c => ev_ret (by rw [List.any_cons, c]; rfl)) (fun c => ev_b (fun c2 => ev_ret (by rw [List.any_cons, c2]; simp)) (fun c2 => ev_eq ih (by rw [List.any_cons, c, c2]; rfl)))
theorem anyFoes_ev (a b : List ByteArray) (hf : f.length ≤ 140737488351232) (hl : a.length ≤ 140737488351232) (ho : b.length ≤ 140737488351232) : Ev (fun k => impl_anyFoes.f k (f.map mkPair) a b) (clashB f a b) := by
  unfold impl_anyFoes.f clashB
  refine loopL ByteArray.empty a (P := fun i r => Ev (fun k => impl_anyFoes.l0 k (f.map mkPair) a b (i : Int)) (r.any fun z => b.any (foeHas f z)))
    (by refine Ev.step (fun k => by rw [impl_anyFoes.l0]) ?_; exact ev_neg (by omega) (ev_ret rfl)) (fun i x r hi hx hm _ ih => ?_)
  refine Ev.step (fun k => by rw [impl_anyFoes.l0]) (ev_pos (by omega) (ev_pos (by omega) ?_))
  rw [List.any_cons]
  refine loopL ByteArray.empty b (P := fun j d => Ev (fun k => impl_anyFoes.l1 k (f.map mkPair) a b (i : Int) (j : Int)) (d.any (foeHas f x) || r.any fun z => b.any (foeHas f z)))
    (by refine Ev.step (fun k => by rw [impl_anyFoes.l1]) ?_; rw [wsucc hi (by omega)]; exact ev_neg (by omega) (ev_eq ih rfl)) (fun j y d hj hy hmy _ ih2 => ?_)
  refine Ev.step (fun k => by rw [impl_anyFoes.l1]) (ev_pos (by omega) (ev_pos (by omega) ?_))
  rw [wsucc hj (by omega), rdOf_nat, rdOf_nat, hx, hy]
  refine Ev.bind (foes_ev f x y hf) (ev_b (fun c => ev_ret (by rw [List.any_cons, c]; rfl)) (fun c => ev_eq ih2 (by rw [List.any_cons, c]; rfl)))
theorem implStuff_ev (x : ByteArray) (hl : l.length ≤ 140737488351232) : Ev (fun k => impl_StuffBook_stuff.f k f l v o x) (stuffOf x l, l.any fun y => decide (y.f0 = x)) := by
  unfold impl_StuffBook_stuff.f
  refine loopL z_impl_StuffLot l (P := fun i r => Ev (fun k => impl_StuffBook_stuff.l0 k l x (i : Int)) (stuffOf x r, r.any fun y => decide (y.f0 = x)))
    (by refine Ev.step (fun k => by rw [impl_StuffBook_stuff.l0]) ?_; exact ev_neg (by omega) (ev_ret rfl)) (fun i y r hi hx hm _ ih => ?_)
  refine Ev.step (fun k => by rw [impl_StuffBook_stuff.l0]) (ev_pos (by omega) (ev_pos (by omega) ?_))
  rw [wsucc hi (by omega), rdSL, hx, List.any_cons]
  unfold stuffOf
  exact ev_split (fun c => ev_ret (by rw [ba_iff] at c; rw [if_pos c, decide_eq_true c]; rfl)) (fun c => ev_eq ih (by rw [ba_iff] at c; rw [if_neg c, decide_eq_false c]; rfl))
end
/-! ### sets of texts, sorted -/
theorem sort_ev (a : List ByteArray) (h : a.length ≤ 4611686018427387903) : ∃ r, Ev (fun _ => sort_Strings.f a) r ∧ r.length = a.length ∧ ∀ x, x ∈ r ↔ x ∈ a := by
  have e : sortSf a = some (sortS a) := by unfold sortSf; rw [if_pos (by omega)]
  refine ⟨sortS a, ?_, sortS_len e, sortS_mem e⟩
  unfold sort_Strings.f
  rw [e]
  exact Ev.now _
theorem with_ev (a b : List ByteArray) (h : a.length + b.length ≤ 8796093022207) : ∃ r, Ev (fun k => impl_with.f k a b) r ∧ r.length ≤ a.length + b.length ∧ ∀ x, x ∈ r ↔ x ∈ a ∨ x ∈ b := by
  have key := loopL ByteArray.empty b (P := fun i d => i + d.length = b.length → ∀ acc : List ByteArray, acc.length ≤ a.length + i → ∃ r, Ev (fun k => impl_with.l0 k a b acc (i : Int)) r ∧ r.length ≤ acc.length + d.length ∧ ∀ x, x ∈ r ↔ x ∈ acc ∨ x ∈ d)
    (fun _ acc hacc => by
      obtain ⟨r, h1, h2, h3⟩ := sort_ev acc (by omega)
      refine ⟨r, Ev.step (fun k => by rw [impl_with.l0]) (ev_neg (by omega) (Ev.bind h1 (ev_ret rfl))), by simp; omega, fun x => by rw [h3]; simp⟩)
    (fun i y d hi hy hm hd ih hl acc hacc => by
      rw [List.length_cons] at hl
      have step : ∀ acc' : List ByteArray, acc'.length ≤ acc.length + 1 → _ := fun acc' h' => ih (by omega) acc' (by omega)
      have hh := has_ev acc y (by omega)
      cases c : hasB acc y with
      | true =>
        rw [c] at hh
        obtain ⟨r, h1, h2, h3⟩ := step acc (by omega)
        refine ⟨r, Ev.step (fun k => by rw [impl_with.l0]) (ev_pos (by omega) (ev_pos (by omega) ?_)), by rw [List.length_cons]; omega, fun x => ?_⟩
        · rw [wsucc hi (by omega), rdOf_nat, hy]
          exact Ev.bind hh (ev_pos rfl h1)
        · rw [h3, List.mem_cons]
          have := hasB_iff.1 c
          constructor
          · rintro (q | q)
            · exact .inl q
            · exact .inr (.inr q)
          · rintro (q | q | q)
            · exact .inl q
            · exact .inl (q ▸ this)
            · exact .inr q
      | false =>
        rw [c] at hh
        obtain ⟨r, h1, h2, h3⟩ := step (acc ++ [y]) (by simp)
        refine ⟨r, Ev.step (fun k => by rw [impl_with.l0]) (ev_pos (by omega) (ev_pos (by omega) ?_)), by rw [List.length_append, List.length_singleton] at h2; rw [List.length_cons]; omega, fun x => ?_⟩
        · rw [wsucc hi (by omega), rdOf_nat, hy]
          exact Ev.bind hh (ev_neg (by simp) (ev_pos (by omega) h1))
        · rw [h3, List.mem_cons, List.mem_append, List.mem_singleton, or_assoc])
  obtain ⟨r, h1, h2, h3⟩ := key (by omega) a (by omega)
  refine ⟨r, ?_, h2, h3⟩
  unfold impl_with.f
  exact ev_pos (by omega) h1
/-! ### the stuffs of lots -/
theorem stuffs_ev (f : List S_impl_StuffFoe) (l : List S_impl_StuffLot) (v : List S_impl_StuffVessel) (o : List S_impl_StuffOut) (b : List ByteArray) (hl : l.length ≤ 140737488351232) (h : b.length ≤ 8796093022206) :
    ∃ r, Ev (fun k => impl_StuffBook_stuffs.f k f l v o b) r ∧ r.length ≤ b.length ∧ ∀ x, x ∈ r ↔ ∃ y ∈ b, stuffOf y l = x := by
  have key := loopL ByteArray.empty b (P := fun i d => i + d.length = b.length → ∀ acc : List ByteArray, acc.length ≤ i → ∃ r, Ev (fun k => impl_StuffBook_stuffs.l0 k f l v o b acc (i : Int)) r ∧ r.length ≤ acc.length + d.length ∧ ∀ x, x ∈ r ↔ x ∈ acc ∨ ∃ y ∈ d, stuffOf y l = x)
    (fun _ acc hacc => ⟨acc, Ev.step (fun k => by rw [impl_StuffBook_stuffs.l0]) (ev_neg (by omega) (ev_ret rfl)), by simp, fun x => by simp⟩)
    (fun i y r hi hy hm hd ih hlen acc hacc => by
      rw [List.length_cons] at hlen
      obtain ⟨q, h1, h2, h3⟩ := with_ev acc [stuffOf y l] (by rw [List.length_singleton]; omega)
      rw [List.length_singleton] at h2
      obtain ⟨w, g1, g2, g3⟩ := ih (by omega) q (by omega)
      refine ⟨w, Ev.step (fun k => by rw [impl_StuffBook_stuffs.l0]) (ev_pos (by omega) (ev_pos (by omega) ?_)), by rw [List.length_cons]; omega, fun x => ?_⟩
      · rw [wsucc hi (by omega), rdOf_nat, hy]
        exact Ev.bind (implStuff_ev f l v o y hl) (Ev.bind h1 g1)
      · rw [g3, h3, List.mem_singleton]
        simp only [List.mem_cons, exists_eq_or_imp]
        rw [or_assoc, eq_comm])
  obtain ⟨r, h1, h2, h3⟩ := key (by omega) [] (Nat.zero_le _)
  exact ⟨r, by unfold impl_StuffBook_stuffs.f; exact h1, by simpa using h2, by simpa using h3⟩
/-! ### what a vessel holds -/
def hpB (l2 : List ByteArray) (x : S_impl_StuffPart) : Bool := hasB l2 x.f0 && inB x.f1 1 1000
def hpLt (x y : S_impl_StuffPart) : Bool := lt x.f0 y.f0
def sumP : List S_impl_StuffPart → Int
  | [] => 0
  | x :: r => x.f1 + sumP r
theorem sumP_pos (l2 : List ByteArray) : ∀ r : List S_impl_StuffPart, r.all (hpB l2) = true → 0 ≤ sumP r
  | [], _ => Int.le_refl _
  | x :: r, h => by
    rw [List.all_cons, Bool.and_eq_true] at h
    have := sumP_pos l2 r h.2
    have h1 := h.1
    unfold hpB at h1
    rw [Bool.and_eq_true] at h1
    have h2 := h1.2
    unfold inB at h2
    have := of_decide_eq_true h2
    show 0 ≤ x.f1 + sumP r
    omega
theorem over_no (l2 : List ByteArray) {r : List S_impl_StuffPart} {t a : Int} {C T : Bool} (h : t > a) : (r.all (hpB l2) && (C && (decide (t + sumP r ≤ a) && T))) = false := by
  cases c : r.all (hpB l2) with
  | false => rfl
  | true =>
    have := sumP_pos l2 r c
    rw [decide_eq_false (by omega : ¬ t + sumP r ≤ a)]; simp
theorem holds0_ev (f : List S_impl_StuffFoe) (l : List S_impl_StuffLot) (v : List S_impl_StuffVessel) (o : List S_impl_StuffOut) (p : List S_impl_StuffPart) (b : List ByteArray) (a : Int) {T : Bool} (ha : 1 ≤ a ∧ a ≤ 1000) (hp : p.length ≤ 140737488351232) (hb : b.length ≤ 140737488351232)
    (hT : Ev (fun k => spec_l12HoldsOk.l1 k f l v o p b 0) T) : Ev (fun k => spec_l12HoldsOk.f k f l v o p b a) (p.all (hpB b) && (chainB hpLt none p && (decide (sumP p ≤ a) && T))) := by
  unfold spec_l12HoldsOk.f
  have key := loopL z_impl_StuffPart p (P := fun i r => ∀ t : Int, 0 ≤ t → t ≤ a → Ev (fun k => spec_l12HoldsOk.l0 k f l v o p b a t (i : Int)) (r.all (hpB b) && (chainB hpLt (ahead z_impl_StuffPart p i) r && (decide (t + sumP r ≤ a) && T))))
    (fun t h0 h1 => by refine Ev.step (fun k => by rw [spec_l12HoldsOk.l0]) ?_; exact ev_neg (by omega) (ev_eq hT (by rw [decide_eq_true (by show t + 0 ≤ a; omega : t + sumP [] ≤ a)]; rfl))) (fun i x r hi hx hm _ ih t h0 h1 => ?_)
  · exact ev_eq (key 0 (by omega) (by omega)) (by rw [ahead_zero, Int.zero_add])
  refine Ev.step (fun k => by rw [spec_l12HoldsOk.l0]) (ev_pos (by omega) (ev_pos (by omega) ?_))
  rw [wsucc hi (by omega), rdSP, hx, List.all_cons]
  rw [ahead_succ, hx] at ih
  refine Ev.bind (l12Has_ev b _ hb) (ev_b (fun c1 => ?_) (fun c1 => ev_ret (by rw [hpB, c1]; rfl)))
  refine Ev.bind (l11In_ev _ _ _) (ev_b (fun c2 => ?_) (fun c2 => ev_ret (by rw [hpB, c2]; simp)))
  have c3 : 1 ≤ x.f1 ∧ x.f1 ≤ 1000 := by unfold inB at c2; exact of_decide_eq_true c2
  have hw : wrap64 (t + x.f1) = t + x.f1 := by unfold wrap64; omega
  rw [hw, show hpB b x = true by rw [hpB, c1, c2]; rfl, Bool.true_and, show t + sumP (x :: r) = t + x.f1 + sumP r by show t + (x.f1 + sumP r) = _; omega]
  by_cases z : i = 0
  · subst z
    rw [ahead_zero, chain_none]
    exact ev_neg (by omega) (ev_split (fun c => ev_ret (over_no b c).symm) (fun c => ih _ (by omega) (by omega)))
  · rw [pre64 z (by omega), rdSP, ahead_pos _ _ _ z]
    generalize p.getD (i - 1) z_impl_StuffPart = y
    refine ev_pos (by omega) (ev_pos (by omega) (ev_pos (by omega) (ev_b (fun d => ?_) (fun d => ev_ret (by rw [chainB, hpLt, lt, d]; simp)))))
    rw [chainB, hpLt, lt, d, Bool.true_and]
    exact ev_split (fun c => ev_ret (over_no b c).symm) (fun c => ih _ (by omega) (by omega))
/-! ### lots that lie together -/
def lotsFree (f : List S_impl_StuffFoe) (l : List S_impl_StuffLot) (b : List ByteArray) : Nat → List ByteArray → Bool
  | _, [] => true
  | i, x :: r => (!decide (stuffOf x l = (⟨#[]⟩ : ByteArray)) && ((match ahead ByteArray.empty b i with | none => true | some y => lt y x) && !(b.take i).any (fun y => foeHas f (stuffOf x l) (stuffOf y l)))) && lotsFree f l b (i + 1) r
theorem holds1_ev (f : List S_impl_StuffFoe) (l : List S_impl_StuffLot) (v : List S_impl_StuffVessel) (o : List S_impl_StuffOut) (p : List S_impl_StuffPart) (b : List ByteArray) (hf : f.length ≤ 140737488351232) (hl : l.length ≤ 140737488351232) (hb : b.length ≤ 140737488351232) :
    Ev (fun k => spec_l12HoldsOk.l1 k f l v o p b 0) (lotsFree f l b 0 b) := by
  refine loopL ByteArray.empty b (P := fun i r => Ev (fun k => spec_l12HoldsOk.l1 k f l v o p b (i : Int)) (lotsFree f l b i r))
    (by refine Ev.step (fun k => by rw [spec_l12HoldsOk.l1]) ?_; exact ev_neg (by omega) (ev_ret rfl)) (fun i x r hi hx hm _ ih => ?_)
  have hlen : (b.take i).length = i := by rw [List.length_take]; omega
  have tg : ∀ j, j < i → (b.take i).getD j ByteArray.empty = b.getD j ByteArray.empty := fun j h => by
    rw [List.getD_eq_getElem?_getD, List.getD_eq_getElem?_getD, List.getElem?_take, if_pos h]
  have L2 : Ev (fun k => spec_l12HoldsOk.l2 k f l v o p b (i : Int) 0) (!(b.take i).any (fun y => foeHas f (stuffOf x l) (stuffOf y l)) && lotsFree f l b (i + 1) r) := by
    refine loopL ByteArray.empty (b.take i) (P := fun j d => Ev (fun k => spec_l12HoldsOk.l2 k f l v o p b (i : Int) (j : Int)) (!d.any (fun y => foeHas f (stuffOf x l) (stuffOf y l)) && lotsFree f l b (i + 1) r))
      (by refine Ev.step (fun k => by rw [spec_l12HoldsOk.l2]) ?_; rw [wsucc hi (by omega)]; exact ev_neg (by omega) (ev_eq ih rfl)) (fun j y d hj hy hmy _ ih2 => ?_)
    rw [tg j (by omega)] at hy
    refine Ev.step (fun k => by rw [spec_l12HoldsOk.l2]) (ev_pos (by omega) ?_)
    rw [wsucc (show j < i by omega) (by omega), rdOf_nat, rdOf_nat, hx, hy]
    refine Ev.bind (l12Stuff_ev f l v o x hl) (ev_pos (by omega) (ev_pos (by omega) (Ev.bind (l12Stuff_ev f l v o y hl) (Ev.bind (l12Foes_ev f l v o _ _ hf) (ev_b (fun c => ev_ret (by rw [List.any_cons, c]; rfl)) (fun c => ev_eq ih2 (by rw [List.any_cons, c]; rfl)))))))
  have L3 : Ev (fun k => spec_l12HoldsOk.l3 k f l v o p b (i : Int) 0) (!(b.take i).any (fun y => foeHas f (stuffOf x l) (stuffOf y l)) && lotsFree f l b (i + 1) r) := by
    refine loopL ByteArray.empty (b.take i) (P := fun j d => Ev (fun k => spec_l12HoldsOk.l3 k f l v o p b (i : Int) (j : Int)) (!d.any (fun y => foeHas f (stuffOf x l) (stuffOf y l)) && lotsFree f l b (i + 1) r))
      (by refine Ev.step (fun k => by rw [spec_l12HoldsOk.l3]) ?_; rw [wsucc hi (by omega)]; exact ev_neg (by omega) (ev_eq ih rfl)) (fun j y d hj hy hmy _ ih2 => ?_)
    rw [tg j (by omega)] at hy
    refine Ev.step (fun k => by rw [spec_l12HoldsOk.l3]) (ev_pos (by omega) ?_)
    rw [wsucc (show j < i by omega) (by omega), rdOf_nat, rdOf_nat, hx, hy]
    refine Ev.bind (l12Stuff_ev f l v o x hl) (ev_pos (by omega) (ev_pos (by omega) (Ev.bind (l12Stuff_ev f l v o y hl) (Ev.bind (l12Foes_ev f l v o _ _ hf) (ev_b (fun c => ev_ret (by rw [List.any_cons, c]; rfl)) (fun c => ev_eq ih2 (by rw [List.any_cons, c]; rfl)))))))
  refine Ev.step (fun k => by rw [spec_l12HoldsOk.l1]) (ev_pos (by omega) (ev_pos (by omega) ?_))
  rw [rdOf_nat, hx, show lotsFree f l b i (x :: r) = ((!decide (stuffOf x l = (⟨#[]⟩ : ByteArray)) && ((match ahead ByteArray.empty b i with | none => true | some y => lt y x) && !(b.take i).any (fun y => foeHas f (stuffOf x l) (stuffOf y l)))) && lotsFree f l b (i + 1) r) from rfl]
  generalize lotsFree f l b (i + 1) r = R at *
  generalize (b.take i).any (fun y => foeHas f (stuffOf x l) (stuffOf y l)) = H at *
  refine Ev.bind (l12Stuff_ev f l v o x hl) (ev_split (fun c => ev_ret (by rw [decide_eq_true (ba_iff.1 c)]; rfl)) (fun c => ?_))
  rw [decide_eq_false (fun e => c (ba_iff.2 e))]
  by_cases z : i = 0
  · subst z
    exact ev_neg (by omega) (ev_eq L3 rfl)
  · rw [pre64 z (by omega), rdOf_nat, ahead_pos _ _ _ z]
    generalize b.getD (i - 1) ByteArray.empty = y
    refine ev_pos (by omega) (ev_pos (by omega) (ev_pos (by omega) (ev_b (fun d => ev_eq L2 ?_) (fun d => ev_ret ?_))))
    · simp only [lt]; rw [d]; rfl
    · simp only [lt]; rw [d]; rfl
/-! ### lots that lie together, told twice -/
def lotFound (l : List S_impl_StuffLot) (x : ByteArray) : Bool := l.any fun y => decide (y.f0 = x)
theorem nameB_ne {s : ByteArray} (h : nameB s = true) : s ≠ (⟨#[]⟩ : ByteArray) := by
  intro e; subst e
  unfold nameB at h
  rw [Bool.and_eq_true, decide_eq_true_iff] at h
  have h1 := h.1.1
  have : ByteArray.size (⟨#[]⟩ : ByteArray) = 0 := rfl
  omega
theorem stuffOf_found (x : ByteArray) : ∀ l : List S_impl_StuffLot, l.all lotB = true → (!decide (stuffOf x l = (⟨#[]⟩ : ByteArray))) = lotFound l x
  | [], _ => by simp [stuffOf, lotFound]
  | y :: r, h => by
    rw [List.all_cons, Bool.and_eq_true] at h
    have ih := stuffOf_found x r h.2
    unfold stuffOf
    rw [show lotFound (y :: r) x = (decide (y.f0 = x) || lotFound r x) from rfl]
    by_cases c : y.f0 = x
    · have hy := h.1
      unfold lotB at hy
      rw [Bool.and_eq_true] at hy
      rw [if_pos c, decide_eq_true c, decide_eq_false (nameB_ne hy.2)]; rfl
    · rw [if_neg c, decide_eq_false c, Bool.false_or]; exact ih
theorem foeHas_symm (f : List S_impl_StuffFoe) (a b : ByteArray) : foeHas f a b = foeHas f b a := by
  unfold foeHas
  congr 1; funext x; rw [Bool.or_comm]
theorem foeHas_self (f : List S_impl_StuffFoe) (h : foesB f = true) (a : ByteArray) : foeHas f a a = false := by
  unfold foesB at h
  rw [Bool.and_eq_true] at h
  unfold foeHas
  rw [← Bool.not_eq_true, List.any_eq_true]
  rintro ⟨x, hx, q⟩
  have hq := List.all_eq_true.1 h.1 x hx
  unfold foeB at hq
  rw [Bool.and_eq_true, Bool.and_eq_true] at hq
  have : x.f0 = x.f1 := by
    simp only [Bool.or_self, Bool.and_eq_true, decide_eq_true_eq] at q
    rw [q.1, q.2]
  exact lt_ne hq.2.2 this
theorem free_iff (f : List S_impl_StuffFoe) (l : List S_impl_StuffLot) (b : List ByteArray) : ∀ (r : List ByteArray) (i : Nat), b.drop i = r →
    (lotsFree f l b i r = true ↔ (∀ x ∈ r, (!decide (stuffOf x l = (⟨#[]⟩ : ByteArray))) = true) ∧ chainB lt (ahead ByteArray.empty b i) r = true ∧
      ∀ m, i ≤ m → m < b.length → ∀ j, j < m → foeHas f (stuffOf (b.getD m ByteArray.empty) l) (stuffOf (b.getD j ByteArray.empty) l) = false)
  | [], i, h => by
    have hl : b.length ≤ i := List.drop_eq_nil_iff.1 h
    have e : chainB lt (ahead ByteArray.empty b i) [] = true := by cases ahead ByteArray.empty b i <;> rfl
    exact ⟨fun _ => ⟨by simp, e, fun m h1 h2 => absurd h2 (by omega)⟩, fun _ => rfl⟩
  | x :: r, i, h => by
    have hi : i < b.length := by
      refine Nat.lt_of_not_le fun hle => ?_
      rw [List.drop_eq_nil_iff.2 hle] at h; cases h
    have e := List.drop_eq_getElem_cons hi
    rw [h] at e; injection e with e1 e2
    have hx : b.getD i ByteArray.empty = x := by rw [getD_eq _ b i hi]; exact e1.symm
    have ih := free_iff f l b r (i + 1) e2.symm
    rw [ahead_succ, hx] at ih
    have hc : chainB lt (ahead ByteArray.empty b i) (x :: r) = ((match ahead ByteArray.empty b i with | none => true | some y => lt y x) && chainB lt (some x) r) := by
      cases ahead ByteArray.empty b i with
      | none => rw [chain_none, Bool.true_and]
      | some y => rfl
    rw [show lotsFree f l b i (x :: r) = ((!decide (stuffOf x l = (⟨#[]⟩ : ByteArray)) && ((match ahead ByteArray.empty b i with | none => true | some y => lt y x) && !(b.take i).any (fun y => foeHas f (stuffOf x l) (stuffOf y l)))) && lotsFree f l b (i + 1) r) from rfl, hc]
    generalize (match ahead ByteArray.empty b i with | none => true | some y => lt y x) = M
    have hany : (!(b.take i).any (fun y => foeHas f (stuffOf x l) (stuffOf y l))) = true ↔ ∀ j, j < i → foeHas f (stuffOf x l) (stuffOf (b.getD j ByteArray.empty) l) = false := by
      rw [Bool.not_eq_true', ← Bool.not_eq_true, List.any_eq_true]
      constructor
      · intro q j hj
        rw [← Bool.not_eq_true]
        intro q2
        refine q ⟨b.getD j ByteArray.empty, ?_, q2⟩
        rw [getD_eq _ b j (by omega)]
        exact List.mem_take_iff_getElem.2 ⟨j, by omega, rfl⟩
      · rintro q ⟨y, hy, q2⟩
        obtain ⟨j, hj, rfl⟩ := List.mem_take_iff_getElem.1 hy
        have := q j (by omega)
        rw [getD_eq _ b j (by omega), q2] at this
        cases this
    rw [Bool.and_eq_true, Bool.and_eq_true, Bool.and_eq_true, Bool.and_eq_true, ih, hany]
    simp only [List.mem_cons, forall_eq_or_imp]
    constructor
    · rintro ⟨⟨a1, a2, a3⟩, c1, c2, c3⟩
      refine ⟨⟨a1, c1⟩, ⟨a2, c2⟩, fun m h1 h2 j hj => ?_⟩
      by_cases em : m = i
      · subst em; rw [hx]; exact a3 j hj
      · exact c3 m (by omega) h2 j hj
    · rintro ⟨⟨a1, c1⟩, ⟨a2, c2⟩, c3⟩
      exact ⟨⟨a1, a2, fun j hj => by have := c3 i (Nat.le_refl _) hi j hj; rwa [hx] at this⟩, c1, c2, fun m h1 h2 => c3 m (by omega) h2⟩
theorem free_eq (f : List S_impl_StuffFoe) (l : List S_impl_StuffLot) (b S : List ByteArray) (hf : foesB f = true) (hl : l.all lotB = true) (hS : ∀ x, x ∈ S ↔ ∃ y ∈ b, stuffOf y l = x) :
    lotsFree f l b 0 b = (b.all (lotFound l) && (chainB lt none b && !clashB f S S)) := by
  rw [Bool.eq_iff_iff, free_iff f l b b 0 rfl, Bool.and_eq_true, Bool.and_eq_true, List.all_eq_true, ahead_zero]
  simp only [stuffOf_found _ l hl]
  refine and_congr Iff.rfl (and_congr Iff.rfl ?_)
  rw [Bool.not_eq_true', ← Bool.not_eq_true]
  unfold clashB
  constructor
  · intro h q
    obtain ⟨a, ha, q⟩ := List.any_eq_true.1 q
    obtain ⟨c, hc, q⟩ := List.any_eq_true.1 q
    obtain ⟨x, hx, rfl⟩ := (hS a).1 ha
    obtain ⟨y, hy, rfl⟩ := (hS c).1 hc
    obtain ⟨m, hm, rfl⟩ := List.getElem_of_mem hx
    obtain ⟨j, hj, rfl⟩ := List.getElem_of_mem hy
    rcases Nat.lt_trichotomy m j with c | c | c
    · have := h j (Nat.zero_le _) hj m c
      rw [getD_eq _ b j hj, getD_eq _ b m hm, foeHas_symm, q] at this; cases this
    · subst c; rw [foeHas_self f hf] at q; cases q
    · have := h m (Nat.zero_le _) hm j c
      rw [getD_eq _ b j hj, getD_eq _ b m hm, q] at this; cases this
  · intro h m _ hm j hj
    rw [← Bool.not_eq_true]
    intro q
    refine h (List.any_eq_true.2 ⟨_, (hS _).2 ⟨_, mem_getD ByteArray.empty b m hm, rfl⟩, List.any_eq_true.2 ⟨_, (hS _).2 ⟨_, mem_getD ByteArray.empty b j (by omega), rfl⟩, q⟩⟩)
/-! ### books of stuffs -/
def vesHas (s : List S_impl_StuffVessel) (x : ByteArray) : Bool := s.any fun y => decide (y.f0 = x)
def vesIx (x : ByteArray) : List S_impl_StuffVessel → Nat → Int
  | [], _ => -1
  | y :: r, i => if y.f0 = x then (i : Int) else vesIx x r (i + 1)
theorem vesIx_no (x : ByteArray) : ∀ (r : List S_impl_StuffVessel) (i : Nat), vesHas r x = false → vesIx x r i = -1
  | [], i, _ => rfl
  | y :: r, i, h => by
    rw [show vesHas (y :: r) x = (decide (y.f0 = x) || vesHas r x) from rfl, Bool.or_eq_false_iff] at h
    rw [show vesIx x (y :: r) i = if y.f0 = x then (i : Int) else vesIx x r (i + 1) from rfl, if_neg (of_decide_eq_false h.1)]
    exact vesIx_no x r (i + 1) h.2
theorem vesIx_yes (x : ByteArray) : ∀ (r : List S_impl_StuffVessel) (i : Nat), vesHas r x = true → ∃ j, i ≤ j ∧ j < i + r.length ∧ vesIx x r i = (j : Int)
  | [], i, h => by simp [vesHas] at h
  | y :: r, i, h => by
    rw [show vesHas (y :: r) x = (decide (y.f0 = x) || vesHas r x) from rfl] at h
    rw [show vesIx x (y :: r) i = if y.f0 = x then (i : Int) else vesIx x r (i + 1) from rfl]
    by_cases c : y.f0 = x
    · exact ⟨i, Nat.le_refl _, by simp, by rw [if_pos c]⟩
    · rw [decide_eq_false c, Bool.false_or] at h
      obtain ⟨j, h1, h2, h3⟩ := vesIx_yes x r (i + 1) h
      exact ⟨j, by omega, by rw [List.length_cons]; omega, by rw [if_neg c]; exact h3⟩
theorem vesNeg (s : List S_impl_StuffVessel) (x : ByteArray) : (vesIx x s 0 < 0) ↔ vesHas s x = false := by
  cases h : vesHas s x with
  | false => rw [vesIx_no x s 0 h]; simp
  | true => obtain ⟨j, _, _, e⟩ := vesIx_yes x s 0 h; rw [e]; simp
theorem vesPos (s : List S_impl_StuffVessel) (x : ByteArray) : (vesIx x s 0 ≥ 0) ↔ vesHas s x = true := by
  have := vesNeg s x
  cases h : vesHas s x with
  | false => rw [h] at this; have := this.2 rfl; constructor <;> intro q <;> first | omega | cases q
  | true => rw [h] at this; have : ¬ vesIx x s 0 < 0 := fun q => by cases this.1 q
            constructor
            · intro _; rfl
            · intro _; omega
def holdB (f : List S_impl_StuffFoe) (l : List S_impl_StuffLot) (p : List S_impl_StuffPart) (b : List ByteArray) (a : Int) : Bool := p.all (hpB b) && (chainB hpLt none p && (decide (sumP p ≤ a) && lotsFree f l b 0 b))
def vesB (f : List S_impl_StuffFoe) (l : List S_impl_StuffLot) (x : S_impl_StuffVessel) : Bool := nameB x.f0 && (inB x.f1 1 1000 && holdB f l x.f2 x.f3 x.f1)
def vesLt (x y : S_impl_StuffVessel) : Bool := lt x.f0 y.f0
def outB (f : List S_impl_StuffFoe) (l : List S_impl_StuffLot) (v : List S_impl_StuffVessel) (x : S_impl_StuffOut) : Bool := nameB x.f0 && (!vesHas v x.f0 && holdB f l x.f1 x.f2 1000)
def outLt (x y : S_impl_StuffOut) : Bool := lt x.f0 y.f0
def stuffBookB (f : List S_impl_StuffFoe) (l : List S_impl_StuffLot) (v : List S_impl_StuffVessel) (o : List S_impl_StuffOut) : Bool :=
  (decide (f.length ≤ 12) && foesB f) && ((decide (l.length ≤ 16) && lotsB l) && (decide (v.length ≤ 8) && (decide (o.length ≤ 12) && ((v.all (vesB f l) && chainB vesLt none v) && (o.all (outB f l v) && chainB outLt none o)))))
structure SzSB (f : List S_impl_StuffFoe) (l : List S_impl_StuffLot) (v : List S_impl_StuffVessel) (o : List S_impl_StuffOut) : Prop where
  hf : f.length ≤ 4398046511104
  hl : l.length ≤ 140737488351232
  hv : v.length ≤ 140737488351232
  ho : o.length ≤ 140737488351232
  f1 : ∀ x ∈ f, x.f0.size ≤ 140737488351232 ∧ x.f1.size ≤ 140737488351232
  l1 : ∀ x ∈ l, x.f0.size ≤ 140737488351232 ∧ x.f1.size ≤ 140737488351232
  v1 : ∀ x ∈ v, x.f0.size ≤ 140737488351232 ∧ x.f2.length ≤ 8796093022206 ∧ x.f3.length ≤ 8796093022206
  o1 : ∀ x ∈ o, x.f0.size ≤ 140737488351232 ∧ x.f1.length ≤ 8796093022206 ∧ x.f2.length ≤ 8796093022206
section
variable (f : List S_impl_StuffFoe) (l : List S_impl_StuffLot) (v : List S_impl_StuffVessel) (o : List S_impl_StuffOut)
theorem l12Vessel_ev (x : ByteArray) (hs : v.length ≤ 140737488351232) : Ev (fun k => spec_l12Vessel.f k f l v o x) (vesIx x v 0) := by
  unfold spec_l12Vessel.f
  refine loopL z_impl_StuffVessel v (P := fun i r => Ev (fun k => spec_l12Vessel.l0 k v x (i : Int)) (vesIx x r i))
    (by refine Ev.step (fun k => by rw [spec_l12Vessel.l0]) ?_; exact ev_neg (by omega) (ev_ret rfl)) (fun i y r hi hx hm _ ih => ?_)
  refine Ev.step (fun k => by rw [spec_l12Vessel.l0]) (ev_pos (by omega) (ev_pos (by omega) ?_))
  rw [wsucc hi (by omega), rdSV, hx]
  unfold vesIx
  exact ev_split (fun c => ev_ret (by rw [if_pos (ba_iff.1 c)])) (fun c => ev_eq ih (by rw [if_neg (fun e => c (ba_iff.2 e))]))
theorem vessel_ev (x : ByteArray) (hs : v.length ≤ 140737488351232) : Ev (fun k => impl_StuffBook_vessel.f k f l v o x) (vesIx x v 0) := by
  unfold impl_StuffBook_vessel.f
  refine loopL z_impl_StuffVessel v (P := fun i r => Ev (fun k => impl_StuffBook_vessel.l0 k v x (i : Int)) (vesIx x r i))
    (by refine Ev.step (fun k => by rw [impl_StuffBook_vessel.l0]) ?_; exact ev_neg (by omega) (ev_ret rfl)) (fun i y r hi hx hm _ ih => ?_)
  refine Ev.step (fun k => by rw [impl_StuffBook_vessel.l0]) (ev_pos (by omega) (ev_pos (by omega) ?_))
  rw [wsucc hi (by omega), rdSV, hx]
  unfold vesIx
  exact ev_split (fun c => ev_ret (by rw [if_pos (ba_iff.1 c)])) (fun c => ev_eq ih (by rw [if_neg (fun e => c (ba_iff.2 e))]))
theorem l12Holds_ev (p : List S_impl_StuffPart) (b : List ByteArray) (a : Int) (ha : 1 ≤ a ∧ a ≤ 1000) (hf : f.length ≤ 140737488351232) (hl : l.length ≤ 140737488351232) (hp : p.length ≤ 140737488351232) (hb : b.length ≤ 140737488351232) :
    Ev (fun k => spec_l12HoldsOk.f k f l v o p b a) (holdB f l p b a) := holds0_ev f l v o p b a ha hp hb (holds1_ev f l v o p b hf hl hb)
theorem specStuffBook_ev (z : SzSB f l v o) : Ev (fun k => spec_StuffBookOk.f k f l v o) (stuffBookB f l v o) := by
  have hf := z.hf; have hl := z.hl; have hv := z.hv; have ho := z.ho
  have eF := l12FoesOk_ev f l v o (by omega)
  have eL := l12LotsOk_ev f l v o hl
  unfold spec_StuffBookOk.f stuffBookB
  have L1 : Ev (fun k => spec_StuffBookOk.l1 k f l v o 0) (o.all (outB f l v) && chainB outLt none o) := by
    refine loopL z_impl_StuffOut o (P := fun i r => Ev (fun k => spec_StuffBookOk.l1 k f l v o (i : Int)) (r.all (outB f l v) && chainB outLt (ahead z_impl_StuffOut o i) r))
      (by refine Ev.step (fun k => by rw [spec_StuffBookOk.l1]) ?_; exact ev_neg (by omega) (ev_ret rfl)) (fun i x r hi hx hm _ ih => ?_)
    refine Ev.step (fun k => by rw [spec_StuffBookOk.l1]) (ev_pos (by omega) (ev_pos (by omega) ?_))
    rw [wsucc hi (by omega), rdSO, hx, List.all_cons]
    rw [ahead_succ, hx] at ih
    obtain ⟨z0, z1, z2⟩ := z.o1 x hm
    have eV := l12Vessel_ev f l v o x.f0 hv
    have eH := l12Holds_ev f l v o x.f1 x.f2 1000 (by omega) (by omega) hl (by omega) (by omega)
    generalize r.all (outB f l v) = R at *
    unfold outB
    generalize holdB f l x.f1 x.f2 1000 = H at *
    refine Ev.bind (l12NameOk_ev _) (ev_b (fun c1 => ?_) (fun c1 => ev_ret (by rw [c1]; rfl)))
    rw [c1]
    have body : Ev (fun k => (spec_l12Vessel.f k f l v o x.f0).bind fun t => if t ≥ 0 then some false else (spec_l12HoldsOk.f k f l v o x.f1 x.f2 1000).bind fun t => if t = true then spec_StuffBookOk.l1 k f l v o ((i + 1 : Nat) : Int) else some false) (((true && (!vesHas v x.f0 && H)) && R) && chainB outLt (some x) r) := by
      refine Ev.bind eV (ev_split (fun c => ev_ret ?_) (fun c => ?_))
      · rw [vesPos] at c; rw [c]; simp
      · rw [vesPos, Bool.not_eq_true] at c; rw [c]
        exact Ev.bind eH (ev_b (fun c2 => ev_eq ih (by rw [c2]; simp)) (fun c2 => ev_ret (by rw [c2]; simp)))
    by_cases y0 : i = 0
    · subst y0
      rw [ahead_zero, chain_none]
      exact ev_neg (by omega) body
    · rw [pre64 y0 (by omega), rdSO, ahead_pos _ _ _ y0]
      generalize o.getD (i - 1) z_impl_StuffOut = y
      refine ev_pos (by omega) (ev_pos (by omega) (ev_pos (by omega) (ev_b (fun d => ev_eq body ?_) (fun d => ev_ret ?_))))
      · rw [show chainB outLt (some y) (x :: r) = (lt y.f0 x.f0 && chainB outLt (some x) r) from rfl, lt, d]; simp
      · rw [show chainB outLt (some y) (x :: r) = (lt y.f0 x.f0 && chainB outLt (some x) r) from rfl, lt, d]; simp
  generalize (o.all (outB f l v) && chainB outLt none o) = T at *
  have L0 : Ev (fun k => spec_StuffBookOk.l0 k f l v o 0) ((v.all (vesB f l) && chainB vesLt none v) && T) := by
    refine loopL z_impl_StuffVessel v (P := fun i r => Ev (fun k => spec_StuffBookOk.l0 k f l v o (i : Int)) ((r.all (vesB f l) && chainB vesLt (ahead z_impl_StuffVessel v i) r) && T))
      (by refine Ev.step (fun k => by rw [spec_StuffBookOk.l0]) ?_; exact ev_neg (by omega) (ev_eq L1 rfl)) (fun i x r hi hx hm _ ih => ?_)
    refine Ev.step (fun k => by rw [spec_StuffBookOk.l0]) (ev_pos (by omega) (ev_pos (by omega) ?_))
    rw [wsucc hi (by omega), rdSV, hx, List.all_cons]
    rw [ahead_succ, hx] at ih
    obtain ⟨z0, z1, z2⟩ := z.v1 x hm
    have eH := fun h => l12Holds_ev f l v o x.f2 x.f3 x.f1 h (by omega) hl (by omega) (by omega)
    generalize r.all (vesB f l) = R at *
    unfold vesB
    generalize holdB f l x.f2 x.f3 x.f1 = H at *
    refine Ev.bind (l12NameOk_ev _) (ev_b (fun c1 => ?_) (fun c1 => ev_ret (by rw [c1]; rfl)))
    rw [c1]
    have body : Ev (fun k => (spec_l11In.f x.f1 1 1000).bind fun t => if t = true then (spec_l12HoldsOk.f k f l v o x.f2 x.f3 x.f1).bind fun t => if t = true then spec_StuffBookOk.l0 k f l v o ((i + 1 : Nat) : Int) else some false else some false) ((((true && (inB x.f1 1 1000 && H)) && R) && chainB vesLt (some x) r) && T) := by
      refine Ev.bind (l11In_ev _ _ _) (ev_b (fun c => ?_) (fun c => ev_ret (by rw [c]; simp)))
      rw [c]
      unfold inB at c
      exact Ev.bind (eH (of_decide_eq_true c)) (ev_b (fun c2 => ev_eq ih (by rw [c2]; simp)) (fun c2 => ev_ret (by rw [c2]; simp)))
    by_cases y0 : i = 0
    · subst y0
      rw [ahead_zero, chain_none]
      exact ev_neg (by omega) body
    · rw [pre64 y0 (by omega), rdSV, ahead_pos _ _ _ y0]
      generalize v.getD (i - 1) z_impl_StuffVessel = y
      refine ev_pos (by omega) (ev_pos (by omega) (ev_pos (by omega) (ev_b (fun d => ev_eq body ?_) (fun d => ev_ret ?_))))
      · rw [show chainB vesLt (some y) (x :: r) = (lt y.f0 x.f0 && chainB vesLt (some x) r) from rfl, lt, d]; simp
      · rw [show chainB vesLt (some y) (x :: r) = (lt y.f0 x.f0 && chainB vesLt (some x) r) from rfl, lt, d]; simp
  generalize (v.all (vesB f l) && chainB vesLt none v) = T2 at *
  generalize (decide (f.length ≤ 12) && foesB f) = b1 at *
  generalize (decide (l.length ≤ 16) && lotsB l) = b2 at *
  refine Ev.bind eF (ev_b (fun c => Ev.bind eL (ev_b (fun c2 => ev_split (fun c3 => ev_ret ?_) (fun c3 => ev_split (fun c4 => ev_ret ?_) (fun c4 => ev_eq L0 ?_))) (fun c2 => ev_ret ?_))) (fun c => ev_ret ?_))
  · rw [decide_eq_false (by omega : ¬ v.length ≤ 8)]; simp
  · rw [decide_eq_false (by omega : ¬ o.length ≤ 12)]; simp
  · rw [c, c2, decide_eq_true (by omega : v.length ≤ 8), decide_eq_true (by omega : o.length ≤ 12)]; rfl
  · rw [c2]; simp
  · rw [c]; rfl
end
/-! ### books of stuffs, as the program has them -/
section
variable (f : List S_impl_StuffFoe) (l : List S_impl_StuffLot) (v : List S_impl_StuffVessel) (o : List S_impl_StuffOut)
theorem held_ev (p : List S_impl_StuffPart) (b : List ByteArray) (a : Int) (hf : f.length ≤ 4398046511104) (hl : l.length ≤ 140737488351232) (hp : p.length ≤ 8796093022206) (hb : b.length ≤ 8796093022206) (qf : foesB f = true) (ql : l.all lotB = true) :
    Ev (fun k => impl_StuffBook_held.f k f l v o p b a) (holdB f l p b a) := by
  obtain ⟨S, eS, hSl, mS⟩ := stuffs_ev f l v o b hl (by omega)
  have eP := pairs_ev f l v o hf
  have eA := anyFoes_ev f S S (by omega) (by omega) (by omega)
  have eR := rising_ev b (by omega)
  have hE := free_eq f l b S qf ql mS
  have L1 : ∀ t : Int, Ev (fun k => impl_StuffBook_held.l1 k f l v o p b a t 0) (decide (t ≤ a) && lotsFree f l b 0 b) := fun t => by
    rw [hE]
    generalize clashB f S S = C at *
    generalize chainB lt none b = D at *
    refine loopL ByteArray.empty b (P := fun i r => Ev (fun k => impl_StuffBook_held.l1 k f l v o p b a t (i : Int)) (decide (t ≤ a) && (r.all (lotFound l) && (D && !C)))) ?_ (fun i x r hi hx hm _ ih => ?_)
    · refine Ev.step (fun k => by rw [impl_StuffBook_held.l1]) (ev_neg (by omega) (ev_split (fun c => ?_) (fun c => ev_ret (by rw [decide_eq_false c]; rfl))))
      rw [decide_eq_true c]
      exact Ev.bind eR (ev_b (fun c2 => Ev.bind eP (Ev.bind eS (Ev.bind eS (Ev.bind eA (ev_ret (by rw [c2]; rfl)))))) (fun c2 => ev_ret (by rw [c2]; rfl)))
    · refine Ev.step (fun k => by rw [impl_StuffBook_held.l1]) (ev_pos (by omega) (ev_pos (by omega) ?_))
      rw [wsucc hi (by omega), rdOf_nat, hx, List.all_cons]
      unfold lotFound at ih ⊢
      refine Ev.bind (implStuff_ev f l v o x hl) ?_
      exact ev_b (fun c => ev_eq ih (by simp only at c; rw [c]; rfl)) (fun c => ev_ret (by simp only at c; rw [c]; simp))
  unfold impl_StuffBook_held.f holdB
  generalize lotsFree f l b 0 b = T at *
  have key := loopL z_impl_StuffPart p (P := fun i r => ∀ t : Int, 0 ≤ t → t ≤ 1000 * (i : Int) → Ev (fun k => impl_StuffBook_held.l0 k f l v o p b a t (i : Int)) (r.all (hpB b) && (chainB hpLt (ahead z_impl_StuffPart p i) r && (decide (t + sumP r ≤ a) && T))))
    (fun t h0 h1 => by refine Ev.step (fun k => by rw [impl_StuffBook_held.l0]) ?_; exact ev_neg (by omega) (ev_eq (L1 t) (by show _ = (true && (true && (decide (t + 0 ≤ a) && T))); rw [Int.add_zero]; rfl))) (fun i x r hi hx hm _ ih t h0 h1 => ?_)
  · exact ev_eq (key 0 (by omega) (by omega)) (by rw [ahead_zero, Int.zero_add])
  refine Ev.step (fun k => by rw [impl_StuffBook_held.l0]) (ev_pos (by omega) (ev_pos (by omega) ?_))
  rw [wsucc hi (by omega), rdSP, hx, List.all_cons]
  rw [ahead_succ, hx] at ih
  refine ev_split (fun c => ev_ret (by rw [hpB, inB_f (by omega)]; simp)) (fun c1 => ev_split (fun c => ev_ret (by rw [hpB, inB_f (by omega)]; simp)) (fun c2 => ?_))
  refine Ev.bind (has_ev b _ (by omega)) (ev_b (fun c3 => ?_) (fun c3 => ev_ret (by rw [hpB, c3]; rfl)))
  have hw : wrap64 (t + x.f1) = t + x.f1 := by unfold wrap64; omega
  rw [hw, show hpB b x = true by rw [hpB, c3, inB_t (by omega)]; rfl, Bool.true_and, show t + sumP (x :: r) = t + x.f1 + sumP r by show t + (x.f1 + sumP r) = _; omega]
  by_cases z : i = 0
  · subst z
    rw [ahead_zero, chain_none]
    exact ev_neg (by omega) (ih _ (by omega) (by omega))
  · rw [pre64 z (by omega), rdSP, ahead_pos _ _ _ z]
    generalize p.getD (i - 1) z_impl_StuffPart = y
    refine ev_pos (by omega) (ev_pos (by omega) (ev_pos (by omega) (ev_b (fun d => ?_) (fun d => ev_ret (by rw [chainB, hpLt, lt, d]; simp)))))
    rw [chainB, hpLt, lt, d, Bool.true_and]
    exact ih _ (by omega) (by omega)
theorem implStuffBook_ev (z : SzSB f l v o) : Ev (fun k => impl_StuffBookOk.f k f l v o) (stuffBookB f l v o) := by
  have hf := z.hf; have hl := z.hl; have hv := z.hv; have ho := z.ho
  have eP := pairs_ev f l v o hf
  have eF := foesOk_ev (f.map mkPair) 12 (by rw [List.length_map]; omega) (fun x hx => by obtain ⟨y, hy, rfl⟩ := List.mem_map.1 hx; exact z.f1 y hy)
  rw [pairs_same, List.length_map, show decide ((f.length : Int) ≤ 12) = decide (f.length ≤ 12) from decide_eq_decide.2 (by omega)] at eF
  unfold impl_StuffBookOk.f stuffBookB
  refine Ev.bind eP (Ev.bind eF (ev_b (fun c0 => ?_) (fun c0 => ev_ret (by rw [Bool.and_comm] at c0; rw [c0]; rfl))))
  have qf : foesB f = true := by rw [Bool.and_eq_true] at c0; exact c0.1
  have L2 : l.all lotB = true → Ev (fun k => impl_StuffBookOk.l2 k f l v o 0) (o.all (outB f l v) && chainB outLt none o) := fun ql => by
    refine loopL z_impl_StuffOut o (P := fun i r => Ev (fun k => impl_StuffBookOk.l2 k f l v o (i : Int)) (r.all (outB f l v) && chainB outLt (ahead z_impl_StuffOut o i) r))
      (by refine Ev.step (fun k => by rw [impl_StuffBookOk.l2]) ?_; exact ev_neg (by omega) (ev_ret rfl)) (fun i x r hi hx hm _ ih => ?_)
    refine Ev.step (fun k => by rw [impl_StuffBookOk.l2]) (ev_pos (by omega) (ev_pos (by omega) ?_))
    rw [wsucc hi (by omega), rdSO, hx, List.all_cons]
    rw [ahead_succ, hx] at ih
    obtain ⟨z0, z1, z2⟩ := z.o1 x hm
    have eV := vessel_ev f l v o x.f0 hv
    have eH := held_ev f l v o x.f1 x.f2 1000 hf hl z1 z2 qf ql
    generalize r.all (outB f l v) = R at *
    unfold outB
    generalize holdB f l x.f1 x.f2 1000 = H at *
    refine Ev.bind (isName_ev _ z0) (ev_b (fun c1 => ?_) (fun c1 => ev_ret (by rw [c1]; rfl)))
    rw [c1]
    refine Ev.bind eV (ev_split (fun c => ev_ret ?_) (fun c => ?_))
    · rw [vesPos] at c; rw [c]; simp
    rw [vesPos, Bool.not_eq_true] at c; rw [c]
    have body : Ev (fun k => (impl_StuffBook_held.f k f l v o x.f1 x.f2 1000).bind fun t => if t = true then impl_StuffBookOk.l2 k f l v o ((i + 1 : Nat) : Int) else some false) (((true && (!false && H)) && R) && chainB outLt (some x) r) :=
      Ev.bind eH (ev_b (fun c2 => ev_eq ih (by rw [c2]; simp)) (fun c2 => ev_ret (by rw [c2]; simp)))
    by_cases y0 : i = 0
    · subst y0
      rw [ahead_zero, chain_none]
      exact ev_neg (by omega) body
    · rw [pre64 y0 (by omega), rdSO, ahead_pos _ _ _ y0]
      generalize o.getD (i - 1) z_impl_StuffOut = y
      refine ev_pos (by omega) (ev_pos (by omega) (ev_pos (by omega) (ev_b (fun d => ev_eq body ?_) (fun d => ev_ret ?_))))
      · rw [show chainB outLt (some y) (x :: r) = (lt y.f0 x.f0 && chainB outLt (some x) r) from rfl, lt, d]; simp
      · rw [show chainB outLt (some y) (x :: r) = (lt y.f0 x.f0 && chainB outLt (some x) r) from rfl, lt, d]; simp
  generalize (o.all (outB f l v) && chainB outLt none o) = T at *
  have L1 : l.all lotB = true → Ev (fun k => impl_StuffBookOk.l1 k f l v o 0) ((v.all (vesB f l) && chainB vesLt none v) && T) := fun ql => by
    refine loopL z_impl_StuffVessel v (P := fun i r => Ev (fun k => impl_StuffBookOk.l1 k f l v o (i : Int)) ((r.all (vesB f l) && chainB vesLt (ahead z_impl_StuffVessel v i) r) && T))
      (by refine Ev.step (fun k => by rw [impl_StuffBookOk.l1]) ?_; exact ev_neg (by omega) (ev_eq (L2 ql) rfl)) (fun i x r hi hx hm _ ih => ?_)
    refine Ev.step (fun k => by rw [impl_StuffBookOk.l1]) (ev_pos (by omega) (ev_pos (by omega) ?_))
    rw [wsucc hi (by omega), rdSV, hx, List.all_cons]
    rw [ahead_succ, hx] at ih
    obtain ⟨z0, z1, z2⟩ := z.v1 x hm
    have eH := held_ev f l v o x.f2 x.f3 x.f1 hf hl z1 z2 qf ql
    generalize r.all (vesB f l) = R at *
    unfold vesB
    generalize holdB f l x.f2 x.f3 x.f1 = H at *
    refine Ev.bind (isName_ev _ z0) (ev_b (fun c1 => ?_) (fun c1 => ev_ret (by rw [c1]; rfl)))
    rw [c1]
    refine ev_split (fun c => ev_ret (by rw [inB_f (by omega)]; simp)) (fun d1 => ev_split (fun c => ev_ret (by rw [inB_f (by omega)]; simp)) (fun d2 => ?_))
    rw [inB_t (by omega)]
    have body : Ev (fun k => (impl_StuffBook_held.f k f l v o x.f2 x.f3 x.f1).bind fun t => if t = true then impl_StuffBookOk.l1 k f l v o ((i + 1 : Nat) : Int) else some false) ((((true && (true && H)) && R) && chainB vesLt (some x) r) && T) :=
      Ev.bind eH (ev_b (fun c2 => ev_eq ih (by rw [c2]; simp)) (fun c2 => ev_ret (by rw [c2]; simp)))
    by_cases y0 : i = 0
    · subst y0
      rw [ahead_zero, chain_none]
      exact ev_neg (by omega) body
    · rw [pre64 y0 (by omega), rdSV, ahead_pos _ _ _ y0]
      generalize v.getD (i - 1) z_impl_StuffVessel = y
      refine ev_pos (by omega) (ev_pos (by omega) (ev_pos (by omega) (ev_b (fun d => ev_eq body ?_) (fun d => ev_ret ?_))))
      · rw [show chainB vesLt (some y) (x :: r) = (lt y.f0 x.f0 && chainB vesLt (some x) r) from rfl, lt, d]; simp
      · rw [show chainB vesLt (some y) (x :: r) = (lt y.f0 x.f0 && chainB vesLt (some x) r) from rfl, lt, d]; simp
  generalize ((v.all (vesB f l) && chainB vesLt none v) && T) = T2 at *
  have L0 : Ev (fun k => impl_StuffBookOk.l0 k f l v o 0) (lotsB l && T2) := by
    unfold lotsB
    have key := loopL z_impl_StuffLot l (P := fun i r => (∀ j, j < i → lotB (l.getD j z_impl_StuffLot) = true) → Ev (fun k => impl_StuffBookOk.l0 k f l v o (i : Int)) ((r.all lotB && chainB lotLt (ahead z_impl_StuffLot l i) r) && T2))
      (fun hj => by
        refine Ev.step (fun k => by rw [impl_StuffBookOk.l0]) ?_
        exact ev_neg (by omega) (ev_eq (L1 (List.all_eq_true.2 (fun y hy => by obtain ⟨j, h1, rfl⟩ := List.getElem_of_mem hy; have := hj j h1; rwa [getD_eq _ l j h1] at this))) rfl)) (fun i x r hi hx hm _ ih hj => ?_)
    · exact key (fun j h => absurd h (Nat.not_lt_zero j))
    have ih : lotB x = true → _ := fun h3 => ih (fun j h => by
      by_cases e : j = i
      · rw [e, hx]; exact h3
      · exact hj j (by omega))
    obtain ⟨q0, q1⟩ := z.l1 x hm
    refine Ev.step (fun k => by rw [impl_StuffBookOk.l0]) (ev_pos (by omega) (ev_pos (by omega) ?_))
    rw [wsucc hi (by omega), rdSL, hx, List.all_cons]
    rw [ahead_succ, hx] at ih
    generalize r.all lotB = R at *
    refine Ev.bind (isName_ev _ q0) (ev_b (fun c1 => ?_) (fun c1 => ev_ret (by rw [lotB, c1]; rfl)))
    refine Ev.bind (isName_ev _ q1) (ev_b (fun c2 => ?_) (fun c2 => ev_ret (by rw [lotB, c2]; simp)))
    have hx' : lotB x = true := by rw [lotB, c1, c2]; rfl
    have ih := ih hx'
    rw [hx']
    by_cases y0 : i = 0
    · subst y0
      rw [ahead_zero, chain_none]
      exact ev_neg (by omega) (ev_eq ih (by simp))
    · rw [pre64 y0 (by omega), rdSL, ahead_pos _ _ _ y0]
      generalize l.getD (i - 1) z_impl_StuffLot = y
      refine ev_pos (by omega) (ev_pos (by omega) (ev_pos (by omega) (ev_b (fun d => ev_eq ih ?_) (fun d => ev_ret ?_))))
      · rw [show chainB lotLt (some y) (x :: r) = (lt y.f0 x.f0 && chainB lotLt (some x) r) from rfl, lt, d]; simp
      · rw [show chainB lotLt (some y) (x :: r) = (lt y.f0 x.f0 && chainB lotLt (some x) r) from rfl, lt, d]; simp
  refine ev_split (fun c => ev_ret ?_) (fun c1 => ev_split (fun c => ev_ret ?_) (fun c2 => ev_split (fun c => ev_ret ?_) (fun c3 => ev_eq L0 ?_)))
  · rw [decide_eq_false (by omega : ¬ l.length ≤ 16)]; simp
  · rw [decide_eq_false (by omega : ¬ v.length ≤ 8)]; simp
  · rw [decide_eq_false (by omega : ¬ o.length ≤ 12)]; simp
  · rw [Bool.and_comm (foesB f)] at c0
    rw [c0, decide_eq_true (by omega : l.length ≤ 16), decide_eq_true (by omega : v.length ≤ 8), decide_eq_true (by omega : o.length ≤ 12)]; simp
end
/-! ### books of stuffs that are handed in -/
section
variable (x : S_laws_StuffBook) (h : ok_laws_StuffBook x)
include h
theorem szSB_of : SzSB (x.f0.map cv_laws_StuffFoe) (x.f1.map cv_laws_StuffLot) (x.f2.map cv_laws_StuffVessel) (x.f3.map cv_laws_StuffOut) := by
  obtain ⟨⟨h0, k0⟩, ⟨h1, k1⟩, ⟨h2, k2⟩, ⟨h3, k3⟩⟩ := h
  refine ⟨by rw [List.length_map]; omega, by rw [List.length_map]; omega, by rw [List.length_map]; omega, by rw [List.length_map]; omega, fun y hy => ?_, fun y hy => ?_, fun y hy => ?_, fun y hy => ?_⟩
  · obtain ⟨z, hz, rfl⟩ := List.mem_map.1 hy; exact k0 z hz
  · obtain ⟨z, hz, rfl⟩ := List.mem_map.1 hy; exact k1 z hz
  · obtain ⟨z, hz, rfl⟩ := List.mem_map.1 hy
    obtain ⟨q0, _, ⟨q2, _⟩, ⟨q3, _⟩⟩ := k2 z hz
    refine ⟨q0, ?_, ?_⟩
    · show (z.f2.map cv_laws_StuffPart).length ≤ _; rw [List.length_map]; omega
    · show z.f3.length ≤ _; omega
  · obtain ⟨z, hz, rfl⟩ := List.mem_map.1 hy
    obtain ⟨q0, ⟨q2, _⟩, ⟨q3, _⟩⟩ := k3 z hz
    refine ⟨q0, ?_, ?_⟩
    · show (z.f1.map cv_laws_StuffPart).length ≤ _; rw [List.length_map]; omega
    · show z.f2.length ≤ _; omega
theorem eqStuffRefl_ev : Ev (fun k => laws_eqStuffBook.f k (x.f0.map cv_laws_StuffFoe) (x.f1.map cv_laws_StuffLot) (x.f2.map cv_laws_StuffVessel) (x.f3.map cv_laws_StuffOut) (x.f0.map cv_laws_StuffFoe) (x.f1.map cv_laws_StuffLot) (x.f2.map cv_laws_StuffVessel) (x.f3.map cv_laws_StuffOut)) true := by
  obtain ⟨⟨h0, k0⟩, ⟨h1, k1⟩, ⟨h2, k2⟩, ⟨h3, k3⟩⟩ := h
  have kp : ∀ l : List S_laws_StuffPart, (∀ z ∈ l, ok_laws_StuffPart z) → ∀ y ∈ l.map cv_laws_StuffPart, ok_impl_StuffPart y := fun l hl y hy => by
    obtain ⟨z, hz, rfl⟩ := List.mem_map.1 hy; exact hl z hz
  refine eqStuffBook_ev _ _ _ _ ⟨by rw [List.length_map]; exact h0, fun y hy => ?_⟩ ⟨by rw [List.length_map]; exact h1, fun y hy => ?_⟩ ⟨by rw [List.length_map]; exact h2, fun y hy => ?_⟩ ⟨by rw [List.length_map]; exact h3, fun y hy => ?_⟩
  · obtain ⟨z, hz, rfl⟩ := List.mem_map.1 hy; exact k0 z hz
  · obtain ⟨z, hz, rfl⟩ := List.mem_map.1 hy; exact k1 z hz
  · obtain ⟨z, hz, rfl⟩ := List.mem_map.1 hy
    obtain ⟨q0, q1, ⟨q2, q2'⟩, q3⟩ := k2 z hz
    exact ⟨q0, q1, ⟨by show (z.f2.map cv_laws_StuffPart).length ≤ _ ∧ (z.f2.map cv_laws_StuffPart).length * 24 ≤ _; rw [List.length_map]; exact q2, kp _ q2'⟩, q3⟩
  · obtain ⟨z, hz, rfl⟩ := List.mem_map.1 hy
    obtain ⟨q0, ⟨q2, q2'⟩, q3⟩ := k3 z hz
    exact ⟨q0, ⟨by show (z.f1.map cv_laws_StuffPart).length ≤ _ ∧ (z.f1.map cv_laws_StuffPart).length * 24 ≤ _; rw [List.length_map]; exact q2, kp _ q2'⟩, q3⟩
end
/-! ### what may hold a lot -/
def recV (a : ByteArray) (v : List S_impl_StuffVessel) : List ByteArray := (v.filter fun y => hasB y.f3 a).map (·.f0)
def recO (a : ByteArray) (o : List S_impl_StuffOut) : List ByteArray := (o.filter fun y => hasB y.f2 a).map (·.f0)
theorem recV_cons (a : ByteArray) (y : S_impl_StuffVessel) (r : List S_impl_StuffVessel) : recV a (y :: r) = if hasB y.f3 a = true then y.f0 :: recV a r else recV a r := by
  unfold recV; rw [List.filter_cons]; split <;> rfl
theorem recO_cons (a : ByteArray) (y : S_impl_StuffOut) (r : List S_impl_StuffOut) : recO a (y :: r) = if hasB y.f2 a = true then y.f0 :: recO a r else recO a r := by
  unfold recO; rw [List.filter_cons]; split <;> rfl
theorem recV_len (a : ByteArray) (v : List S_impl_StuffVessel) : (recV a v).length ≤ v.length := by
  unfold recV; rw [List.length_map]; exact List.length_filter_le _ _
theorem recO_len (a : ByteArray) (o : List S_impl_StuffOut) : (recO a o).length ≤ o.length := by
  unfold recO; rw [List.length_map]; exact List.length_filter_le _ _
section
variable (v : List S_impl_StuffVessel) (o : List S_impl_StuffOut) (a : ByteArray) (hv : v.length ≤ 2000000000000) (ho : o.length ≤ 2200000000000) (h1 : ∀ x ∈ v, x.f3.length ≤ 140737488351232) (h2 : ∀ x ∈ o, x.f2.length ≤ 140737488351232)
include hv ho h1 h2
theorem specRecall_ev : Ev (fun k => spec_StuffRecall.l0 k v o a [] 0) (recV a v ++ recO a o) := by
  have L1 : ∀ s : List ByteArray, s.length ≤ v.length → Ev (fun k => spec_StuffRecall.l1 k o a s 0) (s ++ recO a o) := fun s hs => by
    have key := loopL z_impl_StuffOut o (P := fun i r => ∀ t : List ByteArray, t.length ≤ v.length + i → Ev (fun k => spec_StuffRecall.l1 k o a t (i : Int)) (t ++ recO a r))
      (fun t _ => by refine Ev.step (fun k => by rw [spec_StuffRecall.l1]) ?_; exact ev_neg (by omega) (ev_ret (by simp [recO]))) (fun i x r hi hx hm _ ih t ht => ?_)
    · exact key s (by omega)
    refine Ev.step (fun k => by rw [spec_StuffRecall.l1]) (ev_pos (by omega) (ev_pos (by omega) ?_))
    rw [wsucc hi (by omega), rdSO, hx]
    refine Ev.bind (l12Has_ev x.f2 a (h2 x hm)) ?_
    rw [recO_cons]
    refine ev_split (fun c => ev_pos (by omega) (ev_eq (ih _ (by rw [List.length_append, List.length_singleton]; omega)) ?_)) (fun c => ev_eq (ih t (by omega)) ?_)
    · rw [if_pos c]; simp
    · rw [if_neg c]
  have key := loopL z_impl_StuffVessel v (P := fun i r => ∀ t : List ByteArray, t.length ≤ i → Ev (fun k => spec_StuffRecall.l0 k v o a t (i : Int)) ((t ++ recV a r) ++ recO a o))
    (fun t ht => by refine Ev.step (fun k => by rw [spec_StuffRecall.l0]) ?_; exact ev_neg (by omega) (ev_eq (L1 t ht) (by simp [recV]))) (fun i x r hi hx hm _ ih t ht => ?_)
  · exact key [] (Nat.zero_le _)
  refine Ev.step (fun k => by rw [spec_StuffRecall.l0]) (ev_pos (by omega) (ev_pos (by omega) ?_))
  rw [wsucc hi (by omega), rdSV, hx]
  refine Ev.bind (l12Has_ev x.f3 a (h1 x hm)) ?_
  rw [recV_cons]
  refine ev_split (fun c => ev_pos (by omega) (ev_eq (ih _ (by rw [List.length_append, List.length_singleton]; omega)) ?_)) (fun c => ev_eq (ih t (by omega)) ?_)
  · rw [if_pos c]; simp
  · rw [if_neg c]
theorem implRecall_ev : Ev (fun k => impl_StuffRecall.l0 k v o a [] 0) (recV a v ++ recO a o) := by
  have L1 : ∀ s : List ByteArray, s.length ≤ v.length → Ev (fun k => impl_StuffRecall.l1 k o a s 0) (s ++ recO a o) := fun s hs => by
    have key := loopL z_impl_StuffOut o (P := fun i r => ∀ t : List ByteArray, t.length ≤ v.length + i → Ev (fun k => impl_StuffRecall.l1 k o a t (i : Int)) (t ++ recO a r))
      (fun t _ => by refine Ev.step (fun k => by rw [impl_StuffRecall.l1]) ?_; exact ev_neg (by omega) (ev_ret (by simp [recO]))) (fun i x r hi hx hm _ ih t ht => ?_)
    · exact key s (by omega)
    refine Ev.step (fun k => by rw [impl_StuffRecall.l1]) (ev_pos (by omega) (ev_pos (by omega) ?_))
    rw [wsucc hi (by omega), rdSO, hx]
    refine Ev.bind (has_ev x.f2 a (h2 x hm)) ?_
    rw [recO_cons]
    refine ev_split (fun c => ev_pos (by omega) (ev_eq (ih _ (by rw [List.length_append, List.length_singleton]; omega)) ?_)) (fun c => ev_eq (ih t (by omega)) ?_)
    · rw [if_pos c]; simp
    · rw [if_neg c]
  have key := loopL z_impl_StuffVessel v (P := fun i r => ∀ t : List ByteArray, t.length ≤ i → Ev (fun k => impl_StuffRecall.l0 k v o a t (i : Int)) ((t ++ recV a r) ++ recO a o))
    (fun t ht => by refine Ev.step (fun k => by rw [impl_StuffRecall.l0]) ?_; exact ev_neg (by omega) (ev_eq (L1 t ht) (by simp [recV]))) (fun i x r hi hx hm _ ih t ht => ?_)
  · exact key [] (Nat.zero_le _)
  refine Ev.step (fun k => by rw [impl_StuffRecall.l0]) (ev_pos (by omega) (ev_pos (by omega) ?_))
  rw [wsucc hi (by omega), rdSV, hx]
  refine Ev.bind (has_ev x.f3 a (h1 x hm)) ?_
  rw [recV_cons]
  refine ev_split (fun c => ev_pos (by omega) (ev_eq (ih _ (by rw [List.length_append, List.length_singleton]; omega)) ?_)) (fun c => ev_eq (ih t (by omega)) ?_)
  · rw [if_pos c]; simp
  · rw [if_neg c]
end
theorem FnExactStuffRecall : ∀ (x0 : S_laws_StuffBook) (x1 : ByteArray), (ok_laws_StuffBook x0) → (x1.size ≤ 140737488351232) → ∃ k, laws_FnExactStuffRecall.f k x0.f0 x0.f1 x0.f2 x0.f3 x1 = some true := by
  intro x a hx ha
  obtain ⟨q, hq, hqb⟩ := dn_szStuffBook x hx 1048576 (by omega) (by omega)
  have ht := toStuffBook_ev x hx
  have z := szSB_of x hx
  have hE := eqStuffRefl_ev x hx
  have l2 : (x.f2.map cv_laws_StuffVessel).length ≤ 2000000000000 := by have := hx.2.2.1.1; rw [List.length_map]; omega
  have l3 : (x.f3.map cv_laws_StuffOut).length ≤ 2200000000000 := by have := hx.2.2.2.1; rw [List.length_map]; omega
  have hM : ¬ q < 0 → ∃ m, Ev (fun k => laws_markStuffBook.f k (x.f0.map cv_laws_StuffFoe) (x.f1.map cv_laws_StuffLot) (x.f2.map cv_laws_StuffVessel) (x.f3.map cv_laws_StuffOut) 1) m ∧ 1 ≤ m.1 := fun c => by
    have b := hqb (by omega)
    have t1 := tes_laws_StuffVessel_cv x.f2
    have t2 := tes_laws_StuffOut_cv x.f3
    have n0 : (x.f0.map cv_laws_StuffFoe).length = x.f0.length := List.length_map ..
    have n1 : (x.f1.map cv_laws_StuffLot).length = x.f1.length := List.length_map ..
    have n2 : (x.f2.map cv_laws_StuffVessel).length = x.f2.length := List.length_map ..
    have n3 : (x.f3.map cv_laws_StuffOut).length = x.f3.length := List.length_map ..
    have p1 := tes_impl_StuffVessel_pos (x.f2.map cv_laws_StuffVessel)
    have p2 := tes_impl_StuffOut_pos (x.f3.map cv_laws_StuffOut)
    obtain ⟨m, m1, m2, _⟩ := mk_markStuffBook (x.f0.map cv_laws_StuffFoe) (x.f1.map cv_laws_StuffLot) (x.f2.map cv_laws_StuffVessel) (x.f3.map cv_laws_StuffOut) 1 (by omega) (by omega) (by omega) (by omega) (by omega) (by omega)
    exact ⟨m, m1, m2⟩
  generalize x.f0.map cv_laws_StuffFoe = f at *
  generalize x.f1.map cv_laws_StuffLot = l at *
  generalize x.f2.map cv_laws_StuffVessel = v at *
  generalize x.f3.map cv_laws_StuffOut = o at *
  have hS := specStuffBook_ev f l v o z
  have hI := implStuffBook_ev f l v o z
  have b1 : ∀ x ∈ v, x.f3.length ≤ 140737488351232 := fun x hx => by have := (z.v1 x hx).2.2; omega
  have b2 : ∀ x ∈ o, x.f2.length ≤ 140737488351232 := fun x hx => by have := (z.o1 x hx).2.2; omega
  have r : ∃ r : List ByteArray, r.length ≤ 4200000000000 ∧ Ev (fun k => spec_StuffRecall.f k f l v o a) r ∧ Ev (fun k => impl_StuffRecall.f k f l v o a) r := by
    unfold spec_StuffRecall.f impl_StuffRecall.f
    cases hb : stuffBookB f l v o with
    | false =>
      rw [hb] at hS hI
      exact ⟨[], by simp, Ev.bind hS (ev_neg (by simp) (ev_ret rfl)), Ev.bind hI (ev_neg (by simp) (ev_ret rfl))⟩
    | true =>
      rw [hb] at hS hI
      refine ⟨_, ?_, Ev.bind hS (ev_pos rfl (specRecall_ev v o a l2 l3 b1 b2)), Ev.bind hI (ev_pos rfl (implRecall_ev v o a l2 l3 b1 b2))⟩
      have := recV_len a v
      have := recO_len a o
      rw [List.length_append]; omega
  obtain ⟨r, rl, rS, rI⟩ := r
  have e2 := eqStringS_ev r (by omega)
  have e3 := markStringS_ev r 1 (by omega) (by omega) (by omega)
  have e4 := heldStringS_ev r.length 1 (by omega) (by omega) (by omega)
  refine Ev.rounds ?_
  unfold laws_FnExactStuffRecall.f
  refine ev_split (fun _ => ev_ret rfl) (fun _ => Ev.bind hq (ev_split (fun _ => ev_ret rfl) (fun c => ?_)))
  obtain ⟨m, hm, hm0⟩ := hM c
  clear hM hS hI hqb hx ha b1 b2 l2 l3 z
  repeat' (first
    | with_reducible refine Ev.bind ht ?_
    | with_reducible refine Ev.bind rS ?_
    | with_reducible refine Ev.bind rI ?_
    | with_reducible refine Ev.bind e2 ?_
    | with_reducible refine Ev.bind hE ?_
    | with_reducible refine Ev.bind hm ?_
    | with_reducible refine Ev.bind e3 ?_
    | with_reducible refine Ev.bind e4 ?_
    | with_reducible refine ev_neg (by first | omega | (dsimp only; omega)) ?_
    | with_reducible refine ev_pos rfl ?_
    | with_reducible exact ev_ret rfl)
end Go.Proofs.Ytamkmmkchdnkmaa.Pure
