import Derived.Test.YtamkmmkchdnkmaaY2
set_option linter.unusedVariables false
namespace Go.Proofs.Ytamkmmkchdnkmaa.CH
open Go Go.RowKit Go.Aw
structure S_laws_ClaimFoe where
  f0 : ByteArray
  f1 : ByteArray
def z_laws_ClaimFoe : S_laws_ClaimFoe := ⟨(⟨#[]⟩ : ByteArray), (⟨#[]⟩ : ByteArray)⟩
def rd_laws_ClaimFoe (xs : List S_laws_ClaimFoe) (i : Int) : S_laws_ClaimFoe := xs.getD i.toNat z_laws_ClaimFoe
structure S_laws_ClaimSpot where
  f0 : ByteArray
  f1 : Int
  f2 : Int
  f3 : Int
  f4 : List ByteArray
def z_laws_ClaimSpot : S_laws_ClaimSpot := ⟨(⟨#[]⟩ : ByteArray), (0 : Int), (0 : Int), (0 : Int), ([] : List ByteArray)⟩
def rd_laws_ClaimSpot (xs : List S_laws_ClaimSpot) (i : Int) : S_laws_ClaimSpot := xs.getD i.toNat z_laws_ClaimSpot
structure S_laws_ClaimUse where
  f0 : ByteArray
  f1 : Int
  f2 : Int
def z_laws_ClaimUse : S_laws_ClaimUse := ⟨(⟨#[]⟩ : ByteArray), (0 : Int), (0 : Int)⟩
def rd_laws_ClaimUse (xs : List S_laws_ClaimUse) (i : Int) : S_laws_ClaimUse := xs.getD i.toNat z_laws_ClaimUse
structure S_laws_ClaimWant where
  f0 : Int
  f1 : Int
  f2 : List ByteArray
  f3 : List S_laws_ClaimUse
  f4 : List ByteArray
  f5 : List ByteArray
def z_laws_ClaimWant : S_laws_ClaimWant := ⟨(0 : Int), (0 : Int), ([] : List ByteArray), ([] : List S_laws_ClaimUse), ([] : List ByteArray), ([] : List ByteArray)⟩
def rd_laws_ClaimWant (xs : List S_laws_ClaimWant) (i : Int) : S_laws_ClaimWant := xs.getD i.toNat z_laws_ClaimWant
structure S_laws_ClaimPart where
  f0 : S_laws_ClaimWant
  f1 : Bool
def z_laws_ClaimPart : S_laws_ClaimPart := ⟨z_laws_ClaimWant, false⟩
def rd_laws_ClaimPart (xs : List S_laws_ClaimPart) (i : Int) : S_laws_ClaimPart := xs.getD i.toNat z_laws_ClaimPart
structure S_impl_ClaimFoe where
  f0 : ByteArray
  f1 : ByteArray
def z_impl_ClaimFoe : S_impl_ClaimFoe := ⟨(⟨#[]⟩ : ByteArray), (⟨#[]⟩ : ByteArray)⟩
def rd_impl_ClaimFoe (xs : List S_impl_ClaimFoe) (i : Int) : S_impl_ClaimFoe := xs.getD i.toNat z_impl_ClaimFoe
structure S_impl_ClaimSpot where
  f0 : ByteArray
  f1 : Int
  f2 : Int
  f3 : Int
  f4 : List ByteArray
def z_impl_ClaimSpot : S_impl_ClaimSpot := ⟨(⟨#[]⟩ : ByteArray), (0 : Int), (0 : Int), (0 : Int), ([] : List ByteArray)⟩
def rd_impl_ClaimSpot (xs : List S_impl_ClaimSpot) (i : Int) : S_impl_ClaimSpot := xs.getD i.toNat z_impl_ClaimSpot
structure S_impl_ClaimUse where
  f0 : ByteArray
  f1 : Int
  f2 : Int
def z_impl_ClaimUse : S_impl_ClaimUse := ⟨(⟨#[]⟩ : ByteArray), (0 : Int), (0 : Int)⟩
def rd_impl_ClaimUse (xs : List S_impl_ClaimUse) (i : Int) : S_impl_ClaimUse := xs.getD i.toNat z_impl_ClaimUse
structure S_impl_ClaimWant where
  f0 : Int
  f1 : Int
  f2 : List ByteArray
  f3 : List S_impl_ClaimUse
  f4 : List ByteArray
  f5 : List ByteArray
def z_impl_ClaimWant : S_impl_ClaimWant := ⟨(0 : Int), (0 : Int), ([] : List ByteArray), ([] : List S_impl_ClaimUse), ([] : List ByteArray), ([] : List ByteArray)⟩
def rd_impl_ClaimWant (xs : List S_impl_ClaimWant) (i : Int) : S_impl_ClaimWant := xs.getD i.toNat z_impl_ClaimWant
structure S_impl_ClaimPart where
  f0 : S_impl_ClaimWant
  f1 : Bool
def z_impl_ClaimPart : S_impl_ClaimPart := ⟨z_impl_ClaimWant, false⟩
def rd_impl_ClaimPart (xs : List S_impl_ClaimPart) (i : Int) : S_impl_ClaimPart := xs.getD i.toNat z_impl_ClaimPart
structure S_A2_string where
  f0 : ByteArray
  f1 : ByteArray
def z_A2_string : S_A2_string := ⟨(⟨#[]⟩ : ByteArray), (⟨#[]⟩ : ByteArray)⟩
def rd_A2_string (xs : List S_A2_string) (i : Int) : S_A2_string := xs.getD i.toNat z_A2_string
structure S_laws_ClaimBook where
  f0 : List S_laws_ClaimFoe
  f1 : List S_laws_ClaimSpot
  f2 : List ByteArray
  f3 : List S_laws_ClaimPart
  f4 : Int
def z_laws_ClaimBook : S_laws_ClaimBook := ⟨([] : List S_laws_ClaimFoe), ([] : List S_laws_ClaimSpot), ([] : List ByteArray), ([] : List S_laws_ClaimPart), (0 : Int)⟩
def rd_laws_ClaimBook (xs : List S_laws_ClaimBook) (i : Int) : S_laws_ClaimBook := xs.getD i.toNat z_laws_ClaimBook
def ok_laws_ClaimFoe (y : S_laws_ClaimFoe) : Prop := (y.f0.size ≤ 140737488351232) ∧ (y.f1.size ≤ 140737488351232)
def ok_laws_ClaimSpot (y : S_laws_ClaimSpot) : Prop := (y.f0.size ≤ 140737488351232) ∧ ((Lit.int .i64 y.f1).wf = true) ∧ ((Lit.int .i64 y.f2).wf = true) ∧ ((Lit.int .i64 y.f3).wf = true) ∧ ((y.f4.length ≤ 9223372036854775807 ∧ y.f4.length * 16 ≤ 140737488351232) ∧ ∀ z ∈ y.f4, z.size ≤ 140737488351232)
def ok_laws_ClaimUse (y : S_laws_ClaimUse) : Prop := (y.f0.size ≤ 140737488351232) ∧ ((Lit.int .i64 y.f1).wf = true) ∧ ((Lit.int .i64 y.f2).wf = true)
def ok_laws_ClaimWant (y : S_laws_ClaimWant) : Prop := ((Lit.int .i64 y.f0).wf = true) ∧ ((Lit.int .i64 y.f1).wf = true) ∧ ((y.f2.length ≤ 9223372036854775807 ∧ y.f2.length * 16 ≤ 140737488351232) ∧ ∀ z ∈ y.f2, z.size ≤ 140737488351232) ∧ ((y.f3.length ≤ 9223372036854775807 ∧ y.f3.length * 32 ≤ 140737488351232) ∧ ∀ z ∈ y.f3, ok_laws_ClaimUse z) ∧ ((y.f4.length ≤ 9223372036854775807 ∧ y.f4.length * 16 ≤ 140737488351232) ∧ ∀ z ∈ y.f4, z.size ≤ 140737488351232) ∧ ((y.f5.length ≤ 9223372036854775807 ∧ y.f5.length * 16 ≤ 140737488351232) ∧ ∀ z ∈ y.f5, z.size ≤ 140737488351232)
def ok_laws_ClaimPart (y : S_laws_ClaimPart) : Prop := (ok_laws_ClaimWant y.f0) ∧ (True)
def ok_laws_ClaimBook (y : S_laws_ClaimBook) : Prop := ((y.f0.length ≤ 9223372036854775807 ∧ y.f0.length * 32 ≤ 140737488351232) ∧ ∀ z ∈ y.f0, ok_laws_ClaimFoe z) ∧ ((y.f1.length ≤ 9223372036854775807 ∧ y.f1.length * 64 ≤ 140737488351232) ∧ ∀ z ∈ y.f1, ok_laws_ClaimSpot z) ∧ ((y.f2.length ≤ 9223372036854775807 ∧ y.f2.length * 16 ≤ 140737488351232) ∧ ∀ z ∈ y.f2, z.size ≤ 140737488351232) ∧ ((y.f3.length ≤ 9223372036854775807 ∧ y.f3.length * 120 ≤ 140737488351232) ∧ ∀ z ∈ y.f3, ok_laws_ClaimPart z) ∧ ((Lit.int .i64 y.f4).wf = true)
def laws_szClaimFoe.f (a0_0 : ByteArray) (a0_1 : ByteArray) (a1 : Int) : Option (Int) := (if (wrap64 (a1 - (a0_0.size : Int))) < 0 then (some (-1)) else (if (wrap64 ((wrap64 (a1 - (a0_0.size : Int))) - (a0_1.size : Int))) < 0 then (some (-1)) else (some (wrap64 ((wrap64 (a1 - (a0_0.size : Int))) - (a0_1.size : Int))))))
def laws_szClaimFoeS.l0 : Nat → List S_laws_ClaimFoe → Int → Int → Option (Int)
  | 0, _, _, _ => none
  | k + 1, l0, x1, x5 => (if x5 < (l0.length : Int) then (if 0 ≤ x5 then ((laws_szClaimFoe.f ((rd_laws_ClaimFoe l0 x5).f0) ((rd_laws_ClaimFoe l0 x5).f1) x1).bind fun t4 => (if t4 < 0 then (some (-1)) else (laws_szClaimFoeS.l0 k l0 t4 (wrap64 (x5 + 1))))) else none) else (some x1))
def laws_szClaimFoeS.f (k : Nat) (l0 : List S_laws_ClaimFoe) (a1 : Int) : Option (Int) := (if (wrap64 (a1 - (l0.length : Int))) < 0 then (some (-1)) else (laws_szClaimFoeS.l0 k l0 (wrap64 (a1 - (l0.length : Int))) 0))
def laws_szStringS.l0 : Nat → List ByteArray → Int → Int → Option (Int)
  | 0, _, _, _ => none
  | k + 1, l0, x1, x5 => (if x5 < (l0.length : Int) then (if 0 ≤ x5 then (if (wrap64 (x1 - ((rdOf ByteArray.empty l0 x5).size : Int))) < 0 then (some (-1)) else (laws_szStringS.l0 k l0 (wrap64 (x1 - ((rdOf ByteArray.empty l0 x5).size : Int))) (wrap64 (x5 + 1)))) else none) else (some x1))
def laws_szStringS.f (k : Nat) (l0 : List ByteArray) (a1 : Int) : Option (Int) := (if (wrap64 (a1 - (l0.length : Int))) < 0 then (some (-1)) else (laws_szStringS.l0 k l0 (wrap64 (a1 - (l0.length : Int))) 0))
def laws_szClaimSpot.f (k : Nat) (a0_0 : ByteArray) (a0_1 : Int) (a0_2 : Int) (a0_3 : Int) (a0_4 : List ByteArray) (a1 : Int) : Option (Int) := (if (wrap64 (a1 - (a0_0.size : Int))) < 0 then (some (-1)) else ((laws_szStringS.f k a0_4 (wrap64 (a1 - (a0_0.size : Int)))).bind fun t12 => (if t12 < 0 then (some (-1)) else (some t12))))
def laws_szClaimSpotS.l0 : Nat → List S_laws_ClaimSpot → Int → Int → Option (Int)
  | 0, _, _, _ => none
  | k + 1, l0, x1, x5 => (if x5 < (l0.length : Int) then (if 0 ≤ x5 then ((laws_szClaimSpot.f k ((rd_laws_ClaimSpot l0 x5).f0) ((rd_laws_ClaimSpot l0 x5).f1) ((rd_laws_ClaimSpot l0 x5).f2) ((rd_laws_ClaimSpot l0 x5).f3) ((rd_laws_ClaimSpot l0 x5).f4) x1).bind fun t16 => (if t16 < 0 then (some (-1)) else (laws_szClaimSpotS.l0 k l0 t16 (wrap64 (x5 + 1))))) else none) else (some x1))
def laws_szClaimSpotS.f (k : Nat) (l0 : List S_laws_ClaimSpot) (a1 : Int) : Option (Int) := (if (wrap64 (a1 - (l0.length : Int))) < 0 then (some (-1)) else (laws_szClaimSpotS.l0 k l0 (wrap64 (a1 - (l0.length : Int))) 0))
def laws_szClaimUse.f (a0_0 : ByteArray) (a0_1 : Int) (a0_2 : Int) (a1 : Int) : Option (Int) := (if (wrap64 (a1 - (a0_0.size : Int))) < 0 then (some (-1)) else (some (wrap64 (a1 - (a0_0.size : Int)))))
def laws_szClaimUseS.l0 : Nat → List S_laws_ClaimUse → Int → Int → Option (Int)
  | 0, _, _, _ => none
  | k + 1, l0, x1, x5 => (if x5 < (l0.length : Int) then (if 0 ≤ x5 then ((laws_szClaimUse.f ((rd_laws_ClaimUse l0 x5).f0) ((rd_laws_ClaimUse l0 x5).f1) ((rd_laws_ClaimUse l0 x5).f2) x1).bind fun t54 => (if t54 < 0 then (some (-1)) else (laws_szClaimUseS.l0 k l0 t54 (wrap64 (x5 + 1))))) else none) else (some x1))
def laws_szClaimUseS.f (k : Nat) (l0 : List S_laws_ClaimUse) (a1 : Int) : Option (Int) := (if (wrap64 (a1 - (l0.length : Int))) < 0 then (some (-1)) else (laws_szClaimUseS.l0 k l0 (wrap64 (a1 - (l0.length : Int))) 0))
def laws_szClaimWant.f (k : Nat) (a0_0 : Int) (a0_1 : Int) (a0_2 : List ByteArray) (a0_3 : List S_laws_ClaimUse) (a0_4 : List ByteArray) (a0_5 : List ByteArray) (a1 : Int) : Option (Int) := ((laws_szStringS.f k a0_2 a1).bind fun t56 => (if t56 < 0 then (some (-1)) else ((laws_szClaimUseS.f k a0_3 t56).bind fun t58 => (if t58 < 0 then (some (-1)) else ((laws_szStringS.f k a0_4 t58).bind fun t60 => (if t60 < 0 then (some (-1)) else ((laws_szStringS.f k a0_5 t60).bind fun t62 => (if t62 < 0 then (some (-1)) else (some t62)))))))))
def laws_szClaimPart.f (k : Nat) (a0_0 : Int) (a0_1 : Int) (a0_2 : List ByteArray) (a0_3 : List S_laws_ClaimUse) (a0_4 : List ByteArray) (a0_5 : List ByteArray) (a0_6 : Bool) (a1 : Int) : Option (Int) := ((laws_szClaimWant.f k a0_0 a0_1 a0_2 a0_3 a0_4 a0_5 a1).bind fun t64 => (if t64 < 0 then (some (-1)) else (some t64)))
def laws_szClaimPartS.l0 : Nat → List S_laws_ClaimPart → Int → Int → Option (Int)
  | 0, _, _, _ => none
  | k + 1, l0, x1, x5 => (if x5 < (l0.length : Int) then (if 0 ≤ x5 then ((laws_szClaimPart.f k (((rd_laws_ClaimPart l0 x5).f0).f0) (((rd_laws_ClaimPart l0 x5).f0).f1) (((rd_laws_ClaimPart l0 x5).f0).f2) (((rd_laws_ClaimPart l0 x5).f0).f3) (((rd_laws_ClaimPart l0 x5).f0).f4) (((rd_laws_ClaimPart l0 x5).f0).f5) ((rd_laws_ClaimPart l0 x5).f1) x1).bind fun t68 => (if t68 < 0 then (some (-1)) else (laws_szClaimPartS.l0 k l0 t68 (wrap64 (x5 + 1))))) else none) else (some x1))
def laws_szClaimPartS.f (k : Nat) (l0 : List S_laws_ClaimPart) (a1 : Int) : Option (Int) := (if (wrap64 (a1 - (l0.length : Int))) < 0 then (some (-1)) else (laws_szClaimPartS.l0 k l0 (wrap64 (a1 - (l0.length : Int))) 0))
def laws_szClaimBook.f (k : Nat) (a0_0 : List S_laws_ClaimFoe) (a0_1 : List S_laws_ClaimSpot) (a0_2 : List ByteArray) (a0_3 : List S_laws_ClaimPart) (a0_4 : Int) (a1 : Int) : Option (Int) := ((laws_szClaimFoeS.f k a0_0 a1).bind fun t70 => (if t70 < 0 then (some (-1)) else ((laws_szClaimSpotS.f k a0_1 t70).bind fun t72 => (if t72 < 0 then (some (-1)) else ((laws_szStringS.f k a0_2 t72).bind fun t74 => (if t74 < 0 then (some (-1)) else ((laws_szClaimPartS.f k a0_3 t74).bind fun t76 => (if t76 < 0 then (some (-1)) else (some t76)))))))))
def laws_toClaimFoe.f (a0_0 : ByteArray) (a0_1 : ByteArray) : Option (ByteArray × ByteArray) := (some (a0_0, a0_1))
def laws_toClaimFoeS.l0 : Nat → List S_laws_ClaimFoe → List S_impl_ClaimFoe → Int → Option (List S_impl_ClaimFoe)
  | 0, _, _, _ => none
  | k + 1, l0, x3, x4 => (if x4 < (l0.length : Int) then (if 0 ≤ x4 then ((laws_toClaimFoe.f ((rd_laws_ClaimFoe l0 x4).f0) ((rd_laws_ClaimFoe l0 x4).f1)).bind fun t87 => (if x4 < (x3.length : Int) then (laws_toClaimFoeS.l0 k l0 (x3.set (x4).toNat (⟨t87.1, t87.2⟩ : S_impl_ClaimFoe)) (wrap64 (x4 + 1))) else none)) else none) else (some x3))
def laws_toClaimFoeS.f (k : Nat) (l0 : List S_laws_ClaimFoe) : Option (List S_impl_ClaimFoe) := (if (l0.length : Int) * 32 ≤ 140737488355328 then (laws_toClaimFoeS.l0 k l0 (List.replicate ((l0.length : Int)).toNat z_impl_ClaimFoe) 0) else none)
def laws_toStringS.l0 : Nat → List ByteArray → List ByteArray → Int → Option (List ByteArray)
  | 0, _, _, _ => none
  | k + 1, l0, x3, x4 => (if x4 < (l0.length : Int) then (if 0 ≤ x4 then (if x4 < (x3.length : Int) then (laws_toStringS.l0 k l0 (x3.set (x4).toNat (rdOf ByteArray.empty l0 x4)) (wrap64 (x4 + 1))) else none) else none) else (some x3))
def laws_toStringS.f (k : Nat) (l0 : List ByteArray) : Option (List ByteArray) := (if (l0.length : Int) * 16 ≤ 140737488355328 then (laws_toStringS.l0 k l0 (List.replicate ((l0.length : Int)).toNat (⟨#[]⟩ : ByteArray)) 0) else none)
def laws_toClaimSpot.f (k : Nat) (a0_0 : ByteArray) (a0_1 : Int) (a0_2 : Int) (a0_3 : Int) (a0_4 : List ByteArray) : Option (ByteArray × Int × Int × Int × (List ByteArray)) := ((laws_toStringS.f k a0_4).bind fun t2455 => (some (a0_0, a0_1, a0_2, a0_3, t2455)))
def laws_toClaimSpotS.l0 : Nat → List S_laws_ClaimSpot → List S_impl_ClaimSpot → Int → Option (List S_impl_ClaimSpot)
  | 0, _, _, _ => none
  | k + 1, l0, x3, x4 => (if x4 < (l0.length : Int) then (if 0 ≤ x4 then ((laws_toClaimSpot.f k ((rd_laws_ClaimSpot l0 x4).f0) ((rd_laws_ClaimSpot l0 x4).f1) ((rd_laws_ClaimSpot l0 x4).f2) ((rd_laws_ClaimSpot l0 x4).f3) ((rd_laws_ClaimSpot l0 x4).f4)).bind fun t2462 => (if x4 < (x3.length : Int) then (laws_toClaimSpotS.l0 k l0 (x3.set (x4).toNat (⟨t2462.1, t2462.2.1, t2462.2.2.1, t2462.2.2.2.1, t2462.2.2.2.2⟩ : S_impl_ClaimSpot)) (wrap64 (x4 + 1))) else none)) else none) else (some x3))
def laws_toClaimSpotS.f (k : Nat) (l0 : List S_laws_ClaimSpot) : Option (List S_impl_ClaimSpot) := (if (l0.length : Int) * 64 ≤ 140737488355328 then (laws_toClaimSpotS.l0 k l0 (List.replicate ((l0.length : Int)).toNat z_impl_ClaimSpot) 0) else none)
def laws_toClaimUse.f (a0_0 : ByteArray) (a0_1 : Int) (a0_2 : Int) : Option (ByteArray × Int × Int) := (some (a0_0, a0_1, a0_2))
def laws_toClaimUseS.l0 : Nat → List S_laws_ClaimUse → List S_impl_ClaimUse → Int → Option (List S_impl_ClaimUse)
  | 0, _, _, _ => none
  | k + 1, l0, x3, x4 => (if x4 < (l0.length : Int) then (if 0 ≤ x4 then ((laws_toClaimUse.f ((rd_laws_ClaimUse l0 x4).f0) ((rd_laws_ClaimUse l0 x4).f1) ((rd_laws_ClaimUse l0 x4).f2)).bind fun t155 => (if x4 < (x3.length : Int) then (laws_toClaimUseS.l0 k l0 (x3.set (x4).toNat (⟨t155.1, t155.2.1, t155.2.2⟩ : S_impl_ClaimUse)) (wrap64 (x4 + 1))) else none)) else none) else (some x3))
def laws_toClaimUseS.f (k : Nat) (l0 : List S_laws_ClaimUse) : Option (List S_impl_ClaimUse) := (if (l0.length : Int) * 32 ≤ 140737488355328 then (laws_toClaimUseS.l0 k l0 (List.replicate ((l0.length : Int)).toNat z_impl_ClaimUse) 0) else none)
def laws_toClaimWant.f (k : Nat) (a0_0 : Int) (a0_1 : Int) (a0_2 : List ByteArray) (a0_3 : List S_laws_ClaimUse) (a0_4 : List ByteArray) (a0_5 : List ByteArray) : Option (Int × Int × (List ByteArray) × (List S_impl_ClaimUse) × (List ByteArray) × (List ByteArray)) := ((laws_toStringS.f k a0_2).bind fun t2659 => ((laws_toClaimUseS.f k a0_3).bind fun t2661 => ((laws_toStringS.f k a0_4).bind fun t2663 => ((laws_toStringS.f k a0_5).bind fun t2665 => (some (a0_0, a0_1, t2659, t2661, t2663, t2665))))))
def laws_toClaimPart.f (k : Nat) (a0_0 : Int) (a0_1 : Int) (a0_2 : List ByteArray) (a0_3 : List S_laws_ClaimUse) (a0_4 : List ByteArray) (a0_5 : List ByteArray) (a0_6 : Bool) : Option (Int × Int × (List ByteArray) × (List S_impl_ClaimUse) × (List ByteArray) × (List ByteArray) × Bool) := ((laws_toClaimWant.f k a0_0 a0_1 a0_2 a0_3 a0_4 a0_5).bind fun t2715 => (some (t2715.1, t2715.2.1, t2715.2.2.1, t2715.2.2.2.1, t2715.2.2.2.2.1, t2715.2.2.2.2.2, a0_6)))
def laws_toClaimPartS.l0 : Nat → List S_laws_ClaimPart → List S_impl_ClaimPart → Int → Option (List S_impl_ClaimPart)
  | 0, _, _, _ => none
  | k + 1, l0, x3, x4 => (if x4 < (l0.length : Int) then (if 0 ≤ x4 then ((laws_toClaimPart.f k (((rd_laws_ClaimPart l0 x4).f0).f0) (((rd_laws_ClaimPart l0 x4).f0).f1) (((rd_laws_ClaimPart l0 x4).f0).f2) (((rd_laws_ClaimPart l0 x4).f0).f3) (((rd_laws_ClaimPart l0 x4).f0).f4) (((rd_laws_ClaimPart l0 x4).f0).f5) ((rd_laws_ClaimPart l0 x4).f1)).bind fun t2722 => (if x4 < (x3.length : Int) then (laws_toClaimPartS.l0 k l0 (x3.set (x4).toNat (⟨(⟨t2722.1, t2722.2.1, t2722.2.2.1, t2722.2.2.2.1, t2722.2.2.2.2.1, t2722.2.2.2.2.2.1⟩ : S_impl_ClaimWant), t2722.2.2.2.2.2.2⟩ : S_impl_ClaimPart)) (wrap64 (x4 + 1))) else none)) else none) else (some x3))
def laws_toClaimPartS.f (k : Nat) (l0 : List S_laws_ClaimPart) : Option (List S_impl_ClaimPart) := (if (l0.length : Int) * 120 ≤ 140737488355328 then (laws_toClaimPartS.l0 k l0 (List.replicate ((l0.length : Int)).toNat z_impl_ClaimPart) 0) else none)
def laws_toClaimBook.f (k : Nat) (a0_0 : List S_laws_ClaimFoe) (a0_1 : List S_laws_ClaimSpot) (a0_2 : List ByteArray) (a0_3 : List S_laws_ClaimPart) (a0_4 : Int) : Option ((List S_impl_ClaimFoe) × (List S_impl_ClaimSpot) × (List ByteArray) × (List S_impl_ClaimPart) × Int) := ((laws_toClaimFoeS.f k a0_0).bind fun t2738 => ((laws_toClaimSpotS.f k a0_1).bind fun t2740 => ((laws_toStringS.f k a0_2).bind fun t2742 => ((laws_toClaimPartS.f k a0_3).bind fun t2744 => (some (t2738, t2740, t2742, t2744, a0_4))))))
def spec_l21In.f (a0 : Int) (a1 : Int) (a2 : Int) : Option (Bool) := (if a0 ≥ a1 then (some (decide (a0 ≤ a2))) else (some false))
def spec_l21NameOk.l0 : Nat → ByteArray → Int → Option (Bool)
  | 0, _, _ => none
  | k + 1, a0, x3 => (if x3 < (a0.size : Int) then (if 0 ≤ x3 then (if (bt a0 x3) ≥ 97 then (if (bt a0 x3) ≤ 122 then (spec_l21NameOk.l0 k a0 (wrap64 (x3 + 1))) else (if (bt a0 x3) ≥ 48 then (if (bt a0 x3) ≤ 57 then (spec_l21NameOk.l0 k a0 (wrap64 (x3 + 1))) else (if (bt a0 x3) = 45 then (spec_l21NameOk.l0 k a0 (wrap64 (x3 + 1))) else (some false))) else (if (bt a0 x3) = 45 then (spec_l21NameOk.l0 k a0 (wrap64 (x3 + 1))) else (some false)))) else (if (bt a0 x3) ≥ 48 then (if (bt a0 x3) ≤ 57 then (spec_l21NameOk.l0 k a0 (wrap64 (x3 + 1))) else (if (bt a0 x3) = 45 then (spec_l21NameOk.l0 k a0 (wrap64 (x3 + 1))) else (some false))) else (if (bt a0 x3) = 45 then (spec_l21NameOk.l0 k a0 (wrap64 (x3 + 1))) else (some false)))) else none) else (some true))
def spec_l21NameOk.f (k : Nat) (a0 : ByteArray) : Option (Bool) := ((spec_l21In.f (a0.size : Int) 1 8).bind fun t196 => (if t196 = true then (spec_l21NameOk.l0 k a0 0) else (some false)))
def spec_l22FoesOk.l0 : Nat → List S_impl_ClaimFoe → Int → Option (Bool)
  | 0, _, _ => none
  | k + 1, a0_0, x3 => (if x3 < (a0_0.length : Int) then (if 0 ≤ x3 then ((spec_l21NameOk.f k ((rd_impl_ClaimFoe a0_0 x3).f0)).bind fun t203 => (if t203 = true then ((spec_l21NameOk.f k ((rd_impl_ClaimFoe a0_0 x3).f1)).bind fun t204 => (if t204 = true then (if (Op.bytesLess ((rd_impl_ClaimFoe a0_0 x3).f0).toList ((rd_impl_ClaimFoe a0_0 x3).f1).toList) = true then (if x3 > 0 then (if 0 ≤ (wrap64 (x3 - 1)) then (if (wrap64 (x3 - 1)) < (a0_0.length : Int) then (if (Op.bytesLess ((rd_impl_ClaimFoe a0_0 x3).f0).toList ((rd_impl_ClaimFoe a0_0 (wrap64 (x3 - 1))).f0).toList) = true then (some false) else (if ((rd_impl_ClaimFoe a0_0 (wrap64 (x3 - 1))).f0).toList = ((rd_impl_ClaimFoe a0_0 x3).f0).toList then (if (Op.bytesLess ((rd_impl_ClaimFoe a0_0 (wrap64 (x3 - 1))).f1).toList ((rd_impl_ClaimFoe a0_0 x3).f1).toList) = true then (spec_l22FoesOk.l0 k a0_0 (wrap64 (x3 + 1))) else (some false)) else (spec_l22FoesOk.l0 k a0_0 (wrap64 (x3 + 1))))) else none) else none) else (spec_l22FoesOk.l0 k a0_0 (wrap64 (x3 + 1)))) else (some false)) else (some false))) else (some false))) else none) else (some true))
def spec_l22FoesOk.f (k : Nat) (a0_0 : List S_impl_ClaimFoe) (a0_1 : List S_impl_ClaimSpot) (a0_2 : List ByteArray) (a0_3 : List S_impl_ClaimPart) (a0_4 : Int) : Option (Bool) := (if (a0_0.length : Int) > 12 then (some false) else (spec_l22FoesOk.l0 k a0_0 0))
def spec_l21NamesOk.l0 : Nat → List ByteArray → Int → Option (Bool)
  | 0, _, _ => none
  | k + 1, l0, x5 => (if x5 < (l0.length : Int) then (if 0 ≤ x5 then ((spec_l21NameOk.f k (rdOf ByteArray.empty l0 x5)).bind fun t212 => (if t212 = true then (if x5 > 0 then (if 0 ≤ (wrap64 (x5 - 1)) then (if (wrap64 (x5 - 1)) < (l0.length : Int) then (if (Op.bytesLess (rdOf ByteArray.empty l0 (wrap64 (x5 - 1))).toList (rdOf ByteArray.empty l0 x5).toList) = true then (spec_l21NamesOk.l0 k l0 (wrap64 (x5 + 1))) else (some false)) else none) else none) else (spec_l21NamesOk.l0 k l0 (wrap64 (x5 + 1)))) else (some false))) else none) else (some true))
def spec_l21NamesOk.f (k : Nat) (l0 : List ByteArray) (a1 : Int) : Option (Bool) := (if (l0.length : Int) > a1 then (some false) else (spec_l21NamesOk.l0 k l0 0))
def spec_l22Foes.l0 : Nat → List S_impl_ClaimFoe → ByteArray → ByteArray → Int → Option (Bool)
  | 0, _, _, _, _ => none
  | k + 1, a0_0, a1, a2, x7 => (if x7 < (a0_0.length : Int) then (if 0 ≤ x7 then (if ((rd_impl_ClaimFoe a0_0 x7).f0).toList = a1.toList then (if ((rd_impl_ClaimFoe a0_0 x7).f1).toList = a2.toList then (some true) else (if ((rd_impl_ClaimFoe a0_0 x7).f0).toList = a2.toList then (if ((rd_impl_ClaimFoe a0_0 x7).f1).toList = a1.toList then (some true) else (spec_l22Foes.l0 k a0_0 a1 a2 (wrap64 (x7 + 1)))) else (spec_l22Foes.l0 k a0_0 a1 a2 (wrap64 (x7 + 1))))) else (if ((rd_impl_ClaimFoe a0_0 x7).f0).toList = a2.toList then (if ((rd_impl_ClaimFoe a0_0 x7).f1).toList = a1.toList then (some true) else (spec_l22Foes.l0 k a0_0 a1 a2 (wrap64 (x7 + 1)))) else (spec_l22Foes.l0 k a0_0 a1 a2 (wrap64 (x7 + 1))))) else none) else (some false))
def spec_l22Foes.f (k : Nat) (a0_0 : List S_impl_ClaimFoe) (a0_1 : List S_impl_ClaimSpot) (a0_2 : List ByteArray) (a0_3 : List S_impl_ClaimPart) (a0_4 : Int) (a1 : ByteArray) (a2 : ByteArray) : Option (Bool) := (spec_l22Foes.l0 k a0_0 a1 a2 0)
def spec_l22Clash.l0 : Nat → List S_impl_ClaimFoe → List S_impl_ClaimSpot → List ByteArray → List S_impl_ClaimPart → Int → ByteArray → List ByteArray → Int → Option (Bool)
  | 0, _, _, _, _, _, _, _, _ => none
  | k + 1, a0_0, a0_1, a0_2, a0_3, a0_4, a1, l2, x7 => (if x7 < (l2.length : Int) then (if 0 ≤ x7 then ((spec_l22Foes.f k a0_0 a0_1 a0_2 a0_3 a0_4 a1 (rdOf ByteArray.empty l2 x7)).bind fun t276 => (if t276 = true then (some true) else (spec_l22Clash.l0 k a0_0 a0_1 a0_2 a0_3 a0_4 a1 l2 (wrap64 (x7 + 1))))) else none) else (some false))
def spec_l22Clash.f (k : Nat) (a0_0 : List S_impl_ClaimFoe) (a0_1 : List S_impl_ClaimSpot) (a0_2 : List ByteArray) (a0_3 : List S_impl_ClaimPart) (a0_4 : Int) (a1 : ByteArray) (l2 : List ByteArray) : Option (Bool) := (spec_l22Clash.l0 k a0_0 a0_1 a0_2 a0_3 a0_4 a1 l2 0)
def spec_l22SpotOk.l0 : Nat → List S_impl_ClaimFoe → List S_impl_ClaimSpot → List ByteArray → List S_impl_ClaimPart → Int → List ByteArray → Int → Option (Bool)
  | 0, _, _, _, _, _, _, _ => none
  | k + 1, a0_0, a0_1, a0_2, a0_3, a0_4, a1_4, x5 => (if x5 < (a1_4.length : Int) then (if 0 ≤ x5 then ((spec_l22Clash.f k a0_0 a0_1 a0_2 a0_3 a0_4 (rdOf ByteArray.empty a1_4 x5) a1_4).bind fun t292 => (if t292 = true then (some false) else (spec_l22SpotOk.l0 k a0_0 a0_1 a0_2 a0_3 a0_4 a1_4 (wrap64 (x5 + 1))))) else none) else (some true))
def spec_l22SpotOk.f (k : Nat) (a0_0 : List S_impl_ClaimFoe) (a0_1 : List S_impl_ClaimSpot) (a0_2 : List ByteArray) (a0_3 : List S_impl_ClaimPart) (a0_4 : Int) (a1_0 : ByteArray) (a1_1 : Int) (a1_2 : Int) (a1_3 : Int) (a1_4 : List ByteArray) : Option (Bool) := ((spec_l21NameOk.f k a1_0).bind fun t285 => (if t285 = true then ((spec_l21In.f a1_1 0 1000).bind fun t286 => (if t286 = true then ((spec_l21In.f a1_2 0 a1_3).bind fun t287 => (if t287 = true then (if a1_3 > a1_1 then (some false) else ((spec_l21NamesOk.f k a1_4 8).bind fun t288 => (if t288 = true then (spec_l22SpotOk.l0 k a0_0 a0_1 a0_2 a0_3 a0_4 a1_4 0) else (some false)))) else (some false))) else (some false))) else (some false)))
def spec_l21UsesOk.l0 : Nat → Int → List S_impl_ClaimUse → Int → Option (Bool)
  | 0, _, _, _ => none
  | k + 1, a0_1, a0_3, x3 => (if x3 < (a0_3.length : Int) then (if 0 ≤ x3 then ((spec_l21NameOk.f k ((rd_impl_ClaimUse a0_3 x3).f0)).bind fun t377 => (if t377 = true then (if x3 > 0 then (if 0 ≤ (wrap64 (x3 - 1)) then (if (wrap64 (x3 - 1)) < (a0_3.length : Int) then (if (Op.bytesLess ((rd_impl_ClaimUse a0_3 (wrap64 (x3 - 1))).f0).toList ((rd_impl_ClaimUse a0_3 x3).f0).toList) = true then ((spec_l21In.f ((rd_impl_ClaimUse a0_3 x3).f1) 1 3).bind fun t378 => (if t378 = true then (if ((rd_impl_ClaimUse a0_3 x3).f1) = 3 then (if ((rd_impl_ClaimUse a0_3 x3).f2) = 0 then (spec_l21UsesOk.l0 k a0_1 a0_3 (wrap64 (x3 + 1))) else (some false)) else (if a0_1 = 1 then ((spec_l21In.f ((rd_impl_ClaimUse a0_3 x3).f2) 1 1000).bind fun t379 => (if t379 = true then (spec_l21UsesOk.l0 k a0_1 a0_3 (wrap64 (x3 + 1))) else (some false))) else (some false))) else (some false))) else (some false)) else none) else none) else ((spec_l21In.f ((rd_impl_ClaimUse a0_3 x3).f1) 1 3).bind fun t380 => (if t380 = true then (if ((rd_impl_ClaimUse a0_3 x3).f1) = 3 then (if ((rd_impl_ClaimUse a0_3 x3).f2) = 0 then (spec_l21UsesOk.l0 k a0_1 a0_3 (wrap64 (x3 + 1))) else (some false)) else (if a0_1 = 1 then ((spec_l21In.f ((rd_impl_ClaimUse a0_3 x3).f2) 1 1000).bind fun t381 => (if t381 = true then (spec_l21UsesOk.l0 k a0_1 a0_3 (wrap64 (x3 + 1))) else (some false))) else (some false))) else (some false)))) else (some false))) else none) else (some true))
def spec_l21UsesOk.f (k : Nat) (a0_0 : Int) (a0_1 : Int) (a0_2 : List ByteArray) (a0_3 : List S_impl_ClaimUse) (a0_4 : List ByteArray) (a0_5 : List ByteArray) : Option (Bool) := (if (a0_3.length : Int) > 8 then (some false) else (spec_l21UsesOk.l0 k a0_1 a0_3 0))
def spec_l21Has.l0 : Nat → List ByteArray → ByteArray → Int → Option (Bool)
  | 0, _, _, _ => none
  | k + 1, l0, a1, x5 => (if x5 < (l0.length : Int) then (if 0 ≤ x5 then (if (rdOf ByteArray.empty l0 x5).toList = a1.toList then (some true) else (spec_l21Has.l0 k l0 a1 (wrap64 (x5 + 1)))) else none) else (some false))
def spec_l21Has.f (k : Nat) (l0 : List ByteArray) (a1 : ByteArray) : Option (Bool) := (spec_l21Has.l0 k l0 a1 0)
def spec_l21Share.l0 : Nat → List ByteArray → List ByteArray → Int → Option (Bool)
  | 0, _, _, _ => none
  | k + 1, l0, l1, x5 => (if x5 < (l0.length : Int) then (if 0 ≤ x5 then ((spec_l21Has.f k l1 (rdOf ByteArray.empty l0 x5)).bind fun t427 => (if t427 = true then (some true) else (spec_l21Share.l0 k l0 l1 (wrap64 (x5 + 1))))) else none) else (some false))
def spec_l21Share.f (k : Nat) (l0 : List ByteArray) (l1 : List ByteArray) : Option (Bool) := (spec_l21Share.l0 k l0 l1 0)
def spec_ClaimWantOk.f (k : Nat) (a0_0 : Int) (a0_1 : Int) (a0_2 : List ByteArray) (a0_3 : List S_impl_ClaimUse) (a0_4 : List ByteArray) (a0_5 : List ByteArray) : Option (Bool) := ((spec_l21In.f a0_0 1 1000000).bind fun t444 => (if t444 = true then ((spec_l21In.f a0_1 1 3).bind fun t445 => (if t445 = true then ((spec_l21UsesOk.f k a0_0 a0_1 a0_2 a0_3 a0_4 a0_5).bind fun t446 => (if t446 = true then ((spec_l21NamesOk.f k a0_4 12).bind fun t447 => (if t447 = true then ((spec_l21NamesOk.f k a0_5 12).bind fun t448 => (if t448 = true then ((spec_l21Share.f k a0_4 a0_5).bind fun t449 => (if t449 = true then (some false) else (if (wrap64 ((wrap64 ((a0_3.length : Int) + (a0_4.length : Int))) + (a0_5.length : Int))) = 0 then (some false) else (if a0_1 = 1 then ((spec_l21NamesOk.f k a0_2 8).bind fun t450 => (if t450 = true then (some ((decide (a0_1 = 1)) == (decide ((a0_2.length : Int) > 0)))) else (some false))) else (if (a0_4.length : Int) > 0 then (some false) else ((spec_l21NamesOk.f k a0_2 8).bind fun t451 => (if t451 = true then (some ((decide (a0_1 = 1)) == (decide ((a0_2.length : Int) > 0)))) else (some false)))))))) else (some false))) else (some false))) else (some false))) else (some false))) else (some false)))
def spec_l22Spot.l0 : Nat → List S_impl_ClaimSpot → ByteArray → Int → Option (Int)
  | 0, _, _, _ => none
  | k + 1, a0_1, a1, x5 => (if x5 < (a0_1.length : Int) then (if 0 ≤ x5 then (if ((rd_impl_ClaimSpot a0_1 x5).f0).toList = a1.toList then (some x5) else (spec_l22Spot.l0 k a0_1 a1 (wrap64 (x5 + 1)))) else none) else (some (-1)))
def spec_l22Spot.f (k : Nat) (a0_0 : List S_impl_ClaimFoe) (a0_1 : List S_impl_ClaimSpot) (a0_2 : List ByteArray) (a0_3 : List S_impl_ClaimPart) (a0_4 : Int) (a1 : ByteArray) : Option (Int) := (spec_l22Spot.l0 k a0_1 a1 0)
def spec_l22Knows.l2 : Nat → List ByteArray → List ByteArray → Int → Option (Bool)
  | 0, _, _, _ => none
  | k + 1, a0_2, a1_5, x7 => (if x7 < (a1_5.length : Int) then (if 0 ≤ x7 then ((spec_l21Has.f k a0_2 (rdOf ByteArray.empty a1_5 x7)).bind fun t497 => (if t497 = true then (spec_l22Knows.l2 k a0_2 a1_5 (wrap64 (x7 + 1))) else (some false))) else none) else (some true))
def spec_l22Knows.l1 : Nat → List ByteArray → List ByteArray → List ByteArray → Int → Option (Bool)
  | 0, _, _, _, _ => none
  | k + 1, a0_2, a1_4, a1_5, x6 => (if x6 < (a1_4.length : Int) then (if 0 ≤ x6 then ((spec_l21Has.f k a0_2 (rdOf ByteArray.empty a1_4 x6)).bind fun t493 => (if t493 = true then (spec_l22Knows.l1 k a0_2 a1_4 a1_5 (wrap64 (x6 + 1))) else (some false))) else none) else (spec_l22Knows.l2 k a0_2 a1_5 0))
def spec_l22Knows.l0 : Nat → List S_impl_ClaimFoe → List S_impl_ClaimSpot → List ByteArray → List S_impl_ClaimPart → Int → List S_impl_ClaimUse → List ByteArray → List ByteArray → Int → Option (Bool)
  | 0, _, _, _, _, _, _, _, _, _ => none
  | k + 1, a0_0, a0_1, a0_2, a0_3, a0_4, a1_3, a1_4, a1_5, x5 => (if x5 < (a1_3.length : Int) then (if 0 ≤ x5 then ((spec_l22Spot.f k a0_0 a0_1 a0_2 a0_3 a0_4 ((rd_impl_ClaimUse a1_3 x5).f0)).bind fun t489 => (if t489 < 0 then (some false) else (spec_l22Knows.l0 k a0_0 a0_1 a0_2 a0_3 a0_4 a1_3 a1_4 a1_5 (wrap64 (x5 + 1))))) else none) else (spec_l22Knows.l1 k a0_2 a1_4 a1_5 0))
def spec_l22Knows.f (k : Nat) (a0_0 : List S_impl_ClaimFoe) (a0_1 : List S_impl_ClaimSpot) (a0_2 : List ByteArray) (a0_3 : List S_impl_ClaimPart) (a0_4 : Int) (a1_0 : Int) (a1_1 : Int) (a1_2 : List ByteArray) (a1_3 : List S_impl_ClaimUse) (a1_4 : List ByteArray) (a1_5 : List ByteArray) : Option (Bool) := (spec_l22Knows.l0 k a0_0 a0_1 a0_2 a0_3 a0_4 a1_3 a1_4 a1_5 0)
def spec_l21All.l0 : Nat → List ByteArray → List ByteArray → Int → Option (Bool)
  | 0, _, _, _ => none
  | k + 1, l0, l1, x5 => (if x5 < (l0.length : Int) then (if 0 ≤ x5 then ((spec_l21Has.f k l1 (rdOf ByteArray.empty l0 x5)).bind fun t547 => (if t547 = true then (spec_l21All.l0 k l0 l1 (wrap64 (x5 + 1))) else (some false))) else none) else (some true))
def spec_l21All.f (k : Nat) (l0 : List ByteArray) (l1 : List ByteArray) : Option (Bool) := (spec_l21All.l0 k l0 l1 0)
def spec_l22UseOk.f (k : Nat) (a0_0 : ByteArray) (a0_1 : Int) (a0_2 : Int) (a0_3 : Int) (a0_4 : List ByteArray) (a1_0 : Int) (a1_1 : Int) (a1_2 : List ByteArray) (a1_3 : List S_impl_ClaimUse) (a1_4 : List ByteArray) (a1_5 : List ByteArray) (a2_0 : ByteArray) (a2_1 : Int) (a2_2 : Int) : Option (Bool) := (if a1_1 = 2 then (if a0_3 > 0 then (some false) else (if a1_1 = 1 then (if a2_1 = 2 then (if a2_1 = 1 then (some (decide ((wrap64 (a0_2 + a2_2)) ≤ a0_3))) else ((spec_l21All.f k a1_2 a0_4).bind fun t560 => (if t560 = true then (some (decide ((wrap64 (a0_2 + a2_2)) ≤ a0_3))) else (some false)))) else ((spec_l21All.f k a0_4 a1_2).bind fun t561 => (if t561 = true then (if a2_1 = 1 then (some (decide ((wrap64 (a0_2 + a2_2)) ≤ a0_3))) else ((spec_l21All.f k a1_2 a0_4).bind fun t562 => (if t562 = true then (some (decide ((wrap64 (a0_2 + a2_2)) ≤ a0_3))) else (some false)))) else (some false)))) else (some (decide ((wrap64 (a0_2 + a2_2)) ≤ a0_3))))) else (if a1_1 = 1 then (if a2_1 = 2 then (if a2_1 = 1 then (some (decide ((wrap64 (a0_2 + a2_2)) ≤ a0_3))) else ((spec_l21All.f k a1_2 a0_4).bind fun t563 => (if t563 = true then (some (decide ((wrap64 (a0_2 + a2_2)) ≤ a0_3))) else (some false)))) else ((spec_l21All.f k a0_4 a1_2).bind fun t564 => (if t564 = true then (if a2_1 = 1 then (some (decide ((wrap64 (a0_2 + a2_2)) ≤ a0_3))) else ((spec_l21All.f k a1_2 a0_4).bind fun t565 => (if t565 = true then (some (decide ((wrap64 (a0_2 + a2_2)) ≤ a0_3))) else (some false)))) else (some false)))) else (some (decide ((wrap64 (a0_2 + a2_2)) ≤ a0_3)))))
def spec_l22PartOk.l0 : Nat → List S_impl_ClaimFoe → List S_impl_ClaimSpot → List ByteArray → List S_impl_ClaimPart → Int → Int → Int → List ByteArray → List S_impl_ClaimUse → List ByteArray → List ByteArray → Int → Option (Bool)
  | 0, _, _, _, _, _, _, _, _, _, _, _, _ => none
  | k + 1, a0_0, a0_1, a0_2, a0_3, a0_4, a1_0, a1_1, a1_2, a1_3, a1_4, a1_5, x5 => (if x5 < (a1_3.length : Int) then (if 0 ≤ x5 then ((spec_l22Spot.f k a0_0 a0_1 a0_2 a0_3 a0_4 ((rd_impl_ClaimUse a1_3 x5).f0)).bind fun t578 => (if 0 ≤ t578 then (if t578 < (a0_1.length : Int) then ((spec_l22UseOk.f k ((rd_impl_ClaimSpot a0_1 t578).f0) ((rd_impl_ClaimSpot a0_1 t578).f1) ((rd_impl_ClaimSpot a0_1 t578).f2) ((rd_impl_ClaimSpot a0_1 t578).f3) ((rd_impl_ClaimSpot a0_1 t578).f4) a1_0 a1_1 a1_2 a1_3 a1_4 a1_5 ((rd_impl_ClaimUse a1_3 x5).f0) ((rd_impl_ClaimUse a1_3 x5).f1) ((rd_impl_ClaimUse a1_3 x5).f2)).bind fun t579 => (if t579 = true then (spec_l22PartOk.l0 k a0_0 a0_1 a0_2 a0_3 a0_4 a1_0 a1_1 a1_2 a1_3 a1_4 a1_5 (wrap64 (x5 + 1))) else (some false))) else none) else none)) else none) else (some true))
def spec_l22PartOk.f (k : Nat) (a0_0 : List S_impl_ClaimFoe) (a0_1 : List S_impl_ClaimSpot) (a0_2 : List ByteArray) (a0_3 : List S_impl_ClaimPart) (a0_4 : Int) (a1_0 : Int) (a1_1 : Int) (a1_2 : List ByteArray) (a1_3 : List S_impl_ClaimUse) (a1_4 : List ByteArray) (a1_5 : List ByteArray) (a1_6 : Bool) : Option (Bool) := ((spec_ClaimWantOk.f k a1_0 a1_1 a1_2 a1_3 a1_4 a1_5).bind fun t570 => (if t570 = true then (if a1_0 > a0_4 then (some false) else ((spec_l22Knows.f k a0_0 a0_1 a0_2 a0_3 a0_4 a1_0 a1_1 a1_2 a1_3 a1_4 a1_5).bind fun t571 => (if t571 = true then (spec_l22PartOk.l0 k a0_0 a0_1 a0_2 a0_3 a0_4 a1_0 a1_1 a1_2 a1_3 a1_4 a1_5 0) else (some false)))) else (some false)))
def spec_l22Uses.l0 : Nat → List S_impl_ClaimUse → List ByteArray → Int → Option (List ByteArray)
  | 0, _, _, _ => none
  | k + 1, a0_3, x3, x4 => (if x4 < (a0_3.length : Int) then (if 0 ≤ x4 then (if (x3.length + 1) * 16 ≤ 140737488355328 then (spec_l22Uses.l0 k a0_3 (x3 ++ ([(rd_impl_ClaimUse a0_3 x4).f0] : List ByteArray)) (wrap64 (x4 + 1))) else none) else none) else (some x3))
def spec_l22Uses.f (k : Nat) (a0_0 : Int) (a0_1 : Int) (a0_2 : List ByteArray) (a0_3 : List S_impl_ClaimUse) (a0_4 : List ByteArray) (a0_5 : List ByteArray) : Option (List ByteArray) := (spec_l22Uses.l0 k a0_3 ([] : List ByteArray) 0)
def spec_l22Crosses.f (k : Nat) (a0_0 : Int) (a0_1 : Int) (a0_2 : List ByteArray) (a0_3 : List S_impl_ClaimUse) (a0_4 : List ByteArray) (a0_5 : List ByteArray) (a1_0 : Int) (a1_1 : Int) (a1_2 : List ByteArray) (a1_3 : List S_impl_ClaimUse) (a1_4 : List ByteArray) (a1_5 : List ByteArray) : Option (Bool) := ((spec_l21Share.f k a0_4 a1_4).bind fun t622 => (if t622 = true then (some true) else ((spec_l21Share.f k a0_4 a1_5).bind fun t623 => (if t623 = true then (some true) else ((spec_l21Share.f k a0_5 a1_4).bind fun t624 => (some t624))))))
mutual
def spec_l22PartsOk.l1 : Nat → List S_impl_ClaimFoe → List S_impl_ClaimSpot → List ByteArray → List S_impl_ClaimPart → Int → Int → Int → Option (Bool)
  | 0, _, _, _, _, _, _, _ => none
  | k + 1, a0_0, a0_1, a0_2, a0_3, a0_4, x3, x5 => (if x5 < x3 then (if 0 ≤ x5 then (if x5 < (a0_3.length : Int) then ((spec_l22Uses.f k (((rd_impl_ClaimPart a0_3 x3).f0).f0) (((rd_impl_ClaimPart a0_3 x3).f0).f1) (((rd_impl_ClaimPart a0_3 x3).f0).f2) (((rd_impl_ClaimPart a0_3 x3).f0).f3) (((rd_impl_ClaimPart a0_3 x3).f0).f4) (((rd_impl_ClaimPart a0_3 x3).f0).f5)).bind fun t658 => ((spec_l22Uses.f k (((rd_impl_ClaimPart a0_3 x5).f0).f0) (((rd_impl_ClaimPart a0_3 x5).f0).f1) (((rd_impl_ClaimPart a0_3 x5).f0).f2) (((rd_impl_ClaimPart a0_3 x5).f0).f3) (((rd_impl_ClaimPart a0_3 x5).f0).f4) (((rd_impl_ClaimPart a0_3 x5).f0).f5)).bind fun t659 => ((spec_l21Share.f k t658 t659).bind fun t660 => (if t660 = true then (some false) else ((spec_l22Crosses.f k (((rd_impl_ClaimPart a0_3 x3).f0).f0) (((rd_impl_ClaimPart a0_3 x3).f0).f1) (((rd_impl_ClaimPart a0_3 x3).f0).f2) (((rd_impl_ClaimPart a0_3 x3).f0).f3) (((rd_impl_ClaimPart a0_3 x3).f0).f4) (((rd_impl_ClaimPart a0_3 x3).f0).f5) (((rd_impl_ClaimPart a0_3 x5).f0).f0) (((rd_impl_ClaimPart a0_3 x5).f0).f1) (((rd_impl_ClaimPart a0_3 x5).f0).f2) (((rd_impl_ClaimPart a0_3 x5).f0).f3) (((rd_impl_ClaimPart a0_3 x5).f0).f4) (((rd_impl_ClaimPart a0_3 x5).f0).f5)).bind fun t661 => (if t661 = true then (some false) else (spec_l22PartsOk.l1 k a0_0 a0_1 a0_2 a0_3 a0_4 x3 (wrap64 (x5 + 1))))))))) else none) else none) else (spec_l22PartsOk.l0 k a0_0 a0_1 a0_2 a0_3 a0_4 (wrap64 (x3 + 1))))
def spec_l22PartsOk.l2 : Nat → List S_impl_ClaimFoe → List S_impl_ClaimSpot → List ByteArray → List S_impl_ClaimPart → Int → Int → Int → Option (Bool)
  | 0, _, _, _, _, _, _, _ => none
  | k + 1, a0_0, a0_1, a0_2, a0_3, a0_4, x3, x5_1 => (if x5_1 < x3 then (if 0 ≤ x5_1 then (if x5_1 < (a0_3.length : Int) then ((spec_l22Uses.f k (((rd_impl_ClaimPart a0_3 x3).f0).f0) (((rd_impl_ClaimPart a0_3 x3).f0).f1) (((rd_impl_ClaimPart a0_3 x3).f0).f2) (((rd_impl_ClaimPart a0_3 x3).f0).f3) (((rd_impl_ClaimPart a0_3 x3).f0).f4) (((rd_impl_ClaimPart a0_3 x3).f0).f5)).bind fun t662 => ((spec_l22Uses.f k (((rd_impl_ClaimPart a0_3 x5_1).f0).f0) (((rd_impl_ClaimPart a0_3 x5_1).f0).f1) (((rd_impl_ClaimPart a0_3 x5_1).f0).f2) (((rd_impl_ClaimPart a0_3 x5_1).f0).f3) (((rd_impl_ClaimPart a0_3 x5_1).f0).f4) (((rd_impl_ClaimPart a0_3 x5_1).f0).f5)).bind fun t663 => ((spec_l21Share.f k t662 t663).bind fun t664 => (if t664 = true then (some false) else ((spec_l22Crosses.f k (((rd_impl_ClaimPart a0_3 x3).f0).f0) (((rd_impl_ClaimPart a0_3 x3).f0).f1) (((rd_impl_ClaimPart a0_3 x3).f0).f2) (((rd_impl_ClaimPart a0_3 x3).f0).f3) (((rd_impl_ClaimPart a0_3 x3).f0).f4) (((rd_impl_ClaimPart a0_3 x3).f0).f5) (((rd_impl_ClaimPart a0_3 x5_1).f0).f0) (((rd_impl_ClaimPart a0_3 x5_1).f0).f1) (((rd_impl_ClaimPart a0_3 x5_1).f0).f2) (((rd_impl_ClaimPart a0_3 x5_1).f0).f3) (((rd_impl_ClaimPart a0_3 x5_1).f0).f4) (((rd_impl_ClaimPart a0_3 x5_1).f0).f5)).bind fun t665 => (if t665 = true then (some false) else (spec_l22PartsOk.l2 k a0_0 a0_1 a0_2 a0_3 a0_4 x3 (wrap64 (x5_1 + 1))))))))) else none) else none) else (spec_l22PartsOk.l0 k a0_0 a0_1 a0_2 a0_3 a0_4 (wrap64 (x3 + 1))))
def spec_l22PartsOk.l0 : Nat → List S_impl_ClaimFoe → List S_impl_ClaimSpot → List ByteArray → List S_impl_ClaimPart → Int → Int → Option (Bool)
  | 0, _, _, _, _, _, _ => none
  | k + 1, a0_0, a0_1, a0_2, a0_3, a0_4, x3 => (if x3 < (a0_3.length : Int) then (if 0 ≤ x3 then ((spec_l22PartOk.f k a0_0 a0_1 a0_2 a0_3 a0_4 (((rd_impl_ClaimPart a0_3 x3).f0).f0) (((rd_impl_ClaimPart a0_3 x3).f0).f1) (((rd_impl_ClaimPart a0_3 x3).f0).f2) (((rd_impl_ClaimPart a0_3 x3).f0).f3) (((rd_impl_ClaimPart a0_3 x3).f0).f4) (((rd_impl_ClaimPart a0_3 x3).f0).f5) ((rd_impl_ClaimPart a0_3 x3).f1)).bind fun t657 => (if t657 = true then (if x3 > 0 then (if 0 ≤ (wrap64 (x3 - 1)) then (if (wrap64 (x3 - 1)) < (a0_3.length : Int) then (if (((rd_impl_ClaimPart a0_3 (wrap64 (x3 - 1))).f0).f0) ≥ (((rd_impl_ClaimPart a0_3 x3).f0).f0) then (some false) else (spec_l22PartsOk.l1 k a0_0 a0_1 a0_2 a0_3 a0_4 x3 0)) else none) else none) else (spec_l22PartsOk.l2 k a0_0 a0_1 a0_2 a0_3 a0_4 x3 0)) else (some false))) else none) else (some true))
end
def spec_l22PartsOk.f (k : Nat) (a0_0 : List S_impl_ClaimFoe) (a0_1 : List S_impl_ClaimSpot) (a0_2 : List ByteArray) (a0_3 : List S_impl_ClaimPart) (a0_4 : Int) : Option (Bool) := (if (a0_3.length : Int) > 6 then (some false) else (spec_l22PartsOk.l0 k a0_0 a0_1 a0_2 a0_3 a0_4 0))
def spec_ClaimBookOk.l0 : Nat → List S_impl_ClaimFoe → List S_impl_ClaimSpot → List ByteArray → List S_impl_ClaimPart → Int → Int → Option (Bool)
  | 0, _, _, _, _, _, _ => none
  | k + 1, a0_0, a0_1, a0_2, a0_3, a0_4, x3 => (if x3 < (a0_1.length : Int) then (if 0 ≤ x3 then ((spec_l22SpotOk.f k a0_0 a0_1 a0_2 a0_3 a0_4 ((rd_impl_ClaimSpot a0_1 x3).f0) ((rd_impl_ClaimSpot a0_1 x3).f1) ((rd_impl_ClaimSpot a0_1 x3).f2) ((rd_impl_ClaimSpot a0_1 x3).f3) ((rd_impl_ClaimSpot a0_1 x3).f4)).bind fun t678 => (if t678 = true then (if x3 > 0 then (if 0 ≤ (wrap64 (x3 - 1)) then (if (wrap64 (x3 - 1)) < (a0_1.length : Int) then (if (Op.bytesLess ((rd_impl_ClaimSpot a0_1 (wrap64 (x3 - 1))).f0).toList ((rd_impl_ClaimSpot a0_1 x3).f0).toList) = true then (spec_ClaimBookOk.l0 k a0_0 a0_1 a0_2 a0_3 a0_4 (wrap64 (x3 + 1))) else (some false)) else none) else none) else (spec_ClaimBookOk.l0 k a0_0 a0_1 a0_2 a0_3 a0_4 (wrap64 (x3 + 1)))) else (some false))) else none) else ((spec_l22PartsOk.f k a0_0 a0_1 a0_2 a0_3 a0_4).bind fun t680 => (some t680)))
def spec_ClaimBookOk.f (k : Nat) (a0_0 : List S_impl_ClaimFoe) (a0_1 : List S_impl_ClaimSpot) (a0_2 : List ByteArray) (a0_3 : List S_impl_ClaimPart) (a0_4 : Int) : Option (Bool) := ((spec_l22FoesOk.f k a0_0 a0_1 a0_2 a0_3 a0_4).bind fun t672 => (if t672 = true then (if (a0_1.length : Int) > 8 then (some false) else ((spec_l21NamesOk.f k a0_2 12).bind fun t673 => (if t673 = true then ((spec_l21In.f a0_4 0 1000000).bind fun t674 => (if t674 = true then (spec_ClaimBookOk.l0 k a0_0 a0_1 a0_2 a0_3 a0_4 0) else (some false))) else (some false)))) else (some false)))
def spec_ClaimShut.l0 : Nat → List S_impl_ClaimPart → ByteArray → List Int → Int → Option (List Int)
  | 0, _, _, _, _ => none
  | k + 1, a0_3, a1, x5, x6 => (if x6 < (a0_3.length : Int) then (if 0 ≤ x6 then ((spec_l21Has.f k (((rd_impl_ClaimPart a0_3 x6).f0).f5) a1).bind fun t689 => (if t689 = true then (if (x5.length + 1) * 8 ≤ 140737488355328 then (spec_ClaimShut.l0 k a0_3 a1 (x5 ++ ([((rd_impl_ClaimPart a0_3 x6).f0).f0] : List Int)) (wrap64 (x6 + 1))) else none) else (spec_ClaimShut.l0 k a0_3 a1 x5 (wrap64 (x6 + 1))))) else none) else (some x5))
def spec_ClaimShut.f (k : Nat) (a0_0 : List S_impl_ClaimFoe) (a0_1 : List S_impl_ClaimSpot) (a0_2 : List ByteArray) (a0_3 : List S_impl_ClaimPart) (a0_4 : Int) (a1 : ByteArray) : Option (List Int) := ((spec_ClaimBookOk.f k a0_0 a0_1 a0_2 a0_3 a0_4).bind fun t683 => (if t683 = true then (spec_ClaimShut.l0 k a0_3 a1 ([] : List Int) 0) else (some ([] : List Int))))
def impl_ClaimBook_pairs.l0 : Nat → List S_impl_ClaimFoe → List S_A2_string → Int → Option (List S_A2_string)
  | 0, _, _, _ => none
  | k + 1, a0_0, x2, x8 => (if x8 < (a0_0.length : Int) then (if 0 ≤ x8 then (if (x2.length + 1) * 32 ≤ 140737488355328 then (impl_ClaimBook_pairs.l0 k a0_0 (x2 ++ ([(⟨(rd_impl_ClaimFoe a0_0 x8).f0, (rd_impl_ClaimFoe a0_0 x8).f1⟩ : S_A2_string)] : List S_A2_string)) (wrap64 (x8 + 1))) else none) else none) else (some x2))
def impl_ClaimBook_pairs.f (k : Nat) (a0_0 : List S_impl_ClaimFoe) (a0_1 : List S_impl_ClaimSpot) (a0_2 : List ByteArray) (a0_3 : List S_impl_ClaimPart) (a0_4 : Int) : Option (List S_A2_string) := (impl_ClaimBook_pairs.l0 k a0_0 [] 0)
def impl_isName.l0 : Nat → ByteArray → Int → Option (Bool)
  | 0, _, _ => none
  | k + 1, a0, x7 => (if x7 < (a0.size : Int) then (if 0 ≤ x7 then (if (bt a0 x7) < 97 then (if (bt a0 x7) < 48 then (if (bt a0 x7) = 45 then (impl_isName.l0 k a0 (wrap64 (x7 + 1))) else (some false)) else (if (bt a0 x7) > 57 then (if (bt a0 x7) = 45 then (impl_isName.l0 k a0 (wrap64 (x7 + 1))) else (some false)) else (impl_isName.l0 k a0 (wrap64 (x7 + 1))))) else (if (bt a0 x7) > 122 then (if (bt a0 x7) < 48 then (if (bt a0 x7) = 45 then (impl_isName.l0 k a0 (wrap64 (x7 + 1))) else (some false)) else (if (bt a0 x7) > 57 then (if (bt a0 x7) = 45 then (impl_isName.l0 k a0 (wrap64 (x7 + 1))) else (some false)) else (impl_isName.l0 k a0 (wrap64 (x7 + 1))))) else (impl_isName.l0 k a0 (wrap64 (x7 + 1))))) else none) else (if (a0.size : Int) ≥ 1 then (some (decide ((a0.size : Int) ≤ 8))) else (some false)))
def impl_isName.f (k : Nat) (a0 : ByteArray) : Option (Bool) := (impl_isName.l0 k a0 0)
def impl_foesOk.l0 : Nat → List S_A2_string → Int → Int → Option (Bool)
  | 0, _, _, _ => none
  | k + 1, l0, a1, x9 => (if x9 < (l0.length : Int) then (if 0 ≤ x9 then ((impl_isName.f k ((rd_A2_string l0 x9).f0)).bind fun t740 => (if t740 = true then ((impl_isName.f k ((rd_A2_string l0 x9).f1)).bind fun t741 => (if t741 = true then (if (Op.bytesLess ((rd_A2_string l0 x9).f0).toList ((rd_A2_string l0 x9).f1).toList) = true then (if x9 > 0 then (if 0 ≤ (wrap64 (x9 - 1)) then (if (wrap64 (x9 - 1)) < (l0.length : Int) then (if (Op.bytesLess ((rd_A2_string l0 x9).f0).toList ((rd_A2_string l0 (wrap64 (x9 - 1))).f0).toList) = true then (some false) else (if ((rd_A2_string l0 (wrap64 (x9 - 1))).f0).toList = ((rd_A2_string l0 x9).f0).toList then (if (Op.bytesLess ((rd_A2_string l0 (wrap64 (x9 - 1))).f1).toList ((rd_A2_string l0 x9).f1).toList) = true then (impl_foesOk.l0 k l0 a1 (wrap64 (x9 + 1))) else (some false)) else (impl_foesOk.l0 k l0 a1 (wrap64 (x9 + 1))))) else none) else none) else (impl_foesOk.l0 k l0 a1 (wrap64 (x9 + 1)))) else (some false)) else (some false))) else (some false))) else none) else (some (decide ((l0.length : Int) ≤ a1))))
def impl_foesOk.f (k : Nat) (l0 : List S_A2_string) (a1 : Int) : Option (Bool) := (impl_foesOk.l0 k l0 a1 0)
def impl_rising.l0 : Nat → List ByteArray → Int → Option (Bool)
  | 0, _, _ => none
  | k + 1, l0, x3 => (if x3 < (l0.length : Int) then (if 0 ≤ (wrap64 (x3 - 1)) then (if (wrap64 (x3 - 1)) < (l0.length : Int) then (if 0 ≤ x3 then (if (Op.bytesLess (rdOf ByteArray.empty l0 (wrap64 (x3 - 1))).toList (rdOf ByteArray.empty l0 x3).toList) = true then (impl_rising.l0 k l0 (wrap64 (x3 + 1))) else (some false)) else none) else none) else none) else (some true))
def impl_rising.f (k : Nat) (l0 : List ByteArray) : Option (Bool) := (impl_rising.l0 k l0 1)
def impl_names.l0 : Nat → List ByteArray → Int → Option (Bool)
  | 0, _, _ => none
  | k + 1, l0, x7 => (if x7 < (l0.length : Int) then (if 0 ≤ x7 then ((impl_isName.f k (rdOf ByteArray.empty l0 x7)).bind fun t769 => (if t769 = true then (impl_names.l0 k l0 (wrap64 (x7 + 1))) else (some false))) else none) else ((impl_rising.f k l0).bind fun t771 => (some t771)))
def impl_names.f (k : Nat) (l0 : List ByteArray) : Option (Bool) := (impl_names.l0 k l0 0)
def impl_foes.l0 : Nat → List S_A2_string → ByteArray → ByteArray → Int → Option (Bool)
  | 0, _, _, _, _ => none
  | k + 1, l0, a1, a2, x11 => (if x11 < (l0.length : Int) then (if 0 ≤ x11 then (if (decide (((rd_A2_string l0 x11).f0).toList = a1.toList) && (decide (((rd_A2_string l0 x11).f1).toList = a2.toList) && true)) = true then (some true) else (if (decide (((rd_A2_string l0 x11).f0).toList = a2.toList) && (decide (((rd_A2_string l0 x11).f1).toList = a1.toList) && true)) = true then (some true) else (impl_foes.l0 k l0 a1 a2 (wrap64 (x11 + 1))))) else none) else (some false))
def impl_foes.f (k : Nat) (l0 : List S_A2_string) (a1 : ByteArray) (a2 : ByteArray) : Option (Bool) := (impl_foes.l0 k l0 a1 a2 0)
mutual
def impl_anyFoes.l1 : Nat → List S_A2_string → List ByteArray → List ByteArray → Int → Int → Option (Bool)
  | 0, _, _, _, _, _ => none
  | k + 1, l0, l1, l2, x13, x19 => (if x19 < (l2.length : Int) then (if 0 ≤ x19 then ((impl_foes.f k l0 (rdOf ByteArray.empty l1 x13) (rdOf ByteArray.empty l2 x19)).bind fun t818 => (if t818 = true then (some true) else (impl_anyFoes.l1 k l0 l1 l2 x13 (wrap64 (x19 + 1))))) else none) else (impl_anyFoes.l0 k l0 l1 l2 (wrap64 (x13 + 1))))
def impl_anyFoes.l0 : Nat → List S_A2_string → List ByteArray → List ByteArray → Int → Option (Bool)
  | 0, _, _, _, _ => none
  | k + 1, l0, l1, l2, x13 => (if x13 < (l1.length : Int) then (if 0 ≤ x13 then (impl_anyFoes.l1 k l0 l1 l2 x13 0) else none) else (some false))
end
def impl_anyFoes.f (k : Nat) (l0 : List S_A2_string) (l1 : List ByteArray) (l2 : List ByteArray) : Option (Bool) := (impl_anyFoes.l0 k l0 l1 l2 0)
def slices_Index_string_string.l0 : Nat → List ByteArray → ByteArray → Int → Option (Int)
  | 0, _, _, _ => none
  | k + 1, l0, a1, x8 => (if x8 < (l0.length : Int) then (if 0 ≤ x8 then (if a1.toList = (rdOf ByteArray.empty l0 x8).toList then (some x8) else (slices_Index_string_string.l0 k l0 a1 (wrap64 (x8 + 1)))) else none) else (some (-1)))
def slices_Index_string_string.f (k : Nat) (l0 : List ByteArray) (a1 : ByteArray) : Option (Int) := (slices_Index_string_string.l0 k l0 a1 0)
def slices_Contains_string_string.f (k : Nat) (l0 : List ByteArray) (a1 : ByteArray) : Option (Bool) := ((slices_Index_string_string.f k l0 a1).bind fun t1055 => (some (decide (t1055 ≥ 0))))
def impl_has.f (k : Nat) (l0 : List ByteArray) (a1 : ByteArray) : Option (Bool) := ((slices_Contains_string_string.f k l0 a1).bind fun t1057 => (some t1057))
def impl_ClaimWantOk.l1 : Nat → Int → List S_impl_ClaimUse → List ByteArray → List ByteArray → Int → Option (Bool)
  | 0, _, _, _, _, _ => none
  | k + 1, a0_1, a0_3, a0_4, a0_5, x130 => (if x130 < (a0_4.length : Int) then (if 0 ≤ x130 then ((impl_has.f k a0_5 (rdOf ByteArray.empty a0_4 x130)).bind fun t1078 => (if t1078 = true then (some false) else (impl_ClaimWantOk.l1 k a0_1 a0_3 a0_4 a0_5 (wrap64 (x130 + 1))))) else none) else (if (a0_4.length : Int) = 0 then (some (decide ((wrap64 ((wrap64 ((a0_3.length : Int) + (a0_4.length : Int))) + (a0_5.length : Int))) > 0))) else (if a0_1 = 1 then (some (decide ((wrap64 ((wrap64 ((a0_3.length : Int) + (a0_4.length : Int))) + (a0_5.length : Int))) > 0))) else (some false))))
mutual
def impl_ClaimWantOk.j0 : Nat → Int → List S_impl_ClaimUse → List ByteArray → List ByteArray → Int → Option (Bool)
  | 0, _, _, _, _, _ => none
  | k + 1, a0_1, a0_3, a0_4, a0_5, x78 => (if ((rd_impl_ClaimUse a0_3 x78).f1) = 3 then (if ((rd_impl_ClaimUse a0_3 x78).f2) = 0 then (impl_ClaimWantOk.l0 k a0_1 a0_3 a0_4 a0_5 (wrap64 (x78 + 1))) else (some false)) else (if ((rd_impl_ClaimUse a0_3 x78).f1) = 1 then (if ((rd_impl_ClaimUse a0_3 x78).f2) < 1 then (some false) else (if ((rd_impl_ClaimUse a0_3 x78).f2) > 1000 then (some false) else (if a0_1 = 1 then (impl_ClaimWantOk.l0 k a0_1 a0_3 a0_4 a0_5 (wrap64 (x78 + 1))) else (some false)))) else (if ((rd_impl_ClaimUse a0_3 x78).f1) = 2 then (if ((rd_impl_ClaimUse a0_3 x78).f2) < 1 then (some false) else (if ((rd_impl_ClaimUse a0_3 x78).f2) > 1000 then (some false) else (if a0_1 = 1 then (impl_ClaimWantOk.l0 k a0_1 a0_3 a0_4 a0_5 (wrap64 (x78 + 1))) else (some false)))) else (some false))))
def impl_ClaimWantOk.l0 : Nat → Int → List S_impl_ClaimUse → List ByteArray → List ByteArray → Int → Option (Bool)
  | 0, _, _, _, _, _ => none
  | k + 1, a0_1, a0_3, a0_4, a0_5, x78 => (if x78 < (a0_3.length : Int) then (if 0 ≤ x78 then ((impl_isName.f k ((rd_impl_ClaimUse a0_3 x78).f0)).bind fun t1074 => (if t1074 = true then (if x78 > 0 then (if 0 ≤ (wrap64 (x78 - 1)) then (if (wrap64 (x78 - 1)) < (a0_3.length : Int) then (if (Op.bytesLess ((rd_impl_ClaimUse a0_3 (wrap64 (x78 - 1))).f0).toList ((rd_impl_ClaimUse a0_3 x78).f0).toList) = true then (impl_ClaimWantOk.j0 k a0_1 a0_3 a0_4 a0_5 x78) else (some false)) else none) else none) else (impl_ClaimWantOk.j0 k a0_1 a0_3 a0_4 a0_5 x78)) else (some false))) else none) else (impl_ClaimWantOk.l1 k a0_1 a0_3 a0_4 a0_5 0))
end
def impl_ClaimWantOk.f (k : Nat) (a0_0 : Int) (a0_1 : Int) (a0_2 : List ByteArray) (a0_3 : List S_impl_ClaimUse) (a0_4 : List ByteArray) (a0_5 : List ByteArray) : Option (Bool) := (if a0_0 < 1 then (some false) else (if a0_0 > 1000000 then (some false) else (if a0_1 < 1 then (some false) else (if a0_1 > 3 then (some false) else (if (a0_2.length : Int) > 8 then (some false) else ((impl_names.f k a0_2).bind fun t1060 => (if t1060 = true then (if ((decide ((a0_2.length : Int) > 0)) != (decide (a0_1 = 1))) = true then (some false) else (if (a0_3.length : Int) > 8 then (some false) else (if (a0_4.length : Int) > 12 then (some false) else (if (a0_5.length : Int) > 12 then (some false) else ((impl_names.f k a0_4).bind fun t1065 => (if t1065 = true then ((impl_names.f k a0_5).bind fun t1066 => (if t1066 = true then (impl_ClaimWantOk.l0 k a0_1 a0_3 a0_4 a0_5 0) else (some false))) else (some false))))))) else (some false))))))))
def impl_ClaimBook_spot.l0 : Nat → List S_impl_ClaimSpot → ByteArray → Int → Option (Int)
  | 0, _, _, _ => none
  | k + 1, a0_1, a1, x10 => (if x10 < (a0_1.length : Int) then (if 0 ≤ x10 then (if ((rd_impl_ClaimSpot a0_1 x10).f0).toList = a1.toList then (some x10) else (impl_ClaimBook_spot.l0 k a0_1 a1 (wrap64 (x10 + 1)))) else none) else (some (-1)))
def impl_ClaimBook_spot.f (k : Nat) (a0_0 : List S_impl_ClaimFoe) (a0_1 : List S_impl_ClaimSpot) (a0_2 : List ByteArray) (a0_3 : List S_impl_ClaimPart) (a0_4 : Int) (a1 : ByteArray) : Option (Int) := (impl_ClaimBook_spot.l0 k a0_1 a1 0)
def impl_within.l0 : Nat → List ByteArray → List ByteArray → Int → Option (Bool)
  | 0, _, _, _ => none
  | k + 1, l0, l1, x9 => (if x9 < (l0.length : Int) then (if 0 ≤ x9 then ((impl_has.f k l1 (rdOf ByteArray.empty l0 x9)).bind fun t1227 => (if t1227 = true then (impl_within.l0 k l0 l1 (wrap64 (x9 + 1))) else (some false))) else none) else (some true))
def impl_within.f (k : Nat) (l0 : List ByteArray) (l1 : List ByteArray) : Option (Bool) := (impl_within.l0 k l0 l1 0)
def impl_ClaimBook_knows.l0 : Nat → List S_impl_ClaimFoe → List S_impl_ClaimSpot → List ByteArray → List S_impl_ClaimPart → Int → List S_impl_ClaimUse → List ByteArray → List ByteArray → Int → Option (Bool)
  | 0, _, _, _, _, _, _, _, _, _ => none
  | k + 1, a0_0, a0_1, a0_2, a0_3, a0_4, a1_3, a1_4, a1_5, x10 => (if x10 < (a1_3.length : Int) then (if 0 ≤ x10 then ((impl_ClaimBook_spot.f k a0_0 a0_1 a0_2 a0_3 a0_4 ((rd_impl_ClaimUse a1_3 x10).f0)).bind fun t1231 => (if t1231 < 0 then (some false) else (impl_ClaimBook_knows.l0 k a0_0 a0_1 a0_2 a0_3 a0_4 a1_3 a1_4 a1_5 (wrap64 (x10 + 1))))) else none) else ((impl_within.f k a1_4 a0_2).bind fun t1234 => (if t1234 = true then ((impl_within.f k a1_5 a0_2).bind fun t1235 => (some t1235)) else (some false))))
def impl_ClaimBook_knows.f (k : Nat) (a0_0 : List S_impl_ClaimFoe) (a0_1 : List S_impl_ClaimSpot) (a0_2 : List ByteArray) (a0_3 : List S_impl_ClaimPart) (a0_4 : Int) (a1_0 : Int) (a1_1 : Int) (a1_2 : List ByteArray) (a1_3 : List S_impl_ClaimUse) (a1_4 : List ByteArray) (a1_5 : List ByteArray) : Option (Bool) := (impl_ClaimBook_knows.l0 k a0_0 a0_1 a0_2 a0_3 a0_4 a1_3 a1_4 a1_5 0)
mutual
def impl_ClaimBook_settled.j0 : Nat → List S_impl_ClaimFoe → List S_impl_ClaimSpot → List ByteArray → List S_impl_ClaimPart → Int → Int → List ByteArray → List S_impl_ClaimUse → Int → Option (Bool)
  | 0, _, _, _, _, _, _, _, _, _ => none
  | k + 1, a0_0, a0_1, a0_2, a0_3, a0_4, a1_1, a1_2, a1_3, x11 => (impl_ClaimBook_settled.l0 k a0_0 a0_1 a0_2 a0_3 a0_4 a1_1 a1_2 a1_3 (wrap64 (x11 + 1)))
def impl_ClaimBook_settled.l0 : Nat → List S_impl_ClaimFoe → List S_impl_ClaimSpot → List ByteArray → List S_impl_ClaimPart → Int → Int → List ByteArray → List S_impl_ClaimUse → Int → Option (Bool)
  | 0, _, _, _, _, _, _, _, _, _ => none
  | k + 1, a0_0, a0_1, a0_2, a0_3, a0_4, a1_1, a1_2, a1_3, x11 => (if x11 < (a1_3.length : Int) then (if 0 ≤ x11 then ((impl_ClaimBook_spot.f k a0_0 a0_1 a0_2 a0_3 a0_4 ((rd_impl_ClaimUse a1_3 x11).f0)).bind fun t1319 => (if 0 ≤ t1319 then (if t1319 < (a0_1.length : Int) then (if (wrap64 (((rd_impl_ClaimSpot a0_1 t1319).f2) + ((rd_impl_ClaimUse a1_3 x11).f2))) > ((rd_impl_ClaimSpot a0_1 t1319).f3) then (some false) else (if a1_1 = 2 then (if ((rd_impl_ClaimSpot a0_1 t1319).f3) = 0 then (if a1_1 = 1 then (if ((rd_impl_ClaimUse a1_3 x11).f1) = 2 then (if ((rd_impl_ClaimUse a1_3 x11).f1) = 1 then (impl_ClaimBook_settled.j0 k a0_0 a0_1 a0_2 a0_3 a0_4 a1_1 a1_2 a1_3 x11) else ((impl_within.f k a1_2 ((rd_impl_ClaimSpot a0_1 t1319).f4)).bind fun t1320 => (if t1320 = true then (impl_ClaimBook_settled.j0 k a0_0 a0_1 a0_2 a0_3 a0_4 a1_1 a1_2 a1_3 x11) else (some false)))) else ((impl_within.f k ((rd_impl_ClaimSpot a0_1 t1319).f4) a1_2).bind fun t1321 => (if t1321 = true then (if ((rd_impl_ClaimUse a1_3 x11).f1) = 1 then (impl_ClaimBook_settled.j0 k a0_0 a0_1 a0_2 a0_3 a0_4 a1_1 a1_2 a1_3 x11) else ((impl_within.f k a1_2 ((rd_impl_ClaimSpot a0_1 t1319).f4)).bind fun t1322 => (if t1322 = true then (impl_ClaimBook_settled.j0 k a0_0 a0_1 a0_2 a0_3 a0_4 a1_1 a1_2 a1_3 x11) else (some false)))) else (some false)))) else (impl_ClaimBook_settled.j0 k a0_0 a0_1 a0_2 a0_3 a0_4 a1_1 a1_2 a1_3 x11)) else (some false)) else (if a1_1 = 1 then (if ((rd_impl_ClaimUse a1_3 x11).f1) = 2 then (if ((rd_impl_ClaimUse a1_3 x11).f1) = 1 then (impl_ClaimBook_settled.j0 k a0_0 a0_1 a0_2 a0_3 a0_4 a1_1 a1_2 a1_3 x11) else ((impl_within.f k a1_2 ((rd_impl_ClaimSpot a0_1 t1319).f4)).bind fun t1323 => (if t1323 = true then (impl_ClaimBook_settled.j0 k a0_0 a0_1 a0_2 a0_3 a0_4 a1_1 a1_2 a1_3 x11) else (some false)))) else ((impl_within.f k ((rd_impl_ClaimSpot a0_1 t1319).f4) a1_2).bind fun t1324 => (if t1324 = true then (if ((rd_impl_ClaimUse a1_3 x11).f1) = 1 then (impl_ClaimBook_settled.j0 k a0_0 a0_1 a0_2 a0_3 a0_4 a1_1 a1_2 a1_3 x11) else ((impl_within.f k a1_2 ((rd_impl_ClaimSpot a0_1 t1319).f4)).bind fun t1325 => (if t1325 = true then (impl_ClaimBook_settled.j0 k a0_0 a0_1 a0_2 a0_3 a0_4 a1_1 a1_2 a1_3 x11) else (some false)))) else (some false)))) else (impl_ClaimBook_settled.j0 k a0_0 a0_1 a0_2 a0_3 a0_4 a1_1 a1_2 a1_3 x11)))) else none) else none)) else none) else (some true))
end
def impl_ClaimBook_settled.f (k : Nat) (a0_0 : List S_impl_ClaimFoe) (a0_1 : List S_impl_ClaimSpot) (a0_2 : List ByteArray) (a0_3 : List S_impl_ClaimPart) (a0_4 : Int) (a1_0 : Int) (a1_1 : Int) (a1_2 : List ByteArray) (a1_3 : List S_impl_ClaimUse) (a1_4 : List ByteArray) (a1_5 : List ByteArray) : Option (Bool) := (impl_ClaimBook_settled.l0 k a0_0 a0_1 a0_2 a0_3 a0_4 a1_1 a1_2 a1_3 0)
mutual
def impl_shareUse.l1 : Nat → List S_impl_ClaimUse → List S_impl_ClaimUse → Int → Int → Option (Bool)
  | 0, _, _, _, _ => none
  | k + 1, a0_3, a1_3, x12, x19 => (if x19 < (a1_3.length : Int) then (if 0 ≤ x19 then (if ((rd_impl_ClaimUse a0_3 x12).f0).toList = ((rd_impl_ClaimUse a1_3 x19).f0).toList then (some true) else (impl_shareUse.l1 k a0_3 a1_3 x12 (wrap64 (x19 + 1)))) else none) else (impl_shareUse.l0 k a0_3 a1_3 (wrap64 (x12 + 1))))
def impl_shareUse.l0 : Nat → List S_impl_ClaimUse → List S_impl_ClaimUse → Int → Option (Bool)
  | 0, _, _, _ => none
  | k + 1, a0_3, a1_3, x12 => (if x12 < (a0_3.length : Int) then (if 0 ≤ x12 then (impl_shareUse.l1 k a0_3 a1_3 x12 0) else none) else (some false))
end
def impl_shareUse.f (k : Nat) (a0_0 : Int) (a0_1 : Int) (a0_2 : List ByteArray) (a0_3 : List S_impl_ClaimUse) (a0_4 : List ByteArray) (a0_5 : List ByteArray) (a1_0 : Int) (a1_1 : Int) (a1_2 : List ByteArray) (a1_3 : List S_impl_ClaimUse) (a1_4 : List ByteArray) (a1_5 : List ByteArray) : Option (Bool) := (impl_shareUse.l0 k a0_3 a1_3 0)
def impl_crosses_1.l0 : Nat → List ByteArray → List ByteArray → List ByteArray → Int → Option (Bool)
  | 0, _, _, _, _ => none
  | k + 1, a0_4, a1_4, a1_5, x10 => (if x10 < (a0_4.length : Int) then (if 0 ≤ x10 then ((impl_has.f k a1_4 (rdOf ByteArray.empty a0_4 x10)).bind fun t1512 => (if t1512 = true then (some true) else ((impl_has.f k a1_5 (rdOf ByteArray.empty a0_4 x10)).bind fun t1513 => (if t1513 = true then (some true) else (impl_crosses_1.l0 k a0_4 a1_4 a1_5 (wrap64 (x10 + 1))))))) else none) else (some false))
def impl_crosses_1.f (k : Nat) (a0_0 : Int) (a0_1 : Int) (a0_2 : List ByteArray) (a0_3 : List S_impl_ClaimUse) (a0_4 : List ByteArray) (a0_5 : List ByteArray) (a1_0 : Int) (a1_1 : Int) (a1_2 : List ByteArray) (a1_3 : List S_impl_ClaimUse) (a1_4 : List ByteArray) (a1_5 : List ByteArray) : Option (Bool) := (impl_crosses_1.l0 k a0_4 a1_4 a1_5 0)
def impl_crosses.f (k : Nat) (a0_0 : Int) (a0_1 : Int) (a0_2 : List ByteArray) (a0_3 : List S_impl_ClaimUse) (a0_4 : List ByteArray) (a0_5 : List ByteArray) (a1_0 : Int) (a1_1 : Int) (a1_2 : List ByteArray) (a1_3 : List S_impl_ClaimUse) (a1_4 : List ByteArray) (a1_5 : List ByteArray) : Option (Bool) := ((impl_crosses_1.f k a0_0 a0_1 a0_2 a0_3 a0_4 a0_5 a1_0 a1_1 a1_2 a1_3 a1_4 a1_5).bind fun t1516 => (if t1516 = true then (some true) else ((impl_crosses_1.f k a1_0 a1_1 a1_2 a1_3 a1_4 a1_5 a0_0 a0_1 a0_2 a0_3 a0_4 a0_5).bind fun t1517 => (some t1517))))
mutual
def impl_ClaimBookOk.l2 : Nat → List S_impl_ClaimFoe → List S_impl_ClaimSpot → List ByteArray → List S_impl_ClaimPart → Int → Int → Int → Option (Bool)
  | 0, _, _, _, _, _, _, _ => none
  | k + 1, a0_0, a0_1, a0_2, a0_3, a0_4, x128, x179 => (if x179 < ((x128).toNat : Int) then (if 0 ≤ x179 then ((impl_shareUse.f k (((rd_impl_ClaimPart (a0_3.take (x128).toNat) x179).f0).f0) (((rd_impl_ClaimPart (a0_3.take (x128).toNat) x179).f0).f1) (((rd_impl_ClaimPart (a0_3.take (x128).toNat) x179).f0).f2) (((rd_impl_ClaimPart (a0_3.take (x128).toNat) x179).f0).f3) (((rd_impl_ClaimPart (a0_3.take (x128).toNat) x179).f0).f4) (((rd_impl_ClaimPart (a0_3.take (x128).toNat) x179).f0).f5) (((rd_impl_ClaimPart a0_3 x128).f0).f0) (((rd_impl_ClaimPart a0_3 x128).f0).f1) (((rd_impl_ClaimPart a0_3 x128).f0).f2) (((rd_impl_ClaimPart a0_3 x128).f0).f3) (((rd_impl_ClaimPart a0_3 x128).f0).f4) (((rd_impl_ClaimPart a0_3 x128).f0).f5)).bind fun t1597 => (if t1597 = true then (some false) else ((impl_crosses.f k (((rd_impl_ClaimPart (a0_3.take (x128).toNat) x179).f0).f0) (((rd_impl_ClaimPart (a0_3.take (x128).toNat) x179).f0).f1) (((rd_impl_ClaimPart (a0_3.take (x128).toNat) x179).f0).f2) (((rd_impl_ClaimPart (a0_3.take (x128).toNat) x179).f0).f3) (((rd_impl_ClaimPart (a0_3.take (x128).toNat) x179).f0).f4) (((rd_impl_ClaimPart (a0_3.take (x128).toNat) x179).f0).f5) (((rd_impl_ClaimPart a0_3 x128).f0).f0) (((rd_impl_ClaimPart a0_3 x128).f0).f1) (((rd_impl_ClaimPart a0_3 x128).f0).f2) (((rd_impl_ClaimPart a0_3 x128).f0).f3) (((rd_impl_ClaimPart a0_3 x128).f0).f4) (((rd_impl_ClaimPart a0_3 x128).f0).f5)).bind fun t1598 => (if t1598 = true then (some false) else (impl_ClaimBookOk.l2 k a0_0 a0_1 a0_2 a0_3 a0_4 x128 (wrap64 (x179 + 1))))))) else none) else (impl_ClaimBookOk.l1 k a0_0 a0_1 a0_2 a0_3 a0_4 (wrap64 (x128 + 1))))
def impl_ClaimBookOk.l3 : Nat → List S_impl_ClaimFoe → List S_impl_ClaimSpot → List ByteArray → List S_impl_ClaimPart → Int → Int → Int → Option (Bool)
  | 0, _, _, _, _, _, _, _ => none
  | k + 1, a0_0, a0_1, a0_2, a0_3, a0_4, x128, x179_1 => (if x179_1 < ((x128).toNat : Int) then (if 0 ≤ x179_1 then ((impl_shareUse.f k (((rd_impl_ClaimPart (a0_3.take (x128).toNat) x179_1).f0).f0) (((rd_impl_ClaimPart (a0_3.take (x128).toNat) x179_1).f0).f1) (((rd_impl_ClaimPart (a0_3.take (x128).toNat) x179_1).f0).f2) (((rd_impl_ClaimPart (a0_3.take (x128).toNat) x179_1).f0).f3) (((rd_impl_ClaimPart (a0_3.take (x128).toNat) x179_1).f0).f4) (((rd_impl_ClaimPart (a0_3.take (x128).toNat) x179_1).f0).f5) (((rd_impl_ClaimPart a0_3 x128).f0).f0) (((rd_impl_ClaimPart a0_3 x128).f0).f1) (((rd_impl_ClaimPart a0_3 x128).f0).f2) (((rd_impl_ClaimPart a0_3 x128).f0).f3) (((rd_impl_ClaimPart a0_3 x128).f0).f4) (((rd_impl_ClaimPart a0_3 x128).f0).f5)).bind fun t1602 => (if t1602 = true then (some false) else ((impl_crosses.f k (((rd_impl_ClaimPart (a0_3.take (x128).toNat) x179_1).f0).f0) (((rd_impl_ClaimPart (a0_3.take (x128).toNat) x179_1).f0).f1) (((rd_impl_ClaimPart (a0_3.take (x128).toNat) x179_1).f0).f2) (((rd_impl_ClaimPart (a0_3.take (x128).toNat) x179_1).f0).f3) (((rd_impl_ClaimPart (a0_3.take (x128).toNat) x179_1).f0).f4) (((rd_impl_ClaimPart (a0_3.take (x128).toNat) x179_1).f0).f5) (((rd_impl_ClaimPart a0_3 x128).f0).f0) (((rd_impl_ClaimPart a0_3 x128).f0).f1) (((rd_impl_ClaimPart a0_3 x128).f0).f2) (((rd_impl_ClaimPart a0_3 x128).f0).f3) (((rd_impl_ClaimPart a0_3 x128).f0).f4) (((rd_impl_ClaimPart a0_3 x128).f0).f5)).bind fun t1603 => (if t1603 = true then (some false) else (impl_ClaimBookOk.l3 k a0_0 a0_1 a0_2 a0_3 a0_4 x128 (wrap64 (x179_1 + 1))))))) else none) else (impl_ClaimBookOk.l1 k a0_0 a0_1 a0_2 a0_3 a0_4 (wrap64 (x128 + 1))))
def impl_ClaimBookOk.l1 : Nat → List S_impl_ClaimFoe → List S_impl_ClaimSpot → List ByteArray → List S_impl_ClaimPart → Int → Int → Option (Bool)
  | 0, _, _, _, _, _, _ => none
  | k + 1, a0_0, a0_1, a0_2, a0_3, a0_4, x128 => (if x128 < (a0_3.length : Int) then (if 0 ≤ x128 then (if x128 > 0 then (if 0 ≤ (wrap64 (x128 - 1)) then (if (wrap64 (x128 - 1)) < (a0_3.length : Int) then (if (((rd_impl_ClaimPart a0_3 (wrap64 (x128 - 1))).f0).f0) ≥ (((rd_impl_ClaimPart a0_3 x128).f0).f0) then (some false) else (if (((rd_impl_ClaimPart a0_3 x128).f0).f0) > a0_4 then (some false) else ((impl_ClaimWantOk.f k (((rd_impl_ClaimPart a0_3 x128).f0).f0) (((rd_impl_ClaimPart a0_3 x128).f0).f1) (((rd_impl_ClaimPart a0_3 x128).f0).f2) (((rd_impl_ClaimPart a0_3 x128).f0).f3) (((rd_impl_ClaimPart a0_3 x128).f0).f4) (((rd_impl_ClaimPart a0_3 x128).f0).f5)).bind fun t1594 => (if t1594 = true then ((impl_ClaimBook_knows.f k a0_0 a0_1 a0_2 a0_3 a0_4 (((rd_impl_ClaimPart a0_3 x128).f0).f0) (((rd_impl_ClaimPart a0_3 x128).f0).f1) (((rd_impl_ClaimPart a0_3 x128).f0).f2) (((rd_impl_ClaimPart a0_3 x128).f0).f3) (((rd_impl_ClaimPart a0_3 x128).f0).f4) (((rd_impl_ClaimPart a0_3 x128).f0).f5)).bind fun t1595 => (if t1595 = true then ((impl_ClaimBook_settled.f k a0_0 a0_1 a0_2 a0_3 a0_4 (((rd_impl_ClaimPart a0_3 x128).f0).f0) (((rd_impl_ClaimPart a0_3 x128).f0).f1) (((rd_impl_ClaimPart a0_3 x128).f0).f2) (((rd_impl_ClaimPart a0_3 x128).f0).f3) (((rd_impl_ClaimPart a0_3 x128).f0).f4) (((rd_impl_ClaimPart a0_3 x128).f0).f5)).bind fun t1596 => (if t1596 = true then (if x128 ≤ (a0_3.length : Int) then (impl_ClaimBookOk.l2 k a0_0 a0_1 a0_2 a0_3 a0_4 x128 0) else none) else (some false))) else (some false))) else (some false))))) else none) else none) else (if (((rd_impl_ClaimPart a0_3 x128).f0).f0) > a0_4 then (some false) else ((impl_ClaimWantOk.f k (((rd_impl_ClaimPart a0_3 x128).f0).f0) (((rd_impl_ClaimPart a0_3 x128).f0).f1) (((rd_impl_ClaimPart a0_3 x128).f0).f2) (((rd_impl_ClaimPart a0_3 x128).f0).f3) (((rd_impl_ClaimPart a0_3 x128).f0).f4) (((rd_impl_ClaimPart a0_3 x128).f0).f5)).bind fun t1599 => (if t1599 = true then ((impl_ClaimBook_knows.f k a0_0 a0_1 a0_2 a0_3 a0_4 (((rd_impl_ClaimPart a0_3 x128).f0).f0) (((rd_impl_ClaimPart a0_3 x128).f0).f1) (((rd_impl_ClaimPart a0_3 x128).f0).f2) (((rd_impl_ClaimPart a0_3 x128).f0).f3) (((rd_impl_ClaimPart a0_3 x128).f0).f4) (((rd_impl_ClaimPart a0_3 x128).f0).f5)).bind fun t1600 => (if t1600 = true then ((impl_ClaimBook_settled.f k a0_0 a0_1 a0_2 a0_3 a0_4 (((rd_impl_ClaimPart a0_3 x128).f0).f0) (((rd_impl_ClaimPart a0_3 x128).f0).f1) (((rd_impl_ClaimPart a0_3 x128).f0).f2) (((rd_impl_ClaimPart a0_3 x128).f0).f3) (((rd_impl_ClaimPart a0_3 x128).f0).f4) (((rd_impl_ClaimPart a0_3 x128).f0).f5)).bind fun t1601 => (if t1601 = true then (if x128 ≤ (a0_3.length : Int) then (impl_ClaimBookOk.l3 k a0_0 a0_1 a0_2 a0_3 a0_4 x128 0) else none) else (some false))) else (some false))) else (some false))))) else none) else (some true))
end
def impl_ClaimBookOk.l0 : Nat → List S_impl_ClaimFoe → List S_impl_ClaimSpot → List ByteArray → List S_impl_ClaimPart → Int → Int → Option (Bool)
  | 0, _, _, _, _, _, _ => none
  | k + 1, a0_0, a0_1, a0_2, a0_3, a0_4, x51 => (if x51 < (a0_1.length : Int) then (if 0 ≤ x51 then ((impl_isName.f k ((rd_impl_ClaimSpot a0_1 x51).f0)).bind fun t1549 => (if t1549 = true then (if x51 > 0 then (if 0 ≤ (wrap64 (x51 - 1)) then (if (wrap64 (x51 - 1)) < (a0_1.length : Int) then (if (Op.bytesLess ((rd_impl_ClaimSpot a0_1 (wrap64 (x51 - 1))).f0).toList ((rd_impl_ClaimSpot a0_1 x51).f0).toList) = true then (if ((rd_impl_ClaimSpot a0_1 x51).f1) < 0 then (some false) else (if ((rd_impl_ClaimSpot a0_1 x51).f1) > 1000 then (some false) else (if ((rd_impl_ClaimSpot a0_1 x51).f2) < 0 then (some false) else (if ((rd_impl_ClaimSpot a0_1 x51).f2) > ((rd_impl_ClaimSpot a0_1 x51).f3) then (some false) else (if ((rd_impl_ClaimSpot a0_1 x51).f3) > ((rd_impl_ClaimSpot a0_1 x51).f1) then (some false) else (if (((rd_impl_ClaimSpot a0_1 x51).f4).length : Int) > 8 then (some false) else ((impl_names.f k ((rd_impl_ClaimSpot a0_1 x51).f4)).bind fun t1550 => (if t1550 = true then ((impl_ClaimBook_pairs.f k a0_0 a0_1 a0_2 a0_3 a0_4).bind fun t1551 => ((impl_anyFoes.f k t1551 ((rd_impl_ClaimSpot a0_1 x51).f4) ((rd_impl_ClaimSpot a0_1 x51).f4)).bind fun t1552 => (if t1552 = true then (some false) else (impl_ClaimBookOk.l0 k a0_0 a0_1 a0_2 a0_3 a0_4 (wrap64 (x51 + 1)))))) else (some false))))))))) else (some false)) else none) else none) else (if ((rd_impl_ClaimSpot a0_1 x51).f1) < 0 then (some false) else (if ((rd_impl_ClaimSpot a0_1 x51).f1) > 1000 then (some false) else (if ((rd_impl_ClaimSpot a0_1 x51).f2) < 0 then (some false) else (if ((rd_impl_ClaimSpot a0_1 x51).f2) > ((rd_impl_ClaimSpot a0_1 x51).f3) then (some false) else (if ((rd_impl_ClaimSpot a0_1 x51).f3) > ((rd_impl_ClaimSpot a0_1 x51).f1) then (some false) else (if (((rd_impl_ClaimSpot a0_1 x51).f4).length : Int) > 8 then (some false) else ((impl_names.f k ((rd_impl_ClaimSpot a0_1 x51).f4)).bind fun t1553 => (if t1553 = true then ((impl_ClaimBook_pairs.f k a0_0 a0_1 a0_2 a0_3 a0_4).bind fun t1554 => ((impl_anyFoes.f k t1554 ((rd_impl_ClaimSpot a0_1 x51).f4) ((rd_impl_ClaimSpot a0_1 x51).f4)).bind fun t1555 => (if t1555 = true then (some false) else (impl_ClaimBookOk.l0 k a0_0 a0_1 a0_2 a0_3 a0_4 (wrap64 (x51 + 1)))))) else (some false)))))))))) else (some false))) else none) else (impl_ClaimBookOk.l1 k a0_0 a0_1 a0_2 a0_3 a0_4 0))
def impl_ClaimBookOk.f (k : Nat) (a0_0 : List S_impl_ClaimFoe) (a0_1 : List S_impl_ClaimSpot) (a0_2 : List ByteArray) (a0_3 : List S_impl_ClaimPart) (a0_4 : Int) : Option (Bool) := ((impl_ClaimBook_pairs.f k a0_0 a0_1 a0_2 a0_3 a0_4).bind fun t1524 => ((impl_foesOk.f k t1524 12).bind fun t1525 => (if t1525 = true then (if (a0_1.length : Int) > 8 then (some false) else (if (a0_2.length : Int) > 12 then (some false) else ((impl_names.f k a0_2).bind fun t1526 => (if t1526 = true then (if a0_4 < 0 then (some false) else (if a0_4 > 1000000 then (some false) else (if (a0_3.length : Int) > 6 then (some false) else (impl_ClaimBookOk.l0 k a0_0 a0_1 a0_2 a0_3 a0_4 0)))) else (some false))))) else (some false))))
def impl_ClaimShut.l0 : Nat → List S_impl_ClaimPart → ByteArray → List Int → Int → Option (List Int)
  | 0, _, _, _, _ => none
  | k + 1, a0_3, a1, x5, x14 => (if x14 < (a0_3.length : Int) then (if 0 ≤ x14 then ((impl_has.f k (((rd_impl_ClaimPart a0_3 x14).f0).f5) a1).bind fun t1612 => (if t1612 = true then (if (x5.length + 1) * 8 ≤ 140737488355328 then (impl_ClaimShut.l0 k a0_3 a1 (x5 ++ ([((rd_impl_ClaimPart a0_3 x14).f0).f0] : List Int)) (wrap64 (x14 + 1))) else none) else (impl_ClaimShut.l0 k a0_3 a1 x5 (wrap64 (x14 + 1))))) else none) else (some x5))
def impl_ClaimShut.f (k : Nat) (a0_0 : List S_impl_ClaimFoe) (a0_1 : List S_impl_ClaimSpot) (a0_2 : List ByteArray) (a0_3 : List S_impl_ClaimPart) (a0_4 : Int) (a1 : ByteArray) : Option (List Int) := ((impl_ClaimBookOk.f k a0_0 a0_1 a0_2 a0_3 a0_4).bind fun t1606 => (if t1606 = true then (impl_ClaimShut.l0 k a0_3 a1 [] 0) else (some [])))
def laws_eqIntS.l0 : Nat → List Int → List Int → Int → Option (Bool)
  | 0, _, _, _ => none
  | k + 1, l0, l1, x5 => (if x5 < (l0.length : Int) then (if 0 ≤ x5 then (if x5 < (l1.length : Int) then (if (rd l0 x5) = (rd l1 x5) then (laws_eqIntS.l0 k l0 l1 (wrap64 (x5 + 1))) else (some false)) else none) else none) else (some true))
def laws_eqIntS.f (k : Nat) (l0 : List Int) (l1 : List Int) : Option (Bool) := (if (l0.length : Int) = (l1.length : Int) then (laws_eqIntS.l0 k l0 l1 0) else (some false))
def laws_eqClaimFoe.f (a0_0 : ByteArray) (a0_1 : ByteArray) (a1_0 : ByteArray) (a1_1 : ByteArray) : Option (Bool) := (if a0_0.toList = a1_0.toList then (if a0_1.toList = a1_1.toList then (some true) else (some false)) else (some false))
def laws_eqClaimFoeS.l0 : Nat → List S_impl_ClaimFoe → List S_impl_ClaimFoe → Int → Option (Bool)
  | 0, _, _, _ => none
  | k + 1, l0, l1, x5 => (if x5 < (l0.length : Int) then (if 0 ≤ x5 then (if x5 < (l1.length : Int) then ((laws_eqClaimFoe.f ((rd_impl_ClaimFoe l0 x5).f0) ((rd_impl_ClaimFoe l0 x5).f1) ((rd_impl_ClaimFoe l1 x5).f0) ((rd_impl_ClaimFoe l1 x5).f1)).bind fun t1668 => (if t1668 = true then (laws_eqClaimFoeS.l0 k l0 l1 (wrap64 (x5 + 1))) else (some false))) else none) else none) else (some true))
def laws_eqClaimFoeS.f (k : Nat) (l0 : List S_impl_ClaimFoe) (l1 : List S_impl_ClaimFoe) : Option (Bool) := (if (l0.length : Int) = (l1.length : Int) then (laws_eqClaimFoeS.l0 k l0 l1 0) else (some false))
def laws_eqStringS.l0 : Nat → List ByteArray → List ByteArray → Int → Option (Bool)
  | 0, _, _, _ => none
  | k + 1, l0, l1, x5 => (if x5 < (l0.length : Int) then (if 0 ≤ x5 then (if x5 < (l1.length : Int) then (if (rdOf ByteArray.empty l0 x5).toList = (rdOf ByteArray.empty l1 x5).toList then (laws_eqStringS.l0 k l0 l1 (wrap64 (x5 + 1))) else (some false)) else none) else none) else (some true))
def laws_eqStringS.f (k : Nat) (l0 : List ByteArray) (l1 : List ByteArray) : Option (Bool) := (if (l0.length : Int) = (l1.length : Int) then (laws_eqStringS.l0 k l0 l1 0) else (some false))
def laws_eqClaimSpot.f (k : Nat) (a0_0 : ByteArray) (a0_1 : Int) (a0_2 : Int) (a0_3 : Int) (a0_4 : List ByteArray) (a1_0 : ByteArray) (a1_1 : Int) (a1_2 : Int) (a1_3 : Int) (a1_4 : List ByteArray) : Option (Bool) := (if a0_0.toList = a1_0.toList then (if a0_1 = a1_1 then (if a0_2 = a1_2 then (if a0_3 = a1_3 then ((laws_eqStringS.f k a0_4 a1_4).bind fun t1722 => (if t1722 = true then (some true) else (some false))) else (some false)) else (some false)) else (some false)) else (some false))
def laws_eqClaimSpotS.l0 : Nat → List S_impl_ClaimSpot → List S_impl_ClaimSpot → Int → Option (Bool)
  | 0, _, _, _ => none
  | k + 1, l0, l1, x5 => (if x5 < (l0.length : Int) then (if 0 ≤ x5 then (if x5 < (l1.length : Int) then ((laws_eqClaimSpot.f k ((rd_impl_ClaimSpot l0 x5).f0) ((rd_impl_ClaimSpot l0 x5).f1) ((rd_impl_ClaimSpot l0 x5).f2) ((rd_impl_ClaimSpot l0 x5).f3) ((rd_impl_ClaimSpot l0 x5).f4) ((rd_impl_ClaimSpot l1 x5).f0) ((rd_impl_ClaimSpot l1 x5).f1) ((rd_impl_ClaimSpot l1 x5).f2) ((rd_impl_ClaimSpot l1 x5).f3) ((rd_impl_ClaimSpot l1 x5).f4)).bind fun t1726 => (if t1726 = true then (laws_eqClaimSpotS.l0 k l0 l1 (wrap64 (x5 + 1))) else (some false))) else none) else none) else (some true))
def laws_eqClaimSpotS.f (k : Nat) (l0 : List S_impl_ClaimSpot) (l1 : List S_impl_ClaimSpot) : Option (Bool) := (if (l0.length : Int) = (l1.length : Int) then (laws_eqClaimSpotS.l0 k l0 l1 0) else (some false))
def laws_eqClaimUse.f (a0_0 : ByteArray) (a0_1 : Int) (a0_2 : Int) (a1_0 : ByteArray) (a1_1 : Int) (a1_2 : Int) : Option (Bool) := (if a0_0.toList = a1_0.toList then (if a0_1 = a1_1 then (if a0_2 = a1_2 then (some true) else (some false)) else (some false)) else (some false))
def laws_eqClaimUseS.l0 : Nat → List S_impl_ClaimUse → List S_impl_ClaimUse → Int → Option (Bool)
  | 0, _, _, _ => none
  | k + 1, l0, l1, x5 => (if x5 < (l0.length : Int) then (if 0 ≤ x5 then (if x5 < (l1.length : Int) then ((laws_eqClaimUse.f ((rd_impl_ClaimUse l0 x5).f0) ((rd_impl_ClaimUse l0 x5).f1) ((rd_impl_ClaimUse l0 x5).f2) ((rd_impl_ClaimUse l1 x5).f0) ((rd_impl_ClaimUse l1 x5).f1) ((rd_impl_ClaimUse l1 x5).f2)).bind fun t1851 => (if t1851 = true then (laws_eqClaimUseS.l0 k l0 l1 (wrap64 (x5 + 1))) else (some false))) else none) else none) else (some true))
def laws_eqClaimUseS.f (k : Nat) (l0 : List S_impl_ClaimUse) (l1 : List S_impl_ClaimUse) : Option (Bool) := (if (l0.length : Int) = (l1.length : Int) then (laws_eqClaimUseS.l0 k l0 l1 0) else (some false))
def laws_eqClaimWant.f (k : Nat) (a0_0 : Int) (a0_1 : Int) (a0_2 : List ByteArray) (a0_3 : List S_impl_ClaimUse) (a0_4 : List ByteArray) (a0_5 : List ByteArray) (a1_0 : Int) (a1_1 : Int) (a1_2 : List ByteArray) (a1_3 : List S_impl_ClaimUse) (a1_4 : List ByteArray) (a1_5 : List ByteArray) : Option (Bool) := (if a0_0 = a1_0 then (if a0_1 = a1_1 then ((laws_eqStringS.f k a0_2 a1_2).bind fun t1854 => (if t1854 = true then ((laws_eqClaimUseS.f k a0_3 a1_3).bind fun t1857 => (if t1857 = true then ((laws_eqStringS.f k a0_4 a1_4).bind fun t1860 => (if t1860 = true then ((laws_eqStringS.f k a0_5 a1_5).bind fun t1863 => (if t1863 = true then (some true) else (some false))) else (some false))) else (some false))) else (some false))) else (some false)) else (some false))
def laws_eqClaimPart.f (k : Nat) (a0_0 : Int) (a0_1 : Int) (a0_2 : List ByteArray) (a0_3 : List S_impl_ClaimUse) (a0_4 : List ByteArray) (a0_5 : List ByteArray) (a0_6 : Bool) (a1_0 : Int) (a1_1 : Int) (a1_2 : List ByteArray) (a1_3 : List S_impl_ClaimUse) (a1_4 : List ByteArray) (a1_5 : List ByteArray) (a1_6 : Bool) : Option (Bool) := ((laws_eqClaimWant.f k a0_0 a0_1 a0_2 a0_3 a0_4 a0_5 a1_0 a1_1 a1_2 a1_3 a1_4 a1_5).bind fun t1866 => (if t1866 = true then (if (a0_6 != a1_6) = true then (some false) else (some true)) else (some false)))
def laws_eqClaimPartS.l0 : Nat → List S_impl_ClaimPart → List S_impl_ClaimPart → Int → Option (Bool)
  | 0, _, _, _ => none
  | k + 1, l0, l1, x5 => (if x5 < (l0.length : Int) then (if 0 ≤ x5 then (if x5 < (l1.length : Int) then ((laws_eqClaimPart.f k (((rd_impl_ClaimPart l0 x5).f0).f0) (((rd_impl_ClaimPart l0 x5).f0).f1) (((rd_impl_ClaimPart l0 x5).f0).f2) (((rd_impl_ClaimPart l0 x5).f0).f3) (((rd_impl_ClaimPart l0 x5).f0).f4) (((rd_impl_ClaimPart l0 x5).f0).f5) ((rd_impl_ClaimPart l0 x5).f1) (((rd_impl_ClaimPart l1 x5).f0).f0) (((rd_impl_ClaimPart l1 x5).f0).f1) (((rd_impl_ClaimPart l1 x5).f0).f2) (((rd_impl_ClaimPart l1 x5).f0).f3) (((rd_impl_ClaimPart l1 x5).f0).f4) (((rd_impl_ClaimPart l1 x5).f0).f5) ((rd_impl_ClaimPart l1 x5).f1)).bind fun t1870 => (if t1870 = true then (laws_eqClaimPartS.l0 k l0 l1 (wrap64 (x5 + 1))) else (some false))) else none) else none) else (some true))
def laws_eqClaimPartS.f (k : Nat) (l0 : List S_impl_ClaimPart) (l1 : List S_impl_ClaimPart) : Option (Bool) := (if (l0.length : Int) = (l1.length : Int) then (laws_eqClaimPartS.l0 k l0 l1 0) else (some false))
def laws_eqClaimBook.f (k : Nat) (a0_0 : List S_impl_ClaimFoe) (a0_1 : List S_impl_ClaimSpot) (a0_2 : List ByteArray) (a0_3 : List S_impl_ClaimPart) (a0_4 : Int) (a1_0 : List S_impl_ClaimFoe) (a1_1 : List S_impl_ClaimSpot) (a1_2 : List ByteArray) (a1_3 : List S_impl_ClaimPart) (a1_4 : Int) : Option (Bool) := ((laws_eqClaimFoeS.f k a0_0 a1_0).bind fun t1873 => (if t1873 = true then ((laws_eqClaimSpotS.f k a0_1 a1_1).bind fun t1876 => (if t1876 = true then ((laws_eqStringS.f k a0_2 a1_2).bind fun t1879 => (if t1879 = true then ((laws_eqClaimPartS.f k a0_3 a1_3).bind fun t1882 => (if t1882 = true then (if a0_4 = a1_4 then (some true) else (some false)) else (some false))) else (some false))) else (some false))) else (some false)))
def laws_markText.l0 : Nat → Int → ByteArray → Option (ByteArray)
  | 0, _, _ => none
  | k + 1, x0, x3 => (if x0 > 0 then (if (((⟨#[UInt8.ofNat (IntKind.wrap .u8 (wrap64 (48 + (Int.tmod x0 10)))).toNat]⟩ : ByteArray).size + x3.size : Nat) : Int) ≤ 9223372036854775807 then (laws_markText.l0 k (wrap64 (Int.tdiv x0 10)) ((⟨#[UInt8.ofNat (IntKind.wrap .u8 (wrap64 (48 + (Int.tmod x0 10)))).toNat]⟩ : ByteArray) ++ x3)) else none) else (if (((⟨#[109]⟩ : ByteArray).size + x3.size : Nat) : Int) ≤ 9223372036854775807 then (some ((⟨#[109]⟩ : ByteArray) ++ x3)) else none))
def laws_markText.f (k : Nat) (a0 : Int) : Option (ByteArray) := (if a0 ≤ 0 then (some (⟨#[109, 48]⟩ : ByteArray)) else (laws_markText.l0 k a0 (⟨#[]⟩ : ByteArray)))
def laws_markClaimFoeS.l0 : Nat → List S_impl_ClaimFoe → Int → Int → List S_impl_ClaimFoe → Option (Int × (List S_impl_ClaimFoe))
  | 0, _, _, _, _ => none
  | k + 1, l0, x1, x5, x1000 => (if x1000.length = l0.length then (if x5 < (l0.length : Int) then ((laws_markText.f k x1).bind fun t1970 => (if 0 ≤ x5 then ((laws_markText.f k (wrap64 (x1 + 1))).bind fun t1971 => (laws_markClaimFoeS.l0 k l0 (wrap64 ((wrap64 (x1 + 1)) + 1)) (wrap64 (x5 + 1)) (x1000.set (x5).toNat (⟨t1970, t1971⟩ : S_impl_ClaimFoe)))) else none)) else (some (x1, x1000))) else none)
def laws_markClaimFoeS.f (k : Nat) (l0 : List S_impl_ClaimFoe) (a1 : Int) : Option (Int × (List S_impl_ClaimFoe)) := (laws_markClaimFoeS.l0 k l0 a1 0 l0)
def laws_markStringS.l0 : Nat → List ByteArray → Int → Int → List ByteArray → Option (Int × (List ByteArray))
  | 0, _, _, _, _ => none
  | k + 1, l0, x1, x5, x1000 => (if x1000.length = l0.length then (if x5 < (l0.length : Int) then ((laws_markText.f k x1).bind fun t2086 => (if 0 ≤ x5 then (laws_markStringS.l0 k l0 (wrap64 (x1 + 1)) (wrap64 (x5 + 1)) (x1000.set (x5).toNat t2086)) else none)) else (some (x1, x1000))) else none)
def laws_markStringS.f (k : Nat) (l0 : List ByteArray) (a1 : Int) : Option (Int × (List ByteArray)) := (laws_markStringS.l0 k l0 a1 0 l0)
def laws_markClaimSpotS.l0 : Nat → List S_impl_ClaimSpot → Int → Int → List S_impl_ClaimSpot → Option (Int × (List S_impl_ClaimSpot))
  | 0, _, _, _, _ => none
  | k + 1, l0, x1, x5, x1000 => (if x1000.length = l0.length then (if x5 < (l0.length : Int) then ((laws_markText.f k x1).bind fun t2096 => (if 0 ≤ x5 then ((laws_markStringS.f k ((rd_impl_ClaimSpot x1000 x5).f4) (wrap64 ((wrap64 ((wrap64 ((wrap64 (x1 + 1)) + 1)) + 1)) + 1))).bind fun t2097 => (laws_markClaimSpotS.l0 k l0 t2097.1 (wrap64 (x5 + 1)) (x1000.set (x5).toNat (⟨t2096, wrap64 (x1 + 1), wrap64 ((wrap64 (x1 + 1)) + 1), wrap64 ((wrap64 ((wrap64 (x1 + 1)) + 1)) + 1), t2097.2⟩ : S_impl_ClaimSpot)))) else none)) else (some (x1, x1000))) else none)
def laws_markClaimSpotS.f (k : Nat) (l0 : List S_impl_ClaimSpot) (a1 : Int) : Option (Int × (List S_impl_ClaimSpot)) := (laws_markClaimSpotS.l0 k l0 a1 0 l0)
def laws_markClaimUseS.l0 : Nat → List S_impl_ClaimUse → Int → Int → List S_impl_ClaimUse → Option (Int × (List S_impl_ClaimUse))
  | 0, _, _, _, _ => none
  | k + 1, l0, x1, x5, x1000 => (if x1000.length = l0.length then (if x5 < (l0.length : Int) then ((laws_markText.f k x1).bind fun t2252 => (if 0 ≤ x5 then (laws_markClaimUseS.l0 k l0 (wrap64 ((wrap64 ((wrap64 (x1 + 1)) + 1)) + 1)) (wrap64 (x5 + 1)) (x1000.set (x5).toNat (⟨t2252, wrap64 (x1 + 1), wrap64 ((wrap64 (x1 + 1)) + 1)⟩ : S_impl_ClaimUse))) else none)) else (some (x1, x1000))) else none)
def laws_markClaimUseS.f (k : Nat) (l0 : List S_impl_ClaimUse) (a1 : Int) : Option (Int × (List S_impl_ClaimUse)) := (laws_markClaimUseS.l0 k l0 a1 0 l0)
def laws_markClaimPartS.l0 : Nat → List S_impl_ClaimPart → Int → Int → List S_impl_ClaimPart → Option (Int × (List S_impl_ClaimPart))
  | 0, _, _, _, _ => none
  | k + 1, l0, x1, x5, x1000 => (if x1000.length = l0.length then (if x5 < (l0.length : Int) then (if 0 ≤ x5 then ((laws_markStringS.f k (((rd_impl_ClaimPart x1000 x5).f0).f2) (wrap64 ((wrap64 (x1 + 1)) + 1))).bind fun t2273 => ((laws_markClaimUseS.f k (((rd_impl_ClaimPart x1000 x5).f0).f3) t2273.1).bind fun t2274 => ((laws_markStringS.f k (((rd_impl_ClaimPart x1000 x5).f0).f4) t2274.1).bind fun t2275 => ((laws_markStringS.f k (((rd_impl_ClaimPart x1000 x5).f0).f5) t2275.1).bind fun t2276 => (laws_markClaimPartS.l0 k l0 (wrap64 (t2276.1 + 1)) (wrap64 (x5 + 1)) (x1000.set (x5).toNat (⟨(⟨x1, wrap64 (x1 + 1), t2273.2, t2274.2, t2275.2, t2276.2⟩ : S_impl_ClaimWant), decide ((Int.tmod t2276.1 3) = 0)⟩ : S_impl_ClaimPart))))))) else none) else (some (x1, x1000))) else none)
def laws_markClaimPartS.f (k : Nat) (l0 : List S_impl_ClaimPart) (a1 : Int) : Option (Int × (List S_impl_ClaimPart)) := (laws_markClaimPartS.l0 k l0 a1 0 l0)
def laws_markClaimBook.f (k : Nat) (a0_0 : List S_impl_ClaimFoe) (a0_1 : List S_impl_ClaimSpot) (a0_2 : List ByteArray) (a0_3 : List S_impl_ClaimPart) (a0_4 : Int) (a1 : Int) : Option (Int × (List S_impl_ClaimFoe) × (List S_impl_ClaimSpot) × (List ByteArray) × (List S_impl_ClaimPart)) := ((laws_markClaimFoeS.f k a0_0 a1).bind fun t2303 => ((laws_markClaimSpotS.f k a0_1 t2303.1).bind fun t2305 => ((laws_markStringS.f k a0_2 t2305.1).bind fun t2307 => ((laws_markClaimPartS.f k a0_3 t2307.1).bind fun t2309 => (some (t2309.1, t2303.2, t2305.2, t2307.2, t2309.2))))))
def laws_markIntS.l0 : Nat → List Int → Int → Int → List Int → Option (Int × (List Int))
  | 0, _, _, _, _ => none
  | k + 1, l0, x1, x5, x1000 => (if x1000.length = l0.length then (if x5 < (l0.length : Int) then (if 0 ≤ x5 then (laws_markIntS.l0 k l0 (wrap64 (x1 + 1)) (wrap64 (x5 + 1)) (x1000.set (x5).toNat x1)) else none) else (some (x1, x1000))) else none)
def laws_markIntS.f (k : Nat) (l0 : List Int) (a1 : Int) : Option (Int × (List Int)) := (laws_markIntS.l0 k l0 a1 0 l0)
def laws_heldIntS.l0 : Nat → List Int → Int → Int → Option (Int)
  | 0, _, _, _ => none
  | k + 1, l0, x1, x5 => (if x5 < (l0.length : Int) then (if 0 ≤ x5 then (if (rd l0 x5) = x1 then (laws_heldIntS.l0 k l0 (wrap64 (x1 + 1)) (wrap64 (x5 + 1))) else (some (-1))) else none) else (some x1))
def laws_heldIntS.f (k : Nat) (l0 : List Int) (a1 : Int) : Option (Int) := (laws_heldIntS.l0 k l0 a1 0)
def laws_FnExactClaimShut.f (k : Nat) (a0_0 : List S_laws_ClaimFoe) (a0_1 : List S_laws_ClaimSpot) (a0_2 : List ByteArray) (a0_3 : List S_laws_ClaimPart) (a0_4 : Int) (a1 : ByteArray) : Option (Bool) := (if (a1.size : Int) > 1048576 then (some true) else ((laws_szClaimBook.f k a0_0 a0_1 a0_2 a0_3 a0_4 1048576).bind fun t2854 => (if t2854 < 0 then (some true) else ((laws_toClaimBook.f k a0_0 a0_1 a0_2 a0_3 a0_4).bind fun t2857 => ((spec_ClaimShut.f k t2857.1 t2857.2.1 t2857.2.2.1 t2857.2.2.2.1 t2857.2.2.2.2 a1).bind fun t2858 => ((laws_toClaimBook.f k a0_0 a0_1 a0_2 a0_3 a0_4).bind fun t2860 => ((impl_ClaimShut.f k t2860.1 t2860.2.1 t2860.2.2.1 t2860.2.2.2.1 t2860.2.2.2.2 a1).bind fun t2862 => ((laws_eqIntS.f k t2862 t2858).bind fun t2865 => (if t2865 = true then ((laws_toClaimBook.f k a0_0 a0_1 a0_2 a0_3 a0_4).bind fun t2870 => ((laws_eqClaimBook.f k t2860.1 t2860.2.1 t2860.2.2.1 t2860.2.2.2.1 t2860.2.2.2.2 t2870.1 t2870.2.1 t2870.2.2.1 t2870.2.2.2.1 t2870.2.2.2.2).bind fun t2871 => (if t2871 = true then ((laws_markClaimBook.f k t2860.1 t2860.2.1 t2860.2.2.1 t2860.2.2.2.1 t2860.2.2.2.2 1).bind fun t2873 => (if t2873.1 < 0 then (some false) else ((laws_eqIntS.f k t2862 t2858).bind fun t2876 => (if t2876 = true then ((laws_markIntS.f k t2862 1).bind fun t2878 => ((laws_heldIntS.f k t2878.2 1).bind fun t2880 => (if t2880 < 0 then (some false) else (if t2880 = t2878.1 then ((laws_toClaimBook.f k a0_0 a0_1 a0_2 a0_3 a0_4).bind fun t2883 => ((impl_ClaimShut.f k t2883.1 t2883.2.1 t2883.2.2.1 t2883.2.2.2.1 t2883.2.2.2.2 a1).bind fun t2884 => ((laws_eqIntS.f k t2884 t2858).bind fun t2887 => (if t2887 = true then ((laws_heldIntS.f k t2878.2 1).bind fun t2889 => (if t2889 < 0 then (some false) else (if t2889 = t2878.1 then (some true) else (some false)))) else (some false))))) else (some false))))) else (some false))))) else (some false)))) else (some false))))))))))
end Go.Proofs.Ytamkmmkchdnkmaa.CH
namespace Go.Proofs.Ytamkmmkchdnkmaa.Pure
open Go Go.RowKit Go.Aw Go.Proofs.Ytamkmmkchdnkmaa.CH
set_option linter.unusedVariables false
set_option linter.unusedSimpArgs false
/-! ### general words -/
theorem ev_pos {α : Type} {c : Prop} {d : Decidable c} {g f : Nat → Option α} {r : α} (h : c) (k : Ev g r) : Ev (fun n => @ite _ c d (g n) (f n)) r := Ev.congr (fun _ => if_pos h) k
theorem ev_neg {α : Type} {c : Prop} {d : Decidable c} {g f : Nat → Option α} {r : α} (h : ¬ c) (k : Ev f r) : Ev (fun n => @ite _ c d (g n) (f n)) r := Ev.congr (fun _ => if_neg h) k
theorem ev_ret {α : Type} {a r : α} (h : a = r) : Ev (fun _ => some a) r := h ▸ Ev.now a
theorem ev_let {α β : Type} {g : Option α} {a : α} {r : β} {f : Nat → α → Option β} (h : g = some a) (k : Ev (fun n => f n a) r) : Ev (fun n => g.bind (f n)) r := by
  subst h; exact k
theorem ev_eq {α : Type} {g : Nat → Option α} {a r : α} (k : Ev g a) (h : a = r) : Ev g r := h ▸ k
theorem ev_split {α : Type} {c : Prop} {d : Decidable c} {g f : Nat → Option α} {r : α} (h : c → Ev g r) (k : ¬ c → Ev f r) : Ev (fun n => @ite _ c d (g n) (f n)) r := by
  by_cases q : c
  · exact ev_pos q (h q)
  · exact ev_neg q (k q)
/-- a value that is called on -/
theorem ev_of {α β : Type} {g : Nat → Option α} {a : α} {r : β} {f : Nat → α → Option β} (h : Ev g a) (k : Ev (fun n => f n a) r) : Ev (fun n => (g n).bind (f n)) r := Ev.bind h k
theorem ex_ret {α : Type} {a : α} : ∃ q, Ev (fun _ => some a) q := ⟨a, Ev.now a⟩
theorem ex_ite {α : Type} {c : Prop} {d : Decidable c} {g f : Nat → Option α} (h : ∃ q, Ev g q) (k : ∃ q, Ev f q) : ∃ q, Ev (fun n => @ite _ c d (g n) (f n)) q := by
  by_cases q : c
  · exact h.imp fun _ e => ev_pos q e
  · exact k.imp fun _ e => ev_neg q e
theorem ex_pos {α : Type} {c : Prop} {d : Decidable c} {g f : Nat → Option α} (h : c) (k : ∃ q, Ev g q) : ∃ q, Ev (fun n => @ite _ c d (g n) (f n)) q := k.imp fun _ e => ev_pos h e
theorem ex_bind {α β : Type} {g : Nat → Option α} {f : Nat → α → Option β} (h : ∃ a, Ev g a) (k : ∀ a, ∃ q, Ev (fun n => f n a) q) : ∃ q, Ev (fun n => (g n).bind (f n)) q := by
  obtain ⟨a, h⟩ := h
  exact (k a).imp fun _ e => Ev.bind h e
theorem ex_step {α : Type} {g f : Nat → Option α} (h : ∀ k, g (k + 1) = f k) (k : ∃ q, Ev f q) : ∃ q, Ev g q := k.imp fun _ e => Ev.step h e
theorem w64 {x : Int} (h0 : -9223372036854775808 ≤ x) (h1 : x ≤ 9223372036854775807) : wrap64 x = x := by unfold wrap64; omega
theorem wsucc {i n : Nat} (h : i < n) (hn : n ≤ 9223372036854775807) : wrap64 ((i : Int) + 1) = ((i + 1 : Nat) : Int) := by unfold wrap64; omega
theorem wplus {a : Int} (h0 : 0 ≤ a) (h1 : a ≤ 4611686018427387904) : wrap64 (a + 1) = a + 1 := by unfold wrap64; omega
theorem pre64 {i : Nat} (h : ¬ i = 0) (hi : i ≤ 9223372036854775807) : wrap64 ((i : Int) - 1) = ((i - 1 : Nat) : Int) := by unfold wrap64; omega
theorem getD_eq {α : Type} (d : α) (xs : List α) (i : Nat) (h : i < xs.length) : xs.getD i d = xs[i] := by
  rw [List.getD_eq_getElem?_getD, List.getElem?_eq_getElem h]; rfl
theorem mem_getD {α : Type} (d : α) (xs : List α) (i : Nat) (h : i < xs.length) : xs.getD i d ∈ xs := by
  rw [getD_eq d xs i h]; exact List.getElem_mem h
theorem getD_set {α : Type} (d : α) (xs : List α) (i j : Nat) (v : α) (h : i < xs.length) : (xs.set i v).getD j d = if j = i then v else xs.getD j d := by
  rw [List.getD_eq_getElem?_getD, List.getD_eq_getElem?_getD, List.getElem?_set]
  by_cases e : i = j
  · subst e; simp [h]
  · rw [if_neg e, if_neg (fun q => e q.symm)]
theorem fill_end {α : Type} (d : α) (z y : List α) (hl : y.length = z.length) (h : ∀ j, j < z.length → y.getD j d = z.getD j d) : y = z := by
  apply List.ext_getElem hl
  intro j h1 h2
  have e := h j h2
  rwa [getD_eq d y j h1, getD_eq d z j h2] at e
theorem fill_step {α : Type} (d : α) (z y : List α) (i : Nat) (hl : y.length = z.length) (hi : i < z.length) (h : ∀ j, j < i → y.getD j d = z.getD j d) (v : α) (hv : v = z.getD i d) :
    (y.set i v).length = z.length ∧ ∀ j, j < i + 1 → (y.set i v).getD j d = z.getD j d := by
  refine ⟨by simpa using hl, fun j hj => ?_⟩
  rw [getD_set d y i j v (by omega)]
  by_cases e : j = i
  · rw [if_pos e, e, hv]
  · rw [if_neg e]; exact h j (by omega)
theorem rdOf_nat {α : Type} (d : α) (xs : List α) (i : Nat) : rdOf d xs (i : Int) = xs.getD i d := by simp [rdOf]
theorem rd_nat (xs : List Int) (i : Nat) : rd xs (i : Int) = xs.getD i 0 := by simp [rd]
theorem map_getD {α β : Type} (e : β) (d : α) (f : α → β) (l : List α) (i : Nat) (h : i < l.length) : (l.map f).getD i e = f (l.getD i d) := by
  rw [getD_eq e _ i (by simpa using h), getD_eq d l i h, List.getElem_map]
/-- a list told from its end: what is left from place i on -/
theorem loopL {α : Type} (d : α) (l : List α) {P : Nat → List α → Prop} (h0 : P l.length []) (hs : ∀ i x r, i < l.length → l.getD i d = x → x ∈ l → l.drop (i + 1) = r → P (i + 1) r → P i (x :: r)) : P 0 l := by
  have key : ∀ (n i : Nat), i + n = l.length → P i (l.drop i) := fun n => by
    induction n with
    | zero =>
      intro i hi
      have e : i = l.length := by omega
      subst e; rw [List.drop_length]; exact h0
    | succ n ih =>
      intro i hi
      have hlt : i < l.length := by omega
      have e : l.drop i = l.getD i d :: l.drop (i + 1) := by rw [List.drop_eq_getElem_cons hlt, getD_eq d l i hlt]
      rw [e]
      exact hs i _ _ hlt rfl (mem_getD d l i hlt) rfl (ih (i + 1) (by omega))
  simpa using key l.length 0 (by omega)
/-- the element ahead of place i -/
def ahead {α : Type} (d : α) (l : List α) (i : Nat) : Option α := if i = 0 then none else some (l.getD (i - 1) d)
theorem ahead_zero {α : Type} (d : α) (l : List α) : ahead d l 0 = none := rfl
theorem ahead_succ {α : Type} (d : α) (l : List α) (i : Nat) : ahead d l (i + 1) = some (l.getD i d) := by simp [ahead]
theorem ahead_pos {α : Type} (d : α) (l : List α) (i : Nat) (h : ¬ i = 0) : ahead d l i = some (l.getD (i - 1) d) := if_neg h
/-! ### the order of bytes -/
theorem bl_irr : ∀ x : List UInt8, Op.bytesLess x x = false
  | [] => rfl
  | a :: x => by simp [Op.bytesLess, bl_irr x]
theorem bl_asym : ∀ x y : List UInt8, Op.bytesLess x y = true → Op.bytesLess y x = false
  | [], [], _ => rfl
  | [], _ :: _, _ => rfl
  | _ :: _, [], h => by simp [Op.bytesLess] at h
  | a :: x, b :: y, h => by
    simp only [Op.bytesLess, Bool.or_eq_true, Bool.and_eq_true, decide_eq_true_eq, beq_iff_eq] at h
    simp only [Op.bytesLess, Bool.or_eq_false_iff, Bool.and_eq_false_iff, decide_eq_false_iff_not, beq_eq_false_iff_ne]
    rcases h with h | ⟨rfl, h⟩
    · exact ⟨UInt8.lt_asymm h, .inl (fun e => by subst e; exact UInt8.lt_irrefl _ h)⟩
    · exact ⟨UInt8.lt_irrefl _, .inr (bl_asym x y h)⟩
theorem bl_tri : ∀ x y : List UInt8, Op.bytesLess x y = true ∨ x = y ∨ Op.bytesLess y x = true
  | [], [] => .inr (.inl rfl)
  | [], _ :: _ => .inl rfl
  | _ :: _, [] => .inr (.inr rfl)
  | a :: x, b :: y => by
    simp only [Op.bytesLess, Bool.or_eq_true, Bool.and_eq_true, decide_eq_true_eq, beq_iff_eq, List.cons.injEq]
    rcases UInt8.lt_or_lt_of_ne (a := a) (b := b) |> fun f => (Classical.em (a = b)).imp id f with rfl | h | h
    · rcases bl_tri x y with q | rfl | q
      · exact .inl (.inr ⟨rfl, q⟩)
      · exact .inr (.inl ⟨rfl, rfl⟩)
      · exact .inr (.inr (.inr ⟨rfl, q⟩))
    · exact .inl (.inl h)
    · exact .inr (.inr (.inl h))
theorem bl_trans : ∀ x y z : List UInt8, Op.bytesLess x y = true → Op.bytesLess y z = true → Op.bytesLess x z = true
  | [], _, _ :: _, _, _ => rfl
  | [], [], [], h, _ => h
  | [], _ :: _, [], _, h => by simp [Op.bytesLess] at h
  | _ :: _, [], _, h, _ => by simp [Op.bytesLess] at h
  | _ :: _, _ :: _, [], _, h => by simp [Op.bytesLess] at h
  | a :: x, b :: y, c :: z, h, k => by
    simp only [Op.bytesLess, Bool.or_eq_true, Bool.and_eq_true, decide_eq_true_eq, beq_iff_eq] at h k ⊢
    rcases h with h | ⟨rfl, h⟩
    · rcases k with k | ⟨rfl, k⟩
      · exact .inl (UInt8.lt_trans h k)
      · exact .inl h
    · rcases k with k | ⟨rfl, k⟩
      · exact .inl k
      · exact .inr ⟨rfl, bl_trans x y z h k⟩
theorem ba_ext {a b : ByteArray} (h : a.toList = b.toList) : a = b := by
  apply ByteArray.ext
  apply Array.ext'
  simpa [ByteArray.toList_eq] using h
theorem ba_iff {a b : ByteArray} : a.toList = b.toList ↔ a = b := ⟨ba_ext, fun h => h ▸ rfl⟩
/-- a text ahead of another -/
def lt (a b : ByteArray) : Bool := Op.bytesLess a.toList b.toList
theorem lt_irr (a : ByteArray) : lt a a = false := bl_irr _
theorem lt_asym {a b : ByteArray} (h : lt a b = true) : lt b a = false := bl_asym _ _ h
theorem lt_trans {a b c : ByteArray} (h : lt a b = true) (k : lt b c = true) : lt a c = true := bl_trans _ _ _ h k
theorem lt_tri (a b : ByteArray) : lt a b = true ∨ a = b ∨ lt b a = true := (bl_tri a.toList b.toList).imp id (·.imp ba_ext id)
theorem lt_ne {a b : ByteArray} (h : lt a b = true) : a ≠ b := fun e => by rw [e, lt_irr] at h; cases h
/-- pair by pair: the first, then the second -/
def befB (a0 a1 b0 b1 : ByteArray) : Bool := lt a0 b0 || (decide (a0 = b0) && lt a1 b1)
/-! ### marks: a text a number -/
theorem one_size (x : Int) : ((⟨#[UInt8.ofNat x.toNat]⟩ : ByteArray)).size = 1 := rfl
theorem markLoop_ev : ∀ (n : Nat) (x : Int) (s : ByteArray), 0 ≤ x → x.toNat ≤ n → x ≤ 4611686018427387904 → s.size + x.toNat ≤ 4611686018427387904 → ∃ r, Ev (fun k => laws_markText.l0 k x s) r
  | 0, x, s, h0, hn, hx, hs => ⟨(⟨#[109]⟩ : ByteArray) ++ s, by
      refine Ev.step (fun k => by rw [laws_markText.l0]) ?_
      exact ev_neg (by omega) (ev_pos (by show ((1 + s.size : Nat) : Int) ≤ _; omega) (ev_ret rfl))⟩
  | n + 1, x, s, h0, hn, hx, hs => by
    by_cases c : x > 0
    · have hd : Int.tdiv x 10 = x / 10 := Int.tdiv_eq_ediv_of_nonneg (by omega)
      have hw : wrap64 (Int.tdiv x 10) = x / 10 := by rw [hd]; unfold wrap64; omega
      obtain ⟨r, hr⟩ := markLoop_ev n (x / 10) ((⟨#[UInt8.ofNat (IntKind.wrap .u8 (wrap64 (48 + (Int.tmod x 10)))).toNat]⟩ : ByteArray) ++ s) (by omega) (by omega) (by omega) (by rw [ByteArray.size_append, one_size]; omega)
      refine ⟨r, ?_⟩
      refine Ev.step (fun k => by rw [laws_markText.l0]) ?_
      refine ev_pos c ?_
      rw [hw]
      exact ev_pos (by rw [one_size]; omega) hr
    · refine ⟨(⟨#[109]⟩ : ByteArray) ++ s, ?_⟩
      refine Ev.step (fun k => by rw [laws_markText.l0]) ?_
      exact ev_neg c (ev_pos (by show ((1 + s.size : Nat) : Int) ≤ _; omega) (ev_ret rfl))
theorem markText_ex (x : Int) (h : x ≤ 1152921504606846976) : ∃ r, Ev (fun k => laws_markText.f k x) r := by
  unfold laws_markText.f
  by_cases c : x ≤ 0
  · exact ⟨_, ev_pos c (ev_ret rfl)⟩
  · obtain ⟨r, hr⟩ := markLoop_ev x.toNat x (⟨#[]⟩ : ByteArray) (by omega) (Nat.le_refl _) (by omega) (by show 0 + x.toNat ≤ _; omega)
    exact ⟨r, ev_neg c hr⟩
open Classical in
noncomputable def mtx (x : Int) : ByteArray := if h : x ≤ 1152921504606846976 then (markText_ex x h).choose else ByteArray.empty
theorem markText_ev (x : Int) (h : x ≤ 1152921504606846976) : Ev (fun k => laws_markText.f k x) (mtx x) := by
  unfold mtx
  rw [dif_pos h]
  exact (markText_ex x h).choose_spec
theorem range_map_getD {α : Type} (d : α) (n : Nat) (f : Nat → α) (i : Nat) (h : i < n) : ((List.range n).map f).getD i d = f i := by
  rw [List.getD_eq_getElem?_getD, List.getElem?_map, List.getElem?_range h]; rfl
/-! ### the laws' own words -/
theorem szClaimFoe_ev (x : S_laws_ClaimFoe) (h : ok_laws_ClaimFoe x) (a : Int) : ∃ q, Ev (fun k => laws_szClaimFoe.f x.f0 x.f1 a) q := by
  have h0 := h.1
  have h1 := h.2
  unfold laws_szClaimFoe.f
  repeat' (first | exact ex_ret | refine ex_ite ?_ ?_ | refine ex_bind ?_ (fun t => ?_))
theorem szClaimFoeS_ev (l : List S_laws_ClaimFoe) (hl : l.length ≤ 140737488351232) (h : ∀ z ∈ l, ok_laws_ClaimFoe z) (a : Int) : ∃ q, Ev (fun k => laws_szClaimFoeS.f k l a) q := by
  have key : ∀ b, ∃ q, Ev (fun k => laws_szClaimFoeS.l0 k l b 0) q := loopL z_laws_ClaimFoe l (P := fun i _ => ∀ b, ∃ q, Ev (fun k => laws_szClaimFoeS.l0 k l b (i : Int)) q)
    (fun b => ex_step (fun k => by rw [laws_szClaimFoeS.l0]) ⟨_, ev_neg (by omega) (ev_ret rfl)⟩)
    (fun i x r hi hx hm _ ih b => ex_step (fun k => by rw [laws_szClaimFoeS.l0]) (ex_pos (by omega) (ex_pos (by omega) (by
      rw [wsucc hi (by omega)]
      refine ex_bind (by rw [show rd_laws_ClaimFoe l (i : Int) = x from by unfold rd_laws_ClaimFoe; simpa using hx]; exact szClaimFoe_ev x (h x hm) b) (fun t => ex_ite ex_ret (ih _))))))
  unfold laws_szClaimFoeS.f
  exact ex_ite ex_ret (key _)
theorem szStringS_ev (l : List ByteArray) (hl : l.length ≤ 140737488351232) (h : ∀ z ∈ l, z.size ≤ 140737488351232) (a : Int) : ∃ q, Ev (fun k => laws_szStringS.f k l a) q := by
  have key : ∀ b, ∃ q, Ev (fun k => laws_szStringS.l0 k l b 0) q := loopL ByteArray.empty l (P := fun i _ => ∀ b, ∃ q, Ev (fun k => laws_szStringS.l0 k l b (i : Int)) q)
    (fun b => ex_step (fun k => by rw [laws_szStringS.l0]) ⟨_, ev_neg (by omega) (ev_ret rfl)⟩)
    (fun i x r hi hx hm _ ih b => ex_step (fun k => by rw [laws_szStringS.l0]) (ex_pos (by omega) (ex_pos (by omega) (by
      rw [wsucc hi (by omega)]
      exact ex_ite ex_ret (ih _)))))
  unfold laws_szStringS.f
  exact ex_ite ex_ret (key _)
theorem szClaimSpot_ev (x : S_laws_ClaimSpot) (h : ok_laws_ClaimSpot x) (a : Int) : ∃ q, Ev (fun k => laws_szClaimSpot.f k x.f0 x.f1 x.f2 x.f3 x.f4 a) q := by
  have h0 := h.1
  have h1 := h.2.1
  have h2 := h.2.2.1
  have h3 := h.2.2.2.1
  have h4 := h.2.2.2.2
  unfold laws_szClaimSpot.f
  repeat' (first | exact ex_ret | with_reducible exact szStringS_ev _ (by have := h4.1; omega) (h4.2) _ | refine ex_ite ?_ ?_ | refine ex_bind ?_ (fun t => ?_))
theorem szClaimSpotS_ev (l : List S_laws_ClaimSpot) (hl : l.length ≤ 140737488351232) (h : ∀ z ∈ l, ok_laws_ClaimSpot z) (a : Int) : ∃ q, Ev (fun k => laws_szClaimSpotS.f k l a) q := by
  have key : ∀ b, ∃ q, Ev (fun k => laws_szClaimSpotS.l0 k l b 0) q := loopL z_laws_ClaimSpot l (P := fun i _ => ∀ b, ∃ q, Ev (fun k => laws_szClaimSpotS.l0 k l b (i : Int)) q)
    (fun b => ex_step (fun k => by rw [laws_szClaimSpotS.l0]) ⟨_, ev_neg (by omega) (ev_ret rfl)⟩)
    (fun i x r hi hx hm _ ih b => ex_step (fun k => by rw [laws_szClaimSpotS.l0]) (ex_pos (by omega) (ex_pos (by omega) (by
      rw [wsucc hi (by omega)]
      refine ex_bind (by rw [show rd_laws_ClaimSpot l (i : Int) = x from by unfold rd_laws_ClaimSpot; simpa using hx]; exact szClaimSpot_ev x (h x hm) b) (fun t => ex_ite ex_ret (ih _))))))
  unfold laws_szClaimSpotS.f
  exact ex_ite ex_ret (key _)
theorem szClaimUse_ev (x : S_laws_ClaimUse) (h : ok_laws_ClaimUse x) (a : Int) : ∃ q, Ev (fun k => laws_szClaimUse.f x.f0 x.f1 x.f2 a) q := by
  have h0 := h.1
  have h1 := h.2.1
  have h2 := h.2.2
  unfold laws_szClaimUse.f
  repeat' (first | exact ex_ret | refine ex_ite ?_ ?_ | refine ex_bind ?_ (fun t => ?_))
theorem szClaimUseS_ev (l : List S_laws_ClaimUse) (hl : l.length ≤ 140737488351232) (h : ∀ z ∈ l, ok_laws_ClaimUse z) (a : Int) : ∃ q, Ev (fun k => laws_szClaimUseS.f k l a) q := by
  have key : ∀ b, ∃ q, Ev (fun k => laws_szClaimUseS.l0 k l b 0) q := loopL z_laws_ClaimUse l (P := fun i _ => ∀ b, ∃ q, Ev (fun k => laws_szClaimUseS.l0 k l b (i : Int)) q)
    (fun b => ex_step (fun k => by rw [laws_szClaimUseS.l0]) ⟨_, ev_neg (by omega) (ev_ret rfl)⟩)
    (fun i x r hi hx hm _ ih b => ex_step (fun k => by rw [laws_szClaimUseS.l0]) (ex_pos (by omega) (ex_pos (by omega) (by
      rw [wsucc hi (by omega)]
      refine ex_bind (by rw [show rd_laws_ClaimUse l (i : Int) = x from by unfold rd_laws_ClaimUse; simpa using hx]; exact szClaimUse_ev x (h x hm) b) (fun t => ex_ite ex_ret (ih _))))))
  unfold laws_szClaimUseS.f
  exact ex_ite ex_ret (key _)
theorem szClaimWant_ev (x : S_laws_ClaimWant) (h : ok_laws_ClaimWant x) (a : Int) : ∃ q, Ev (fun k => laws_szClaimWant.f k x.f0 x.f1 x.f2 x.f3 x.f4 x.f5 a) q := by
  have h0 := h.1
  have h1 := h.2.1
  have h2 := h.2.2.1
  have h3 := h.2.2.2.1
  have h4 := h.2.2.2.2.1
  have h5 := h.2.2.2.2.2
  unfold laws_szClaimWant.f
  repeat' (first | exact ex_ret | with_reducible exact szStringS_ev _ (by have := h2.1; omega) (h2.2) _ | with_reducible exact szClaimUseS_ev _ (by have := h3.1; omega) (h3.2) _ | with_reducible exact szStringS_ev _ (by have := h4.1; omega) (h4.2) _ | with_reducible exact szStringS_ev _ (by have := h5.1; omega) (h5.2) _ | refine ex_ite ?_ ?_ | refine ex_bind ?_ (fun t => ?_))
theorem szClaimPart_ev (x : S_laws_ClaimPart) (h : ok_laws_ClaimPart x) (a : Int) : ∃ q, Ev (fun k => laws_szClaimPart.f k x.f0.f0 x.f0.f1 x.f0.f2 x.f0.f3 x.f0.f4 x.f0.f5 x.f1 a) q := by
  have h0 := h.1
  have h1 := h.2
  unfold laws_szClaimPart.f
  repeat' (first | exact ex_ret | with_reducible exact szClaimWant_ev _ (h0) _ | refine ex_ite ?_ ?_ | refine ex_bind ?_ (fun t => ?_))
theorem szClaimPartS_ev (l : List S_laws_ClaimPart) (hl : l.length ≤ 140737488351232) (h : ∀ z ∈ l, ok_laws_ClaimPart z) (a : Int) : ∃ q, Ev (fun k => laws_szClaimPartS.f k l a) q := by
  have key : ∀ b, ∃ q, Ev (fun k => laws_szClaimPartS.l0 k l b 0) q := loopL z_laws_ClaimPart l (P := fun i _ => ∀ b, ∃ q, Ev (fun k => laws_szClaimPartS.l0 k l b (i : Int)) q)
    (fun b => ex_step (fun k => by rw [laws_szClaimPartS.l0]) ⟨_, ev_neg (by omega) (ev_ret rfl)⟩)
    (fun i x r hi hx hm _ ih b => ex_step (fun k => by rw [laws_szClaimPartS.l0]) (ex_pos (by omega) (ex_pos (by omega) (by
      rw [wsucc hi (by omega)]
      refine ex_bind (by rw [show rd_laws_ClaimPart l (i : Int) = x from by unfold rd_laws_ClaimPart; simpa using hx]; exact szClaimPart_ev x (h x hm) b) (fun t => ex_ite ex_ret (ih _))))))
  unfold laws_szClaimPartS.f
  exact ex_ite ex_ret (key _)
theorem szClaimBook_ev (x : S_laws_ClaimBook) (h : ok_laws_ClaimBook x) (a : Int) : ∃ q, Ev (fun k => laws_szClaimBook.f k x.f0 x.f1 x.f2 x.f3 x.f4 a) q := by
  have h0 := h.1
  have h1 := h.2.1
  have h2 := h.2.2.1
  have h3 := h.2.2.2.1
  have h4 := h.2.2.2.2
  unfold laws_szClaimBook.f
  repeat' (first | exact ex_ret | with_reducible exact szClaimFoeS_ev _ (by have := h0.1; omega) (h0.2) _ | with_reducible exact szClaimSpotS_ev _ (by have := h1.1; omega) (h1.2) _ | with_reducible exact szStringS_ev _ (by have := h2.1; omega) (h2.2) _ | with_reducible exact szClaimPartS_ev _ (by have := h3.1; omega) (h3.2) _ | refine ex_ite ?_ ?_ | refine ex_bind ?_ (fun t => ?_))
def cv_laws_ClaimFoe (x : S_laws_ClaimFoe) : S_impl_ClaimFoe := ⟨x.f0, x.f1⟩
theorem toClaimFoe_ev (x : S_laws_ClaimFoe) (h : ok_laws_ClaimFoe x) : Ev (fun k => laws_toClaimFoe.f x.f0 x.f1) ((cv_laws_ClaimFoe x).f0, (cv_laws_ClaimFoe x).f1) := by
  have h0 := h.1
  have h1 := h.2
  unfold laws_toClaimFoe.f
  repeat' (first | exact ev_ret rfl)
theorem toClaimFoeS_ev (l : List S_laws_ClaimFoe) (hl : l.length ≤ 4398046511104) (h : ∀ z ∈ l, ok_laws_ClaimFoe z) : Ev (fun k => laws_toClaimFoeS.f k l) (l.map cv_laws_ClaimFoe) := by
  unfold laws_toClaimFoeS.f
  refine ev_pos (by omega) ?_
  refine loopL z_laws_ClaimFoe l (P := fun i _ => ∀ y : List S_impl_ClaimFoe, y.length = l.length → (∀ j, j < i → y.getD j z_impl_ClaimFoe = (l.map cv_laws_ClaimFoe).getD j z_impl_ClaimFoe) → Ev (fun k => laws_toClaimFoeS.l0 k l y (i : Int)) (l.map cv_laws_ClaimFoe))
    (fun y hyl hy => by
      obtain rfl := fill_end z_impl_ClaimFoe (l.map cv_laws_ClaimFoe) y (by simpa using hyl) (fun j hj => hy j (by simpa using hj))
      refine Ev.step (fun k => by rw [laws_toClaimFoeS.l0]) (ev_neg (by omega) (ev_ret rfl)))
    (fun i x r hi hx hm _ ih y hyl hy => by
      refine Ev.step (fun k => by rw [laws_toClaimFoeS.l0]) (ev_pos (by omega) (ev_pos (by omega) ?_))
      rw [wsucc hi (by omega), Int.toNat_natCast, show rd_laws_ClaimFoe l (i : Int) = x from by unfold rd_laws_ClaimFoe; simpa using hx]
      refine Ev.bind (toClaimFoe_ev x (h x hm)) (ev_pos (by omega) ?_)
      obtain ⟨h1, h2⟩ := fill_step z_impl_ClaimFoe (l.map cv_laws_ClaimFoe) y i (by simpa using hyl) (by simpa using hi) hy (cv_laws_ClaimFoe x) (by rw [map_getD z_impl_ClaimFoe z_laws_ClaimFoe _ l i hi, hx])
      exact ih _ (by rw [h1]; simp) h2) _ (by simp) (fun j hj => absurd hj (Nat.not_lt_zero _))
theorem toStringS_ev (l : List ByteArray) (hl : l.length ≤ 8796093022208) : Ev (fun k => laws_toStringS.f k l) l := by
  unfold laws_toStringS.f
  refine ev_pos (by omega) ?_
  refine loopL ByteArray.empty l (P := fun i _ => ∀ y : List ByteArray, y.length = l.length → (∀ j, j < i → y.getD j ByteArray.empty = l.getD j ByteArray.empty) → Ev (fun k => laws_toStringS.l0 k l y (i : Int)) l)
    (fun y hyl hy => by
      obtain rfl := fill_end ByteArray.empty l y hyl (fun j hj => hy j hj)
      refine Ev.step (fun k => by rw [laws_toStringS.l0]) (ev_neg (by omega) (ev_ret rfl)))
    (fun i x r hi hx hm _ ih y hyl hy => by
      refine Ev.step (fun k => by rw [laws_toStringS.l0]) (ev_pos (by omega) (ev_pos (by omega) (ev_pos (by omega) ?_)))
      rw [wsucc hi (by omega), Int.toNat_natCast, rdOf_nat]
      obtain ⟨h1, h2⟩ := fill_step ByteArray.empty l y i hyl hi hy (l.getD i ByteArray.empty) rfl
      exact ih _ h1 h2) _ (by simp) (fun j hj => absurd hj (Nat.not_lt_zero _))
def cv_laws_ClaimSpot (x : S_laws_ClaimSpot) : S_impl_ClaimSpot := ⟨x.f0, x.f1, x.f2, x.f3, x.f4⟩
theorem toClaimSpot_ev (x : S_laws_ClaimSpot) (h : ok_laws_ClaimSpot x) : Ev (fun k => laws_toClaimSpot.f k x.f0 x.f1 x.f2 x.f3 x.f4) ((cv_laws_ClaimSpot x).f0, (cv_laws_ClaimSpot x).f1, (cv_laws_ClaimSpot x).f2, (cv_laws_ClaimSpot x).f3, (cv_laws_ClaimSpot x).f4) := by
  have h0 := h.1
  have h1 := h.2.1
  have h2 := h.2.2.1
  have h3 := h.2.2.2.1
  have h4 := h.2.2.2.2
  unfold laws_toClaimSpot.f
  repeat' (first | with_reducible refine Ev.bind (toStringS_ev _ (by have := h4.1; omega)) ?_ | exact ev_ret rfl)
theorem toClaimSpotS_ev (l : List S_laws_ClaimSpot) (hl : l.length ≤ 2199023255552) (h : ∀ z ∈ l, ok_laws_ClaimSpot z) : Ev (fun k => laws_toClaimSpotS.f k l) (l.map cv_laws_ClaimSpot) := by
  unfold laws_toClaimSpotS.f
  refine ev_pos (by omega) ?_
  refine loopL z_laws_ClaimSpot l (P := fun i _ => ∀ y : List S_impl_ClaimSpot, y.length = l.length → (∀ j, j < i → y.getD j z_impl_ClaimSpot = (l.map cv_laws_ClaimSpot).getD j z_impl_ClaimSpot) → Ev (fun k => laws_toClaimSpotS.l0 k l y (i : Int)) (l.map cv_laws_ClaimSpot))
    (fun y hyl hy => by
      obtain rfl := fill_end z_impl_ClaimSpot (l.map cv_laws_ClaimSpot) y (by simpa using hyl) (fun j hj => hy j (by simpa using hj))
      refine Ev.step (fun k => by rw [laws_toClaimSpotS.l0]) (ev_neg (by omega) (ev_ret rfl)))
    (fun i x r hi hx hm _ ih y hyl hy => by
      refine Ev.step (fun k => by rw [laws_toClaimSpotS.l0]) (ev_pos (by omega) (ev_pos (by omega) ?_))
      rw [wsucc hi (by omega), Int.toNat_natCast, show rd_laws_ClaimSpot l (i : Int) = x from by unfold rd_laws_ClaimSpot; simpa using hx]
      refine Ev.bind (toClaimSpot_ev x (h x hm)) (ev_pos (by omega) ?_)
      obtain ⟨h1, h2⟩ := fill_step z_impl_ClaimSpot (l.map cv_laws_ClaimSpot) y i (by simpa using hyl) (by simpa using hi) hy (cv_laws_ClaimSpot x) (by rw [map_getD z_impl_ClaimSpot z_laws_ClaimSpot _ l i hi, hx])
      exact ih _ (by rw [h1]; simp) h2) _ (by simp) (fun j hj => absurd hj (Nat.not_lt_zero _))
def cv_laws_ClaimUse (x : S_laws_ClaimUse) : S_impl_ClaimUse := ⟨x.f0, x.f1, x.f2⟩
theorem toClaimUse_ev (x : S_laws_ClaimUse) (h : ok_laws_ClaimUse x) : Ev (fun k => laws_toClaimUse.f x.f0 x.f1 x.f2) ((cv_laws_ClaimUse x).f0, (cv_laws_ClaimUse x).f1, (cv_laws_ClaimUse x).f2) := by
  have h0 := h.1
  have h1 := h.2.1
  have h2 := h.2.2
  unfold laws_toClaimUse.f
  repeat' (first | exact ev_ret rfl)
theorem toClaimUseS_ev (l : List S_laws_ClaimUse) (hl : l.length ≤ 4398046511104) (h : ∀ z ∈ l, ok_laws_ClaimUse z) : Ev (fun k => laws_toClaimUseS.f k l) (l.map cv_laws_ClaimUse) := by
  unfold laws_toClaimUseS.f
  refine ev_pos (by omega) ?_
  refine loopL z_laws_ClaimUse l (P := fun i _ => ∀ y : List S_impl_ClaimUse, y.length = l.length → (∀ j, j < i → y.getD j z_impl_ClaimUse = (l.map cv_laws_ClaimUse).getD j z_impl_ClaimUse) → Ev (fun k => laws_toClaimUseS.l0 k l y (i : Int)) (l.map cv_laws_ClaimUse))
    (fun y hyl hy => by
      obtain rfl := fill_end z_impl_ClaimUse (l.map cv_laws_ClaimUse) y (by simpa using hyl) (fun j hj => hy j (by simpa using hj))
      refine Ev.step (fun k => by rw [laws_toClaimUseS.l0]) (ev_neg (by omega) (ev_ret rfl)))
    (fun i x r hi hx hm _ ih y hyl hy => by
      refine Ev.step (fun k => by rw [laws_toClaimUseS.l0]) (ev_pos (by omega) (ev_pos (by omega) ?_))
      rw [wsucc hi (by omega), Int.toNat_natCast, show rd_laws_ClaimUse l (i : Int) = x from by unfold rd_laws_ClaimUse; simpa using hx]
      refine Ev.bind (toClaimUse_ev x (h x hm)) (ev_pos (by omega) ?_)
      obtain ⟨h1, h2⟩ := fill_step z_impl_ClaimUse (l.map cv_laws_ClaimUse) y i (by simpa using hyl) (by simpa using hi) hy (cv_laws_ClaimUse x) (by rw [map_getD z_impl_ClaimUse z_laws_ClaimUse _ l i hi, hx])
      exact ih _ (by rw [h1]; simp) h2) _ (by simp) (fun j hj => absurd hj (Nat.not_lt_zero _))
def cv_laws_ClaimWant (x : S_laws_ClaimWant) : S_impl_ClaimWant := ⟨x.f0, x.f1, x.f2, x.f3.map cv_laws_ClaimUse, x.f4, x.f5⟩
theorem toClaimWant_ev (x : S_laws_ClaimWant) (h : ok_laws_ClaimWant x) : Ev (fun k => laws_toClaimWant.f k x.f0 x.f1 x.f2 x.f3 x.f4 x.f5) ((cv_laws_ClaimWant x).f0, (cv_laws_ClaimWant x).f1, (cv_laws_ClaimWant x).f2, (cv_laws_ClaimWant x).f3, (cv_laws_ClaimWant x).f4, (cv_laws_ClaimWant x).f5) := by
  have h0 := h.1
  have h1 := h.2.1
  have h2 := h.2.2.1
  have h3 := h.2.2.2.1
  have h4 := h.2.2.2.2.1
  have h5 := h.2.2.2.2.2
  unfold laws_toClaimWant.f
  repeat' (first | with_reducible refine Ev.bind (toStringS_ev _ (by have := h2.1; omega)) ?_ | with_reducible refine Ev.bind (toClaimUseS_ev _ (by have := h3.1; omega) h3.2) ?_ | with_reducible refine Ev.bind (toStringS_ev _ (by have := h4.1; omega)) ?_ | with_reducible refine Ev.bind (toStringS_ev _ (by have := h5.1; omega)) ?_ | exact ev_ret rfl)
def cv_laws_ClaimPart (x : S_laws_ClaimPart) : S_impl_ClaimPart := ⟨cv_laws_ClaimWant x.f0, x.f1⟩
theorem toClaimPart_ev (x : S_laws_ClaimPart) (h : ok_laws_ClaimPart x) : Ev (fun k => laws_toClaimPart.f k x.f0.f0 x.f0.f1 x.f0.f2 x.f0.f3 x.f0.f4 x.f0.f5 x.f1) (((cv_laws_ClaimPart x).f0).f0, ((cv_laws_ClaimPart x).f0).f1, ((cv_laws_ClaimPart x).f0).f2, ((cv_laws_ClaimPart x).f0).f3, ((cv_laws_ClaimPart x).f0).f4, ((cv_laws_ClaimPart x).f0).f5, (cv_laws_ClaimPart x).f1) := by
  have h0 := h.1
  have h1 := h.2
  unfold laws_toClaimPart.f
  repeat' (first | with_reducible refine Ev.bind (toClaimWant_ev _ h0) ?_ | exact ev_ret rfl)
theorem toClaimPartS_ev (l : List S_laws_ClaimPart) (hl : l.length ≤ 1172812402961) (h : ∀ z ∈ l, ok_laws_ClaimPart z) : Ev (fun k => laws_toClaimPartS.f k l) (l.map cv_laws_ClaimPart) := by
  unfold laws_toClaimPartS.f
  refine ev_pos (by omega) ?_
  refine loopL z_laws_ClaimPart l (P := fun i _ => ∀ y : List S_impl_ClaimPart, y.length = l.length → (∀ j, j < i → y.getD j z_impl_ClaimPart = (l.map cv_laws_ClaimPart).getD j z_impl_ClaimPart) → Ev (fun k => laws_toClaimPartS.l0 k l y (i : Int)) (l.map cv_laws_ClaimPart))
    (fun y hyl hy => by
      obtain rfl := fill_end z_impl_ClaimPart (l.map cv_laws_ClaimPart) y (by simpa using hyl) (fun j hj => hy j (by simpa using hj))
      refine Ev.step (fun k => by rw [laws_toClaimPartS.l0]) (ev_neg (by omega) (ev_ret rfl)))
    (fun i x r hi hx hm _ ih y hyl hy => by
      refine Ev.step (fun k => by rw [laws_toClaimPartS.l0]) (ev_pos (by omega) (ev_pos (by omega) ?_))
      rw [wsucc hi (by omega), Int.toNat_natCast, show rd_laws_ClaimPart l (i : Int) = x from by unfold rd_laws_ClaimPart; simpa using hx]
      refine Ev.bind (toClaimPart_ev x (h x hm)) (ev_pos (by omega) ?_)
      obtain ⟨h1, h2⟩ := fill_step z_impl_ClaimPart (l.map cv_laws_ClaimPart) y i (by simpa using hyl) (by simpa using hi) hy (cv_laws_ClaimPart x) (by rw [map_getD z_impl_ClaimPart z_laws_ClaimPart _ l i hi, hx])
      exact ih _ (by rw [h1]; simp) h2) _ (by simp) (fun j hj => absurd hj (Nat.not_lt_zero _))
theorem toClaimBook_ev (x : S_laws_ClaimBook) (h : ok_laws_ClaimBook x) : Ev (fun k => laws_toClaimBook.f k x.f0 x.f1 x.f2 x.f3 x.f4) (x.f0.map cv_laws_ClaimFoe, x.f1.map cv_laws_ClaimSpot, x.f2, x.f3.map cv_laws_ClaimPart, x.f4) := by
  have h0 := h.1
  have h1 := h.2.1
  have h2 := h.2.2.1
  have h3 := h.2.2.2.1
  have h4 := h.2.2.2.2
  unfold laws_toClaimBook.f
  repeat' (first | with_reducible refine Ev.bind (toClaimFoeS_ev _ (by have := h0.1; omega) h0.2) ?_ | with_reducible refine Ev.bind (toClaimSpotS_ev _ (by have := h1.1; omega) h1.2) ?_ | with_reducible refine Ev.bind (toStringS_ev _ (by have := h2.1; omega)) ?_ | with_reducible refine Ev.bind (toClaimPartS_ev _ (by have := h3.1; omega) h3.2) ?_ | exact ev_ret rfl)
theorem eqIntS_ev (l : List Int) (hl : l.length ≤ 140737488351232) : Ev (fun k => laws_eqIntS.f k l l) true := by
  unfold laws_eqIntS.f
  refine ev_pos rfl ?_
  refine loopL 0 l (P := fun i _ => Ev (fun k => laws_eqIntS.l0 k l l (i : Int)) true)
    (Ev.step (fun k => by rw [laws_eqIntS.l0]) (ev_neg (by omega) (ev_ret rfl)))
    (fun i x r hi hx hm _ ih => Ev.step (fun k => by rw [laws_eqIntS.l0]) (ev_pos (by omega) (ev_pos (by omega) (ev_pos (by omega) (by
      rw [wsucc hi (by omega)]
      exact ev_pos rfl ih)))))
def ok_impl_ClaimFoe (y : S_impl_ClaimFoe) : Prop := (y.f0.size ≤ 140737488351232) ∧ (y.f1.size ≤ 140737488351232)
theorem eqClaimFoe_ev (x : S_impl_ClaimFoe) (h : ok_impl_ClaimFoe x) : Ev (fun k => laws_eqClaimFoe.f x.f0 x.f1 x.f0 x.f1) true := by
  have h0 := h.1
  have h1 := h.2
  unfold laws_eqClaimFoe.f
  repeat' (first | exact ev_ret rfl | refine ev_pos rfl ?_ | refine ev_neg (by simp) ?_)
theorem eqClaimFoeS_ev (l : List S_impl_ClaimFoe) (hl : l.length ≤ 140737488351232) (h : ∀ z ∈ l, ok_impl_ClaimFoe z) : Ev (fun k => laws_eqClaimFoeS.f k l l) true := by
  unfold laws_eqClaimFoeS.f
  refine ev_pos rfl ?_
  refine loopL z_impl_ClaimFoe l (P := fun i _ => Ev (fun k => laws_eqClaimFoeS.l0 k l l (i : Int)) true)
    (Ev.step (fun k => by rw [laws_eqClaimFoeS.l0]) (ev_neg (by omega) (ev_ret rfl)))
    (fun i x r hi hx hm _ ih => Ev.step (fun k => by rw [laws_eqClaimFoeS.l0]) (ev_pos (by omega) (ev_pos (by omega) (ev_pos (by omega) (by
      rw [wsucc hi (by omega)]
      rw [show rd_impl_ClaimFoe l (i : Int) = x from by unfold rd_impl_ClaimFoe; simpa using hx]
      exact Ev.bind (eqClaimFoe_ev x (h x hm)) (ev_pos rfl ih))))))
theorem eqStringS_ev (l : List ByteArray) (hl : l.length ≤ 140737488351232) : Ev (fun k => laws_eqStringS.f k l l) true := by
  unfold laws_eqStringS.f
  refine ev_pos rfl ?_
  refine loopL ByteArray.empty l (P := fun i _ => Ev (fun k => laws_eqStringS.l0 k l l (i : Int)) true)
    (Ev.step (fun k => by rw [laws_eqStringS.l0]) (ev_neg (by omega) (ev_ret rfl)))
    (fun i x r hi hx hm _ ih => Ev.step (fun k => by rw [laws_eqStringS.l0]) (ev_pos (by omega) (ev_pos (by omega) (ev_pos (by omega) (by
      rw [wsucc hi (by omega)]
      exact ev_pos rfl ih)))))
def ok_impl_ClaimSpot (y : S_impl_ClaimSpot) : Prop := (y.f0.size ≤ 140737488351232) ∧ ((Lit.int .i64 y.f1).wf = true) ∧ ((Lit.int .i64 y.f2).wf = true) ∧ ((Lit.int .i64 y.f3).wf = true) ∧ ((y.f4.length ≤ 9223372036854775807 ∧ y.f4.length * 16 ≤ 140737488351232) ∧ ∀ z ∈ y.f4, z.size ≤ 140737488351232)
theorem eqClaimSpot_ev (x : S_impl_ClaimSpot) (h : ok_impl_ClaimSpot x) : Ev (fun k => laws_eqClaimSpot.f k x.f0 x.f1 x.f2 x.f3 x.f4 x.f0 x.f1 x.f2 x.f3 x.f4) true := by
  have h0 := h.1
  have h1 := h.2.1
  have h2 := h.2.2.1
  have h3 := h.2.2.2.1
  have h4 := h.2.2.2.2
  unfold laws_eqClaimSpot.f
  repeat' (first | with_reducible refine Ev.bind (eqStringS_ev _ (by have := h4.1; omega)) ?_ | exact ev_ret rfl | refine ev_pos rfl ?_ | refine ev_neg (by simp) ?_)
theorem eqClaimSpotS_ev (l : List S_impl_ClaimSpot) (hl : l.length ≤ 140737488351232) (h : ∀ z ∈ l, ok_impl_ClaimSpot z) : Ev (fun k => laws_eqClaimSpotS.f k l l) true := by
  unfold laws_eqClaimSpotS.f
  refine ev_pos rfl ?_
  refine loopL z_impl_ClaimSpot l (P := fun i _ => Ev (fun k => laws_eqClaimSpotS.l0 k l l (i : Int)) true)
    (Ev.step (fun k => by rw [laws_eqClaimSpotS.l0]) (ev_neg (by omega) (ev_ret rfl)))
    (fun i x r hi hx hm _ ih => Ev.step (fun k => by rw [laws_eqClaimSpotS.l0]) (ev_pos (by omega) (ev_pos (by omega) (ev_pos (by omega) (by
      rw [wsucc hi (by omega)]
      rw [show rd_impl_ClaimSpot l (i : Int) = x from by unfold rd_impl_ClaimSpot; simpa using hx]
      exact Ev.bind (eqClaimSpot_ev x (h x hm)) (ev_pos rfl ih))))))
def ok_impl_ClaimUse (y : S_impl_ClaimUse) : Prop := (y.f0.size ≤ 140737488351232) ∧ ((Lit.int .i64 y.f1).wf = true) ∧ ((Lit.int .i64 y.f2).wf = true)
theorem eqClaimUse_ev (x : S_impl_ClaimUse) (h : ok_impl_ClaimUse x) : Ev (fun k => laws_eqClaimUse.f x.f0 x.f1 x.f2 x.f0 x.f1 x.f2) true := by
  have h0 := h.1
  have h1 := h.2.1
  have h2 := h.2.2
  unfold laws_eqClaimUse.f
  repeat' (first | exact ev_ret rfl | refine ev_pos rfl ?_ | refine ev_neg (by simp) ?_)
theorem eqClaimUseS_ev (l : List S_impl_ClaimUse) (hl : l.length ≤ 140737488351232) (h : ∀ z ∈ l, ok_impl_ClaimUse z) : Ev (fun k => laws_eqClaimUseS.f k l l) true := by
  unfold laws_eqClaimUseS.f
  refine ev_pos rfl ?_
  refine loopL z_impl_ClaimUse l (P := fun i _ => Ev (fun k => laws_eqClaimUseS.l0 k l l (i : Int)) true)
    (Ev.step (fun k => by rw [laws_eqClaimUseS.l0]) (ev_neg (by omega) (ev_ret rfl)))
    (fun i x r hi hx hm _ ih => Ev.step (fun k => by rw [laws_eqClaimUseS.l0]) (ev_pos (by omega) (ev_pos (by omega) (ev_pos (by omega) (by
      rw [wsucc hi (by omega)]
      rw [show rd_impl_ClaimUse l (i : Int) = x from by unfold rd_impl_ClaimUse; simpa using hx]
      exact Ev.bind (eqClaimUse_ev x (h x hm)) (ev_pos rfl ih))))))
def ok_impl_ClaimWant (y : S_impl_ClaimWant) : Prop := ((Lit.int .i64 y.f0).wf = true) ∧ ((Lit.int .i64 y.f1).wf = true) ∧ ((y.f2.length ≤ 9223372036854775807 ∧ y.f2.length * 16 ≤ 140737488351232) ∧ ∀ z ∈ y.f2, z.size ≤ 140737488351232) ∧ ((y.f3.length ≤ 9223372036854775807 ∧ y.f3.length * 32 ≤ 140737488351232) ∧ ∀ z ∈ y.f3, ok_impl_ClaimUse z) ∧ ((y.f4.length ≤ 9223372036854775807 ∧ y.f4.length * 16 ≤ 140737488351232) ∧ ∀ z ∈ y.f4, z.size ≤ 140737488351232) ∧ ((y.f5.length ≤ 9223372036854775807 ∧ y.f5.length * 16 ≤ 140737488351232) ∧ ∀ z ∈ y.f5, z.size ≤ 140737488351232)
theorem eqClaimWant_ev (x : S_impl_ClaimWant) (h : ok_impl_ClaimWant x) : Ev (fun k => laws_eqClaimWant.f k x.f0 x.f1 x.f2 x.f3 x.f4 x.f5 x.f0 x.f1 x.f2 x.f3 x.f4 x.f5) true := by
  have h0 := h.1
  have h1 := h.2.1
  have h2 := h.2.2.1
  have h3 := h.2.2.2.1
  have h4 := h.2.2.2.2.1
  have h5 := h.2.2.2.2.2
  unfold laws_eqClaimWant.f
  repeat' (first | with_reducible refine Ev.bind (eqStringS_ev _ (by have := h2.1; omega)) ?_ | with_reducible refine Ev.bind (eqClaimUseS_ev _ (by have := h3.1; omega) h3.2) ?_ | with_reducible refine Ev.bind (eqStringS_ev _ (by have := h4.1; omega)) ?_ | with_reducible refine Ev.bind (eqStringS_ev _ (by have := h5.1; omega)) ?_ | exact ev_ret rfl | refine ev_pos rfl ?_ | refine ev_neg (by simp) ?_)
def ok_impl_ClaimPart (y : S_impl_ClaimPart) : Prop := (ok_impl_ClaimWant y.f0) ∧ (True)
theorem eqClaimPart_ev (x : S_impl_ClaimPart) (h : ok_impl_ClaimPart x) : Ev (fun k => laws_eqClaimPart.f k x.f0.f0 x.f0.f1 x.f0.f2 x.f0.f3 x.f0.f4 x.f0.f5 x.f1 x.f0.f0 x.f0.f1 x.f0.f2 x.f0.f3 x.f0.f4 x.f0.f5 x.f1) true := by
  have h0 := h.1
  have h1 := h.2
  unfold laws_eqClaimPart.f
  repeat' (first | with_reducible refine Ev.bind (eqClaimWant_ev _ h0) ?_ | exact ev_ret rfl | refine ev_pos rfl ?_ | refine ev_neg (by simp) ?_)
theorem eqClaimPartS_ev (l : List S_impl_ClaimPart) (hl : l.length ≤ 140737488351232) (h : ∀ z ∈ l, ok_impl_ClaimPart z) : Ev (fun k => laws_eqClaimPartS.f k l l) true := by
  unfold laws_eqClaimPartS.f
  refine ev_pos rfl ?_
  refine loopL z_impl_ClaimPart l (P := fun i _ => Ev (fun k => laws_eqClaimPartS.l0 k l l (i : Int)) true)
    (Ev.step (fun k => by rw [laws_eqClaimPartS.l0]) (ev_neg (by omega) (ev_ret rfl)))
    (fun i x r hi hx hm _ ih => Ev.step (fun k => by rw [laws_eqClaimPartS.l0]) (ev_pos (by omega) (ev_pos (by omega) (ev_pos (by omega) (by
      rw [wsucc hi (by omega)]
      rw [show rd_impl_ClaimPart l (i : Int) = x from by unfold rd_impl_ClaimPart; simpa using hx]
      exact Ev.bind (eqClaimPart_ev x (h x hm)) (ev_pos rfl ih))))))
theorem eqClaimBook_ev (x0 : List S_impl_ClaimFoe) (x1 : List S_impl_ClaimSpot) (x2 : List ByteArray) (x3 : List S_impl_ClaimPart) (x4 : Int) (h0 : (x0.length ≤ 9223372036854775807 ∧ x0.length * 32 ≤ 140737488351232) ∧ ∀ z ∈ x0, ok_impl_ClaimFoe z) (h1 : (x1.length ≤ 9223372036854775807 ∧ x1.length * 64 ≤ 140737488351232) ∧ ∀ z ∈ x1, ok_impl_ClaimSpot z) (h2 : (x2.length ≤ 9223372036854775807 ∧ x2.length * 16 ≤ 140737488351232) ∧ ∀ z ∈ x2, z.size ≤ 140737488351232) (h3 : (x3.length ≤ 9223372036854775807 ∧ x3.length * 120 ≤ 140737488351232) ∧ ∀ z ∈ x3, ok_impl_ClaimPart z) (h4 : (Lit.int .i64 x4).wf = true) : Ev (fun k => laws_eqClaimBook.f k x0 x1 x2 x3 x4 x0 x1 x2 x3 x4) true := by
  unfold laws_eqClaimBook.f
  repeat' (first | with_reducible refine Ev.bind (eqClaimFoeS_ev _ (by have := h0.1; omega) h0.2) ?_ | with_reducible refine Ev.bind (eqClaimSpotS_ev _ (by have := h1.1; omega) h1.2) ?_ | with_reducible refine Ev.bind (eqStringS_ev _ (by have := h2.1; omega)) ?_ | with_reducible refine Ev.bind (eqClaimPartS_ev _ (by have := h3.1; omega) h3.2) ?_ | exact ev_ret rfl | refine ev_pos rfl ?_ | refine ev_neg (by simp) ?_)
noncomputable def mk_ClaimFoeS (n : Nat) (a : Int) : List S_impl_ClaimFoe := (List.range n).map fun (i : Nat) => ⟨mtx (a + 2 * (i : Int)), mtx (a + 2 * (i : Int) + 1)⟩
theorem mk_ClaimFoeS_length (n : Nat) (a : Int) : (mk_ClaimFoeS n a).length = n := by simp [mk_ClaimFoeS]
theorem markClaimFoeS_ev (l : List S_impl_ClaimFoe) (a : Int) (ha : 0 ≤ a) (hb : a ≤ 281474976710656) (hn : l.length ≤ 140737488351232) : Ev (fun k => laws_markClaimFoeS.f k l a) (a + 2 * (l.length : Int), mk_ClaimFoeS l.length a) := by
  unfold laws_markClaimFoeS.f
  have key := loopL z_impl_ClaimFoe l (P := fun i _ => ∀ y : List S_impl_ClaimFoe, y.length = l.length → (∀ j, j < i → y.getD j z_impl_ClaimFoe = (mk_ClaimFoeS l.length a).getD j z_impl_ClaimFoe) → Ev (fun k => laws_markClaimFoeS.l0 k l (a + 2 * (i : Int)) (i : Int) y) (a + 2 * (l.length : Int), mk_ClaimFoeS l.length a))
    (fun y hyl hy => by
      obtain rfl := fill_end z_impl_ClaimFoe (mk_ClaimFoeS l.length a) y (by rw [mk_ClaimFoeS_length]; exact hyl) (fun j hj => hy j (by rwa [mk_ClaimFoeS_length] at hj))
      exact Ev.step (fun k => by rw [laws_markClaimFoeS.l0]) (ev_pos hyl (ev_neg (by omega) (ev_ret rfl))))
    (fun i x r hi hx hm _ ih y hyl hy => by
      obtain ⟨h1, h2⟩ := fill_step z_impl_ClaimFoe (mk_ClaimFoeS l.length a) y i (by rw [mk_ClaimFoeS_length]; exact hyl) (by rw [mk_ClaimFoeS_length]; exact hi) hy _ (range_map_getD _ _ _ i hi).symm
      have hk := ih _ (by simpa using hyl) h2
      have hbd : 0 ≤ a + 2 * (i : Int) ∧ a + 2 * (i : Int) ≤ 1125899906842624 := by omega
      have e : a + 2 * ((i + 1 : Nat) : Int) = a + 2 * (i : Int) + 1 + 1 := by omega
      rw [e] at hk
      clear h1 h2 hy e ih
      generalize a + 2 * (i : Int) = b at hk hbd ⊢
      refine Ev.step (fun k => by rw [laws_markClaimFoeS.l0]) (ev_pos hyl (ev_pos (by omega) ?_))
      have w1 : wrap64 (b + 1) = b + 1 := by unfold wrap64; omega
      have w2 : wrap64 (b + 1 + 1) = b + 1 + 1 := by unfold wrap64; omega
      simp only [w1, w2, wsucc hi (by omega : l.length ≤ 9223372036854775807), Int.toNat_natCast]
      repeat' (first | with_reducible exact hk | with_reducible refine Ev.bind (markText_ev _ (by omega)) ?_ | refine ev_pos (by omega) ?_))
  simpa using key l rfl (fun j hj => absurd hj (Nat.not_lt_zero _))
noncomputable def mk_StringS (n : Nat) (a : Int) : List ByteArray := (List.range n).map fun (i : Nat) => mtx (a + 1 * (i : Int))
theorem mk_StringS_length (n : Nat) (a : Int) : (mk_StringS n a).length = n := by simp [mk_StringS]
theorem markStringS_ev (l : List ByteArray) (a : Int) (ha : 0 ≤ a) (hb : a ≤ 281474976710656) (hn : l.length ≤ 140737488351232) : Ev (fun k => laws_markStringS.f k l a) (a + 1 * (l.length : Int), mk_StringS l.length a) := by
  unfold laws_markStringS.f
  have key := loopL ByteArray.empty l (P := fun i _ => ∀ y : List ByteArray, y.length = l.length → (∀ j, j < i → y.getD j ByteArray.empty = (mk_StringS l.length a).getD j ByteArray.empty) → Ev (fun k => laws_markStringS.l0 k l (a + 1 * (i : Int)) (i : Int) y) (a + 1 * (l.length : Int), mk_StringS l.length a))
    (fun y hyl hy => by
      obtain rfl := fill_end ByteArray.empty (mk_StringS l.length a) y (by rw [mk_StringS_length]; exact hyl) (fun j hj => hy j (by rwa [mk_StringS_length] at hj))
      exact Ev.step (fun k => by rw [laws_markStringS.l0]) (ev_pos hyl (ev_neg (by omega) (ev_ret rfl))))
    (fun i x r hi hx hm _ ih y hyl hy => by
      obtain ⟨h1, h2⟩ := fill_step ByteArray.empty (mk_StringS l.length a) y i (by rw [mk_StringS_length]; exact hyl) (by rw [mk_StringS_length]; exact hi) hy _ (range_map_getD _ _ _ i hi).symm
      have hk := ih _ (by simpa using hyl) h2
      have hbd : 0 ≤ a + 1 * (i : Int) ∧ a + 1 * (i : Int) ≤ 1125899906842624 := by omega
      have e : a + 1 * ((i + 1 : Nat) : Int) = a + 1 * (i : Int) + 1 := by omega
      rw [e] at hk
      clear h1 h2 hy e ih
      generalize a + 1 * (i : Int) = b at hk hbd ⊢
      refine Ev.step (fun k => by rw [laws_markStringS.l0]) (ev_pos hyl (ev_pos (by omega) ?_))
      have w1 : wrap64 (b + 1) = b + 1 := by unfold wrap64; omega
      simp only [w1, wsucc hi (by omega : l.length ≤ 9223372036854775807), Int.toNat_natCast]
      repeat' (first | with_reducible exact hk | with_reducible refine Ev.bind (markText_ev _ (by omega)) ?_ | refine ev_pos (by omega) ?_))
  simpa using key l rfl (fun j hj => absurd hj (Nat.not_lt_zero _))
noncomputable def mk_ClaimUseS (n : Nat) (a : Int) : List S_impl_ClaimUse := (List.range n).map fun (i : Nat) => ⟨mtx (a + 3 * (i : Int)), a + 3 * (i : Int) + 1, a + 3 * (i : Int) + 1 + 1⟩
theorem mk_ClaimUseS_length (n : Nat) (a : Int) : (mk_ClaimUseS n a).length = n := by simp [mk_ClaimUseS]
theorem markClaimUseS_ev (l : List S_impl_ClaimUse) (a : Int) (ha : 0 ≤ a) (hb : a ≤ 281474976710656) (hn : l.length ≤ 140737488351232) : Ev (fun k => laws_markClaimUseS.f k l a) (a + 3 * (l.length : Int), mk_ClaimUseS l.length a) := by
  unfold laws_markClaimUseS.f
  have key := loopL z_impl_ClaimUse l (P := fun i _ => ∀ y : List S_impl_ClaimUse, y.length = l.length → (∀ j, j < i → y.getD j z_impl_ClaimUse = (mk_ClaimUseS l.length a).getD j z_impl_ClaimUse) → Ev (fun k => laws_markClaimUseS.l0 k l (a + 3 * (i : Int)) (i : Int) y) (a + 3 * (l.length : Int), mk_ClaimUseS l.length a))
    (fun y hyl hy => by
      obtain rfl := fill_end z_impl_ClaimUse (mk_ClaimUseS l.length a) y (by rw [mk_ClaimUseS_length]; exact hyl) (fun j hj => hy j (by rwa [mk_ClaimUseS_length] at hj))
      exact Ev.step (fun k => by rw [laws_markClaimUseS.l0]) (ev_pos hyl (ev_neg (by omega) (ev_ret rfl))))
    (fun i x r hi hx hm _ ih y hyl hy => by
      obtain ⟨h1, h2⟩ := fill_step z_impl_ClaimUse (mk_ClaimUseS l.length a) y i (by rw [mk_ClaimUseS_length]; exact hyl) (by rw [mk_ClaimUseS_length]; exact hi) hy _ (range_map_getD _ _ _ i hi).symm
      have hk := ih _ (by simpa using hyl) h2
      have hbd : 0 ≤ a + 3 * (i : Int) ∧ a + 3 * (i : Int) ≤ 1125899906842624 := by omega
      have e : a + 3 * ((i + 1 : Nat) : Int) = a + 3 * (i : Int) + 1 + 1 + 1 := by omega
      rw [e] at hk
      clear h1 h2 hy e ih
      generalize a + 3 * (i : Int) = b at hk hbd ⊢
      refine Ev.step (fun k => by rw [laws_markClaimUseS.l0]) (ev_pos hyl (ev_pos (by omega) ?_))
      have w1 : wrap64 (b + 1) = b + 1 := by unfold wrap64; omega
      have w2 : wrap64 (b + 1 + 1) = b + 1 + 1 := by unfold wrap64; omega
      have w3 : wrap64 (b + 1 + 1 + 1) = b + 1 + 1 + 1 := by unfold wrap64; omega
      simp only [w1, w2, w3, wsucc hi (by omega : l.length ≤ 9223372036854775807), Int.toNat_natCast]
      repeat' (first | with_reducible exact hk | with_reducible refine Ev.bind (markText_ev _ (by omega)) ?_ | refine ev_pos (by omega) ?_))
  simpa using key l rfl (fun j hj => absurd hj (Nat.not_lt_zero _))
noncomputable def mk_IntS (n : Nat) (a : Int) : List Int := (List.range n).map fun (i : Nat) => a + 1 * (i : Int)
theorem mk_IntS_length (n : Nat) (a : Int) : (mk_IntS n a).length = n := by simp [mk_IntS]
theorem markIntS_ev (l : List Int) (a : Int) (ha : 0 ≤ a) (hb : a ≤ 281474976710656) (hn : l.length ≤ 140737488351232) : Ev (fun k => laws_markIntS.f k l a) (a + 1 * (l.length : Int), mk_IntS l.length a) := by
  unfold laws_markIntS.f
  have key := loopL 0 l (P := fun i _ => ∀ y : List Int, y.length = l.length → (∀ j, j < i → y.getD j 0 = (mk_IntS l.length a).getD j 0) → Ev (fun k => laws_markIntS.l0 k l (a + 1 * (i : Int)) (i : Int) y) (a + 1 * (l.length : Int), mk_IntS l.length a))
    (fun y hyl hy => by
      obtain rfl := fill_end 0 (mk_IntS l.length a) y (by rw [mk_IntS_length]; exact hyl) (fun j hj => hy j (by rwa [mk_IntS_length] at hj))
      exact Ev.step (fun k => by rw [laws_markIntS.l0]) (ev_pos hyl (ev_neg (by omega) (ev_ret rfl))))
    (fun i x r hi hx hm _ ih y hyl hy => by
      obtain ⟨h1, h2⟩ := fill_step 0 (mk_IntS l.length a) y i (by rw [mk_IntS_length]; exact hyl) (by rw [mk_IntS_length]; exact hi) hy _ (range_map_getD _ _ _ i hi).symm
      have hk := ih _ (by simpa using hyl) h2
      have hbd : 0 ≤ a + 1 * (i : Int) ∧ a + 1 * (i : Int) ≤ 1125899906842624 := by omega
      have e : a + 1 * ((i + 1 : Nat) : Int) = a + 1 * (i : Int) + 1 := by omega
      rw [e] at hk
      clear h1 h2 hy e ih
      generalize a + 1 * (i : Int) = b at hk hbd ⊢
      refine Ev.step (fun k => by rw [laws_markIntS.l0]) (ev_pos hyl (ev_pos (by omega) ?_))
      have w1 : wrap64 (b + 1) = b + 1 := by unfold wrap64; omega
      simp only [w1, wsucc hi (by omega : l.length ≤ 9223372036854775807), Int.toNat_natCast]
      repeat' (first | with_reducible exact hk | with_reducible refine Ev.bind (markText_ev _ (by omega)) ?_ | refine ev_pos (by omega) ?_))
  simpa using key l rfl (fun j hj => absurd hj (Nat.not_lt_zero _))
theorem heldIntS_ev (n : Nat) (a : Int) (ha : 0 ≤ a) (hb : a ≤ 281474976710656) (hn : n ≤ 140737488351232) : Ev (fun k => laws_heldIntS.f k (mk_IntS n a) a) (a + 1 * (n : Int)) := by
  unfold laws_heldIntS.f
  have key := loopL 0 (mk_IntS n a) (P := fun i _ => Ev (fun k => laws_heldIntS.l0 k (mk_IntS n a) (a + 1 * (i : Int)) (i : Int)) (a + 1 * (n : Int)))
    (Ev.step (fun k => by rw [laws_heldIntS.l0]) (ev_neg (by omega) (ev_ret (by rw [mk_IntS_length]))))
    (fun i x r hi hx hm _ ih => by
      have hi' := hi
      rw [mk_IntS_length] at hi'
      have hx' := (range_map_getD 0 n _ i hi').symm.trans hx
      have hr : rd (mk_IntS n a) (i : Int) = x := by rw [rd_nat]; exact hx
      have hbd : 0 ≤ a + 1 * (i : Int) ∧ a + 1 * (i : Int) ≤ 1125899906842624 := by omega
      have e : a + 1 * ((i + 1 : Nat) : Int) = a + 1 * (i : Int) + 1 := by omega
      rw [e] at ih
      have hlt : (i : Int) < ((mk_IntS n a).length : Int) := by omega
      have hl9 : (mk_IntS n a).length ≤ 9223372036854775807 := by rw [mk_IntS_length]; omega
      generalize mk_IntS n a = L at *
      clear e hx
      generalize a + 1 * (i : Int) = b at ih hbd hx' ⊢
      refine Ev.step (fun k => by rw [laws_heldIntS.l0]) (ev_pos (by omega) ?_)
      have w1 : wrap64 (b + 1) = b + 1 := by unfold wrap64; omega
      simp only [w1, wsucc hi hl9, hr]
      subst hx'
      repeat' (first | with_reducible exact ih | with_reducible refine Ev.bind (markText_ev _ (by omega)) ?_ | refine ev_pos (by omega) ?_ | refine ev_pos rfl ?_ | refine ev_neg (by simp) ?_))
  simpa using key
/-! ### sizes, and what they bound -/
def Dn (g : Nat → Option Int) (t a : Int) : Prop := ∃ q, Ev g q ∧ (0 ≤ q → 16 * q + t ≤ 16 * a)
theorem dn_ret {q t a : Int} (h : 0 ≤ q → 16 * q + t ≤ 16 * a) : Dn (fun _ => some q) t a := ⟨q, ev_ret rfl, h⟩
theorem dn_pos {p : Prop} [Decidable p] {A B : Nat → Option Int} {t a : Int} (c : p) (h : Dn A t a) : Dn (fun n => if p then A n else B n) t a := by
  obtain ⟨q, e, h⟩ := h; exact ⟨q, ev_pos c e, h⟩
theorem dn_neg {p : Prop} [Decidable p] {A B : Nat → Option Int} {t a : Int} (c : ¬ p) (h : Dn B t a) : Dn (fun n => if p then A n else B n) t a := by
  obtain ⟨q, e, h⟩ := h; exact ⟨q, ev_neg c e, h⟩
theorem dn_ite {p : Prop} [Decidable p] {A B : Nat → Option Int} {t a : Int} (h1 : p → Dn A t a) (h2 : ¬ p → Dn B t a) : Dn (fun n => if p then A n else B n) t a := by
  by_cases c : p
  · exact dn_pos c (h1 c)
  · exact dn_neg c (h2 c)
theorem dn_bind {g : Nat → Option Int} {f : Nat → Int → Option Int} {t1 a1 t a : Int} (h : Dn g t1 a1) (k : ∀ q, (0 ≤ q → 16 * q + t1 ≤ 16 * a1) → Dn (fun n => f n q) t a) : Dn (fun n => (g n).bind (f n)) t a := by
  obtain ⟨q, e, hq⟩ := h
  obtain ⟨q2, e2, hq2⟩ := k q hq
  exact ⟨q2, Ev.bind e e2, hq2⟩
theorem dn_step {g f : Nat → Option Int} {t a : Int} (h : ∀ k, g (k + 1) = f k) (k : Dn f t a) : Dn g t a := by
  obtain ⟨q, e, hq⟩ := k; exact ⟨q, Ev.step h e, hq⟩
theorem dn_le {g : Nat → Option Int} {t a t' a' : Int} (h : Dn g t a) (k : t' + 16 * a ≤ t + 16 * a') : Dn g t' a' := by
  obtain ⟨q, e, hq⟩ := h; exact ⟨q, e, fun h => by have := hq h; omega⟩
def Mk {β : Type} (g : Nat → Option (Int × β)) (a t : Int) : Prop := ∃ r, Ev g r ∧ a ≤ r.1 ∧ r.1 ≤ a + t
theorem mk_ret {β : Type} {r : Int × β} {a t : Int} (h : a ≤ r.1) (k : r.1 ≤ a + t) : Mk (fun _ => some r) a t := ⟨r, ev_ret rfl, h, k⟩
theorem mk_pos {β : Type} {p : Prop} [Decidable p] {A B : Nat → Option (Int × β)} {a t : Int} (c : p) (h : Mk A a t) : Mk (fun n => if p then A n else B n) a t := by
  obtain ⟨q, e, h⟩ := h; exact ⟨q, ev_pos c e, h⟩
theorem mk_neg {β : Type} {p : Prop} [Decidable p] {A B : Nat → Option (Int × β)} {a t : Int} (c : ¬ p) (h : Mk B a t) : Mk (fun n => if p then A n else B n) a t := by
  obtain ⟨q, e, h⟩ := h; exact ⟨q, ev_neg c e, h⟩
theorem mk_ev {α β : Type} {g : Nat → Option α} {f : Nat → α → Option (Int × β)} {v : α} {a t : Int} (h : Ev g v) (k : Mk (fun n => f n v) a t) : Mk (fun n => (g n).bind (f n)) a t := by
  obtain ⟨r, e, hr⟩ := k; exact ⟨r, Ev.bind h e, hr⟩
theorem mk_bind {α β : Type} {g : Nat → Option (Int × α)} {f : Nat → Int × α → Option (Int × β)} {b u a t : Int} (h : Mk g b u) (k : ∀ v : Int × α, b ≤ v.1 → v.1 ≤ b + u → Mk (fun n => f n v) a t) : Mk (fun n => (g n).bind (f n)) a t := by
  obtain ⟨v, e, h1, h2⟩ := h; exact mk_ev e (k v h1 h2)
theorem mk_step {β : Type} {g f : Nat → Option (Int × β)} {a t : Int} (h : ∀ k, g (k + 1) = f k) (k : Mk f a t) : Mk g a t := by
  obtain ⟨q, e, hq⟩ := k; exact ⟨q, Ev.step h e, hq⟩
theorem mk_le {β : Type} {g : Nat → Option (Int × β)} {b u a t : Int} (h : Mk g b u) (k1 : a ≤ b) (k2 : b + u ≤ a + t) : Mk g a t := by
  obtain ⟨q, e, h1, h2⟩ := h; exact ⟨q, e, by omega, by omega⟩
theorem drop_get {α : Type} {d : α} {y : List α} {i : Nat} {x : α} {r : List α} (h : y.drop i = x :: r) : y.getD i d = x := by
  have := congrArg (fun l => l[0]?) h
  simp only [List.getElem?_drop, Nat.add_zero, List.getElem?_cons_zero] at this
  rw [List.getD_eq_getElem?_getD, this]; rfl
theorem drop_next {α : Type} {y : List α} {i : Nat} {x z : α} {r : List α} (h : y.drop i = x :: r) : (y.set i z).drop (i + 1) = r := by
  rw [List.drop_set_of_lt (by omega), ← List.drop_drop, h]; rfl
theorem dn_szClaimFoe (x : S_laws_ClaimFoe) (h : ok_laws_ClaimFoe x) (a : Int) (a0 : 0 ≤ a) (a1 : a ≤ 1048576) : Dn (fun k => laws_szClaimFoe.f x.f0 x.f1 a) (0) a := by
  have h_0 := h.1
  have h_1 := h.2
  unfold laws_szClaimFoe.f
  repeat' (first
    | with_reducible exact dn_ret (by intro; omega)
    | with_reducible refine dn_ite (fun c => ?_) (fun c => ?_)
    | with_reducible exact dn_ret (by intro; (try unfold wrap64 at *); omega)
    | with_reducible exact dn_ret (by intro; omega))
theorem dn_szClaimFoeS (l : List S_laws_ClaimFoe) (hl : l.length ≤ 140737488351232) (h : ∀ z ∈ l, ok_laws_ClaimFoe z) (a : Int) (a0 : 0 ≤ a) (a1 : a ≤ 1048576) : Dn (fun k => laws_szClaimFoeS.f k l a) (16 * (l.length : Int)) a := by
  have key := loopL z_laws_ClaimFoe l (P := fun i r => ∀ b : Int, 0 ≤ b → b ≤ 1048576 → Dn (fun k => laws_szClaimFoeS.l0 k l b (i : Int)) (0) b)
    (fun b _ _ => dn_step (fun k => by rw [laws_szClaimFoeS.l0]) (dn_neg (by omega) (dn_ret (by omega))))
    (fun i x r hi hx hm _ ih b b0 b1 => dn_step (fun k => by rw [laws_szClaimFoeS.l0]) (dn_pos (by omega) (dn_pos (by omega) (by
      rw [wsucc hi (by omega), show rd_laws_ClaimFoe l (i : Int) = x from by unfold rd_laws_ClaimFoe; rw [Int.toNat_natCast]; exact hx]
      exact dn_bind (dn_szClaimFoe x (h x hm) b b0 b1) (fun q hq => dn_ite (fun _ => dn_ret (by omega)) (fun c => dn_le (ih q (by omega) (by have := hq (by omega); omega)) (by have := hq (by omega); omega)))))))
  have w : wrap64 (a - (l.length : Int)) = a - (l.length : Int) := by unfold wrap64; omega
  unfold laws_szClaimFoeS.f
  rw [w]
  exact dn_ite (fun _ => dn_ret (by omega)) (fun c => dn_le (key _ (by omega) (by omega)) (by omega))
theorem dn_szStringS (l : List ByteArray) (hl : l.length ≤ 140737488351232) (h : ∀ z ∈ l, z.size ≤ 140737488351232) (a : Int) (a0 : 0 ≤ a) (a1 : a ≤ 1048576) : Dn (fun k => laws_szStringS.f k l a) (16 * (l.length : Int)) a := by
  have key := loopL ByteArray.empty l (P := fun i r => ∀ b : Int, 0 ≤ b → b ≤ 1048576 → Dn (fun k => laws_szStringS.l0 k l b (i : Int)) (0) b)
    (fun b _ _ => dn_step (fun k => by rw [laws_szStringS.l0]) (dn_neg (by omega) (dn_ret (by omega))))
    (fun i x r hi hx hm _ ih b b0 b1 => dn_step (fun k => by rw [laws_szStringS.l0]) (dn_pos (by omega) (dn_pos (by omega) (by
      rw [wsucc hi (by omega), show rdOf ByteArray.empty l (i : Int) = x from by rw [rdOf_nat]; exact hx]
      have hs := h x hm
      have w : wrap64 (b - (x.size : Int)) = b - (x.size : Int) := by unfold wrap64; omega
      rw [w]
      exact dn_ite (fun _ => dn_ret (by omega)) (fun c => dn_le (ih _ (by omega) (by omega)) (by omega))))))
  have w : wrap64 (a - (l.length : Int)) = a - (l.length : Int) := by unfold wrap64; omega
  unfold laws_szStringS.f
  rw [w]
  exact dn_ite (fun _ => dn_ret (by omega)) (fun c => dn_le (key _ (by omega) (by omega)) (by omega))
def te_laws_ClaimSpot (x : S_laws_ClaimSpot) : Int := 16 * (x.f4.length : Int)
theorem te_laws_ClaimSpot_pos (x : S_laws_ClaimSpot) : 0 ≤ te_laws_ClaimSpot x := by unfold te_laws_ClaimSpot; omega
def tes_laws_ClaimSpot : List S_laws_ClaimSpot → Int
  | [] => 0
  | x :: r => te_laws_ClaimSpot x + tes_laws_ClaimSpot r
theorem tes_laws_ClaimSpot_pos : ∀ l : List S_laws_ClaimSpot, 0 ≤ tes_laws_ClaimSpot l
  | [] => by simp [tes_laws_ClaimSpot]
  | x :: r => by have := te_laws_ClaimSpot_pos x; have := tes_laws_ClaimSpot_pos r; unfold tes_laws_ClaimSpot; omega
theorem dn_szClaimSpot (x : S_laws_ClaimSpot) (h : ok_laws_ClaimSpot x) (a : Int) (a0 : 0 ≤ a) (a1 : a ≤ 1048576) : Dn (fun k => laws_szClaimSpot.f k x.f0 x.f1 x.f2 x.f3 x.f4 a) (te_laws_ClaimSpot x) a := by
  have h_0 := h.1
  have h_1 := h.2.1
  have h_2 := h.2.2.1
  have h_3 := h.2.2.2.1
  have h_4 := h.2.2.2.2
  unfold laws_szClaimSpot.f
  repeat' (first
    | with_reducible refine dn_bind (dn_szStringS x.f4 (by have := h_4.1; omega) h_4.2 _ (by (try unfold wrap64 at *); omega) (by (try unfold wrap64 at *); omega)) (fun q hq => ?_)
    | with_reducible exact dn_ret (by intro; omega)
    | with_reducible refine dn_ite (fun c => ?_) (fun c => ?_)
    | with_reducible exact dn_ret (by intro; simp only [te_laws_ClaimSpot] at *; (try unfold wrap64 at *); omega)
    | with_reducible exact dn_ret (by intro; simp only [te_laws_ClaimSpot] at *; omega))
theorem dn_szClaimSpotS (l : List S_laws_ClaimSpot) (hl : l.length ≤ 140737488351232) (h : ∀ z ∈ l, ok_laws_ClaimSpot z) (a : Int) (a0 : 0 ≤ a) (a1 : a ≤ 1048576) : Dn (fun k => laws_szClaimSpotS.f k l a) (16 * (l.length : Int) + tes_laws_ClaimSpot l) a := by
  have key := loopL z_laws_ClaimSpot l (P := fun i r => ∀ b : Int, 0 ≤ b → b ≤ 1048576 → Dn (fun k => laws_szClaimSpotS.l0 k l b (i : Int)) (tes_laws_ClaimSpot r) b)
    (fun b _ _ => dn_step (fun k => by rw [laws_szClaimSpotS.l0]) (dn_neg (by omega) (dn_ret (by simp [tes_laws_ClaimSpot]))))
    (fun i x r hi hx hm _ ih b b0 b1 => dn_step (fun k => by rw [laws_szClaimSpotS.l0]) (dn_pos (by omega) (dn_pos (by omega) (by
      rw [wsucc hi (by omega), show rd_laws_ClaimSpot l (i : Int) = x from by unfold rd_laws_ClaimSpot; rw [Int.toNat_natCast]; exact hx]
      have := te_laws_ClaimSpot_pos x
      simp only [tes_laws_ClaimSpot]
      exact dn_bind (dn_szClaimSpot x (h x hm) b b0 b1) (fun q hq => dn_ite (fun _ => dn_ret (by omega)) (fun c => dn_le (ih q (by omega) (by have := hq (by omega); omega)) (by have := hq (by omega); omega)))))))
  have w : wrap64 (a - (l.length : Int)) = a - (l.length : Int) := by unfold wrap64; omega
  unfold laws_szClaimSpotS.f
  rw [w]
  exact dn_ite (fun _ => dn_ret (by omega)) (fun c => dn_le (key _ (by omega) (by omega)) (by omega))
theorem dn_szClaimUse (x : S_laws_ClaimUse) (h : ok_laws_ClaimUse x) (a : Int) (a0 : 0 ≤ a) (a1 : a ≤ 1048576) : Dn (fun k => laws_szClaimUse.f x.f0 x.f1 x.f2 a) (0) a := by
  have h_0 := h.1
  have h_1 := h.2.1
  have h_2 := h.2.2
  unfold laws_szClaimUse.f
  repeat' (first
    | with_reducible exact dn_ret (by intro; omega)
    | with_reducible refine dn_ite (fun c => ?_) (fun c => ?_)
    | with_reducible exact dn_ret (by intro; (try unfold wrap64 at *); omega)
    | with_reducible exact dn_ret (by intro; omega))
theorem dn_szClaimUseS (l : List S_laws_ClaimUse) (hl : l.length ≤ 140737488351232) (h : ∀ z ∈ l, ok_laws_ClaimUse z) (a : Int) (a0 : 0 ≤ a) (a1 : a ≤ 1048576) : Dn (fun k => laws_szClaimUseS.f k l a) (16 * (l.length : Int)) a := by
  have key := loopL z_laws_ClaimUse l (P := fun i r => ∀ b : Int, 0 ≤ b → b ≤ 1048576 → Dn (fun k => laws_szClaimUseS.l0 k l b (i : Int)) (0) b)
    (fun b _ _ => dn_step (fun k => by rw [laws_szClaimUseS.l0]) (dn_neg (by omega) (dn_ret (by omega))))
    (fun i x r hi hx hm _ ih b b0 b1 => dn_step (fun k => by rw [laws_szClaimUseS.l0]) (dn_pos (by omega) (dn_pos (by omega) (by
      rw [wsucc hi (by omega), show rd_laws_ClaimUse l (i : Int) = x from by unfold rd_laws_ClaimUse; rw [Int.toNat_natCast]; exact hx]
      exact dn_bind (dn_szClaimUse x (h x hm) b b0 b1) (fun q hq => dn_ite (fun _ => dn_ret (by omega)) (fun c => dn_le (ih q (by omega) (by have := hq (by omega); omega)) (by have := hq (by omega); omega)))))))
  have w : wrap64 (a - (l.length : Int)) = a - (l.length : Int) := by unfold wrap64; omega
  unfold laws_szClaimUseS.f
  rw [w]
  exact dn_ite (fun _ => dn_ret (by omega)) (fun c => dn_le (key _ (by omega) (by omega)) (by omega))
def te_laws_ClaimWant (x : S_laws_ClaimWant) : Int := 16 * (x.f2.length : Int) + 16 * (x.f3.length : Int) + 16 * (x.f4.length : Int) + 16 * (x.f5.length : Int)
theorem te_laws_ClaimWant_pos (x : S_laws_ClaimWant) : 0 ≤ te_laws_ClaimWant x := by unfold te_laws_ClaimWant; omega
def tes_laws_ClaimWant : List S_laws_ClaimWant → Int
  | [] => 0
  | x :: r => te_laws_ClaimWant x + tes_laws_ClaimWant r
theorem tes_laws_ClaimWant_pos : ∀ l : List S_laws_ClaimWant, 0 ≤ tes_laws_ClaimWant l
  | [] => by simp [tes_laws_ClaimWant]
  | x :: r => by have := te_laws_ClaimWant_pos x; have := tes_laws_ClaimWant_pos r; unfold tes_laws_ClaimWant; omega
theorem dn_szClaimWant (x : S_laws_ClaimWant) (h : ok_laws_ClaimWant x) (a : Int) (a0 : 0 ≤ a) (a1 : a ≤ 1048576) : Dn (fun k => laws_szClaimWant.f k x.f0 x.f1 x.f2 x.f3 x.f4 x.f5 a) (te_laws_ClaimWant x) a := by
  have h_0 := h.1
  have h_1 := h.2.1
  have h_2 := h.2.2.1
  have h_3 := h.2.2.2.1
  have h_4 := h.2.2.2.2.1
  have h_5 := h.2.2.2.2.2
  unfold laws_szClaimWant.f
  repeat' (first
    | with_reducible refine dn_bind (dn_szStringS x.f2 (by have := h_2.1; omega) h_2.2 _ (by (try unfold wrap64 at *); omega) (by (try unfold wrap64 at *); omega)) (fun q hq => ?_)
    | with_reducible refine dn_bind (dn_szClaimUseS x.f3 (by have := h_3.1; omega) h_3.2 _ (by (try unfold wrap64 at *); omega) (by (try unfold wrap64 at *); omega)) (fun q hq => ?_)
    | with_reducible refine dn_bind (dn_szStringS x.f4 (by have := h_4.1; omega) h_4.2 _ (by (try unfold wrap64 at *); omega) (by (try unfold wrap64 at *); omega)) (fun q hq => ?_)
    | with_reducible refine dn_bind (dn_szStringS x.f5 (by have := h_5.1; omega) h_5.2 _ (by (try unfold wrap64 at *); omega) (by (try unfold wrap64 at *); omega)) (fun q hq => ?_)
    | with_reducible exact dn_ret (by intro; omega)
    | with_reducible refine dn_ite (fun c => ?_) (fun c => ?_)
    | with_reducible exact dn_ret (by intro; simp only [te_laws_ClaimWant] at *; (try unfold wrap64 at *); omega)
    | with_reducible exact dn_ret (by intro; simp only [te_laws_ClaimWant] at *; omega))
def te_laws_ClaimPart (x : S_laws_ClaimPart) : Int := 16 * (x.f0.f2.length : Int) + 16 * (x.f0.f3.length : Int) + 16 * (x.f0.f4.length : Int) + 16 * (x.f0.f5.length : Int)
theorem te_laws_ClaimPart_pos (x : S_laws_ClaimPart) : 0 ≤ te_laws_ClaimPart x := by unfold te_laws_ClaimPart; omega
def tes_laws_ClaimPart : List S_laws_ClaimPart → Int
  | [] => 0
  | x :: r => te_laws_ClaimPart x + tes_laws_ClaimPart r
theorem tes_laws_ClaimPart_pos : ∀ l : List S_laws_ClaimPart, 0 ≤ tes_laws_ClaimPart l
  | [] => by simp [tes_laws_ClaimPart]
  | x :: r => by have := te_laws_ClaimPart_pos x; have := tes_laws_ClaimPart_pos r; unfold tes_laws_ClaimPart; omega
theorem dn_szClaimPart (x : S_laws_ClaimPart) (h : ok_laws_ClaimPart x) (a : Int) (a0 : 0 ≤ a) (a1 : a ≤ 1048576) : Dn (fun k => laws_szClaimPart.f k x.f0.f0 x.f0.f1 x.f0.f2 x.f0.f3 x.f0.f4 x.f0.f5 x.f1 a) (te_laws_ClaimPart x) a := by
  have h_0 := h.1
  have h_0_0 := h_0.1
  have h_0_1 := h_0.2.1
  have h_0_2 := h_0.2.2.1
  have h_0_3 := h_0.2.2.2.1
  have h_0_4 := h_0.2.2.2.2.1
  have h_0_5 := h_0.2.2.2.2.2
  have h_1 := h.2
  unfold laws_szClaimPart.f
  repeat' (first
    | with_reducible refine dn_bind (dn_szStringS x.f0.f2 (by have := h_0_2.1; omega) h_0_2.2 _ (by (try unfold wrap64 at *); omega) (by (try unfold wrap64 at *); omega)) (fun q hq => ?_)
    | with_reducible refine dn_bind (dn_szClaimUseS x.f0.f3 (by have := h_0_3.1; omega) h_0_3.2 _ (by (try unfold wrap64 at *); omega) (by (try unfold wrap64 at *); omega)) (fun q hq => ?_)
    | with_reducible refine dn_bind (dn_szStringS x.f0.f4 (by have := h_0_4.1; omega) h_0_4.2 _ (by (try unfold wrap64 at *); omega) (by (try unfold wrap64 at *); omega)) (fun q hq => ?_)
    | with_reducible refine dn_bind (dn_szStringS x.f0.f5 (by have := h_0_5.1; omega) h_0_5.2 _ (by (try unfold wrap64 at *); omega) (by (try unfold wrap64 at *); omega)) (fun q hq => ?_)
    | with_reducible refine dn_bind (dn_szClaimWant x.f0 h_0 _ (by (try unfold wrap64 at *); omega) (by (try unfold wrap64 at *); omega)) (fun q hq => ?_)
    | with_reducible exact dn_ret (by intro; omega)
    | with_reducible refine dn_ite (fun c => ?_) (fun c => ?_)
    | with_reducible exact dn_ret (by intro; simp only [te_laws_ClaimPart, te_laws_ClaimWant] at *; (try unfold wrap64 at *); omega)
    | with_reducible exact dn_ret (by intro; simp only [te_laws_ClaimPart, te_laws_ClaimWant] at *; omega))
theorem dn_szClaimPartS (l : List S_laws_ClaimPart) (hl : l.length ≤ 140737488351232) (h : ∀ z ∈ l, ok_laws_ClaimPart z) (a : Int) (a0 : 0 ≤ a) (a1 : a ≤ 1048576) : Dn (fun k => laws_szClaimPartS.f k l a) (16 * (l.length : Int) + tes_laws_ClaimPart l) a := by
  have key := loopL z_laws_ClaimPart l (P := fun i r => ∀ b : Int, 0 ≤ b → b ≤ 1048576 → Dn (fun k => laws_szClaimPartS.l0 k l b (i : Int)) (tes_laws_ClaimPart r) b)
    (fun b _ _ => dn_step (fun k => by rw [laws_szClaimPartS.l0]) (dn_neg (by omega) (dn_ret (by simp [tes_laws_ClaimPart]))))
    (fun i x r hi hx hm _ ih b b0 b1 => dn_step (fun k => by rw [laws_szClaimPartS.l0]) (dn_pos (by omega) (dn_pos (by omega) (by
      rw [wsucc hi (by omega), show rd_laws_ClaimPart l (i : Int) = x from by unfold rd_laws_ClaimPart; rw [Int.toNat_natCast]; exact hx]
      have := te_laws_ClaimPart_pos x
      simp only [tes_laws_ClaimPart]
      exact dn_bind (dn_szClaimPart x (h x hm) b b0 b1) (fun q hq => dn_ite (fun _ => dn_ret (by omega)) (fun c => dn_le (ih q (by omega) (by have := hq (by omega); omega)) (by have := hq (by omega); omega)))))))
  have w : wrap64 (a - (l.length : Int)) = a - (l.length : Int) := by unfold wrap64; omega
  unfold laws_szClaimPartS.f
  rw [w]
  exact dn_ite (fun _ => dn_ret (by omega)) (fun c => dn_le (key _ (by omega) (by omega)) (by omega))
def te_laws_ClaimBook (x : S_laws_ClaimBook) : Int := 16 * (x.f0.length : Int) + 16 * (x.f1.length : Int) + 16 * (x.f2.length : Int) + 16 * (x.f3.length : Int)
theorem te_laws_ClaimBook_pos (x : S_laws_ClaimBook) : 0 ≤ te_laws_ClaimBook x := by unfold te_laws_ClaimBook; omega
def tes_laws_ClaimBook : List S_laws_ClaimBook → Int
  | [] => 0
  | x :: r => te_laws_ClaimBook x + tes_laws_ClaimBook r
theorem tes_laws_ClaimBook_pos : ∀ l : List S_laws_ClaimBook, 0 ≤ tes_laws_ClaimBook l
  | [] => by simp [tes_laws_ClaimBook]
  | x :: r => by have := te_laws_ClaimBook_pos x; have := tes_laws_ClaimBook_pos r; unfold tes_laws_ClaimBook; omega
theorem dn_szClaimBook (x : S_laws_ClaimBook) (h : ok_laws_ClaimBook x) (a : Int) (a0 : 0 ≤ a) (a1 : a ≤ 1048576) : Dn (fun k => laws_szClaimBook.f k x.f0 x.f1 x.f2 x.f3 x.f4 a) (16 * (x.f0.length : Int) + 16 * (x.f1.length : Int) + tes_laws_ClaimSpot x.f1 + 16 * (x.f2.length : Int) + 16 * (x.f3.length : Int) + tes_laws_ClaimPart x.f3) a := by
  have h_0 := h.1
  have h_1 := h.2.1
  have h_2 := h.2.2.1
  have h_3 := h.2.2.2.1
  have h_4 := h.2.2.2.2
  have := tes_laws_ClaimSpot_pos x.f1
  have := tes_laws_ClaimPart_pos x.f3
  unfold laws_szClaimBook.f
  repeat' (first
    | with_reducible refine dn_bind (dn_szClaimFoeS x.f0 (by have := h_0.1; omega) h_0.2 _ (by (try unfold wrap64 at *); omega) (by (try unfold wrap64 at *); omega)) (fun q hq => ?_)
    | with_reducible refine dn_bind (dn_szClaimSpotS x.f1 (by have := h_1.1; omega) h_1.2 _ (by (try unfold wrap64 at *); omega) (by (try unfold wrap64 at *); omega)) (fun q hq => ?_)
    | with_reducible refine dn_bind (dn_szStringS x.f2 (by have := h_2.1; omega) h_2.2 _ (by (try unfold wrap64 at *); omega) (by (try unfold wrap64 at *); omega)) (fun q hq => ?_)
    | with_reducible refine dn_bind (dn_szClaimPartS x.f3 (by have := h_3.1; omega) h_3.2 _ (by (try unfold wrap64 at *); omega) (by (try unfold wrap64 at *); omega)) (fun q hq => ?_)
    | with_reducible exact dn_ret (by intro; omega)
    | with_reducible refine dn_ite (fun c => ?_) (fun c => ?_)
    | with_reducible exact dn_ret (by intro; (try unfold wrap64 at *); omega)
    | with_reducible exact dn_ret (by intro; omega))
def te_impl_ClaimSpot (x : S_impl_ClaimSpot) : Int := 16 * (x.f4.length : Int)
theorem te_impl_ClaimSpot_pos (x : S_impl_ClaimSpot) : 0 ≤ te_impl_ClaimSpot x := by unfold te_impl_ClaimSpot; omega
def tes_impl_ClaimSpot : List S_impl_ClaimSpot → Int
  | [] => 0
  | x :: r => te_impl_ClaimSpot x + tes_impl_ClaimSpot r
theorem tes_impl_ClaimSpot_pos : ∀ l : List S_impl_ClaimSpot, 0 ≤ tes_impl_ClaimSpot l
  | [] => by simp [tes_impl_ClaimSpot]
  | x :: r => by have := te_impl_ClaimSpot_pos x; have := tes_impl_ClaimSpot_pos r; unfold tes_impl_ClaimSpot; omega
theorem mk_markClaimSpotS (l : List S_impl_ClaimSpot) (hl : l.length ≤ 1000000000) (a : Int) (a0 : 0 ≤ a) (a1 : a + (16 * (l.length : Int) + tes_impl_ClaimSpot l) ≤ 1000000000) : Mk (fun k => laws_markClaimSpotS.f k l a) a (16 * (l.length : Int) + tes_impl_ClaimSpot l) := by
  have key := loopL z_impl_ClaimSpot l (P := fun i r => ∀ (y : List S_impl_ClaimSpot) (b : Int), y.length = l.length → y.drop i = r → 0 ≤ b → b + (16 * (r.length : Int) + tes_impl_ClaimSpot r) ≤ 1000000000 → Mk (fun k => laws_markClaimSpotS.l0 k l b (i : Int) y) b (16 * (r.length : Int) + tes_impl_ClaimSpot r))
    (fun y b h1 h2 h3 h4 => mk_step (fun k => by rw [laws_markClaimSpotS.l0]) (mk_pos h1 (mk_neg (by omega) (mk_ret (Int.le_refl _) (by simp [tes_impl_ClaimSpot])))))
    (fun i x r hi hx hm _ ih y b h1 h2 h3 h4 => by
      have hr : rd_impl_ClaimSpot y (i : Int) = x := by unfold rd_impl_ClaimSpot; rw [Int.toNat_natCast]; exact drop_get h2
      have hp := tes_impl_ClaimSpot_pos r
      simp only [tes_impl_ClaimSpot, te_impl_ClaimSpot, List.length_cons] at h4 ⊢
      refine mk_step (fun k => by rw [laws_markClaimSpotS.l0]) (mk_pos h1 (mk_pos (by omega) ?_))
      rw [wsucc hi (by omega), hr, Int.toNat_natCast]
      have w1 : wrap64 (b + 1) = b + 1 := by unfold wrap64; omega
      have w2 : wrap64 (b + 1 + 1) = b + 1 + 1 := by unfold wrap64; omega
      have w3 : wrap64 (b + 1 + 1 + 1) = b + 1 + 1 + 1 := by unfold wrap64; omega
      have w4 : wrap64 (b + 1 + 1 + 1 + 1) = b + 1 + 1 + 1 + 1 := by unfold wrap64; omega
      have w5 : wrap64 (b + 1 + 1 + 1 + 1 + 1) = b + 1 + 1 + 1 + 1 + 1 := by unfold wrap64; omega
      simp only [w1, w2, w3, w4, w5]
      repeat' (first | with_reducible refine mk_ev (markStringS_ev x.f4 _ (by omega) (by omega) (by omega)) ?_ | with_reducible refine mk_ev (markText_ev _ (by omega)) ?_ | with_reducible refine mk_pos (by omega) ?_)
      refine mk_le (ih _ _ (by simpa using h1) (drop_next h2) ?_ ?_) ?_ ?_ <;> (try unfold wrap64) <;> omega)
  unfold laws_markClaimSpotS.f
  exact key l a rfl rfl a0 a1
def te_impl_ClaimPart (x : S_impl_ClaimPart) : Int := 16 * (x.f0.f2.length : Int) + 16 * (x.f0.f3.length : Int) + 16 * (x.f0.f4.length : Int) + 16 * (x.f0.f5.length : Int)
theorem te_impl_ClaimPart_pos (x : S_impl_ClaimPart) : 0 ≤ te_impl_ClaimPart x := by unfold te_impl_ClaimPart; omega
def tes_impl_ClaimPart : List S_impl_ClaimPart → Int
  | [] => 0
  | x :: r => te_impl_ClaimPart x + tes_impl_ClaimPart r
theorem tes_impl_ClaimPart_pos : ∀ l : List S_impl_ClaimPart, 0 ≤ tes_impl_ClaimPart l
  | [] => by simp [tes_impl_ClaimPart]
  | x :: r => by have := te_impl_ClaimPart_pos x; have := tes_impl_ClaimPart_pos r; unfold tes_impl_ClaimPart; omega
theorem mk_markClaimPartS (l : List S_impl_ClaimPart) (hl : l.length ≤ 1000000000) (a : Int) (a0 : 0 ≤ a) (a1 : a + (16 * (l.length : Int) + tes_impl_ClaimPart l) ≤ 1000000000) : Mk (fun k => laws_markClaimPartS.f k l a) a (16 * (l.length : Int) + tes_impl_ClaimPart l) := by
  have key := loopL z_impl_ClaimPart l (P := fun i r => ∀ (y : List S_impl_ClaimPart) (b : Int), y.length = l.length → y.drop i = r → 0 ≤ b → b + (16 * (r.length : Int) + tes_impl_ClaimPart r) ≤ 1000000000 → Mk (fun k => laws_markClaimPartS.l0 k l b (i : Int) y) b (16 * (r.length : Int) + tes_impl_ClaimPart r))
    (fun y b h1 h2 h3 h4 => mk_step (fun k => by rw [laws_markClaimPartS.l0]) (mk_pos h1 (mk_neg (by omega) (mk_ret (Int.le_refl _) (by simp [tes_impl_ClaimPart])))))
    (fun i x r hi hx hm _ ih y b h1 h2 h3 h4 => by
      have hr : rd_impl_ClaimPart y (i : Int) = x := by unfold rd_impl_ClaimPart; rw [Int.toNat_natCast]; exact drop_get h2
      have hp := tes_impl_ClaimPart_pos r
      simp only [tes_impl_ClaimPart, te_impl_ClaimPart, List.length_cons] at h4 ⊢
      refine mk_step (fun k => by rw [laws_markClaimPartS.l0]) (mk_pos h1 (mk_pos (by omega) ?_))
      rw [wsucc hi (by omega), hr, Int.toNat_natCast]
      have w1 : wrap64 (b + 1) = b + 1 := by unfold wrap64; omega
      have w2 : wrap64 (b + 1 + 1) = b + 1 + 1 := by unfold wrap64; omega
      have w3 : wrap64 (b + 1 + 1 + 1) = b + 1 + 1 + 1 := by unfold wrap64; omega
      have w4 : wrap64 (b + 1 + 1 + 1 + 1) = b + 1 + 1 + 1 + 1 := by unfold wrap64; omega
      have w5 : wrap64 (b + 1 + 1 + 1 + 1 + 1) = b + 1 + 1 + 1 + 1 + 1 := by unfold wrap64; omega
      have w6 : wrap64 (b + 1 + 1 + 1 + 1 + 1 + 1) = b + 1 + 1 + 1 + 1 + 1 + 1 := by unfold wrap64; omega
      have w7 : wrap64 (b + 1 + 1 + 1 + 1 + 1 + 1 + 1) = b + 1 + 1 + 1 + 1 + 1 + 1 + 1 := by unfold wrap64; omega
      simp only [w1, w2, w3, w4, w5, w6, w7]
      repeat' (first | with_reducible refine mk_ev (markStringS_ev x.f0.f2 _ (by omega) (by omega) (by omega)) ?_ | with_reducible refine mk_ev (markClaimUseS_ev x.f0.f3 _ (by omega) (by omega) (by omega)) ?_ | with_reducible refine mk_ev (markStringS_ev x.f0.f4 _ (by omega) (by omega) (by omega)) ?_ | with_reducible refine mk_ev (markStringS_ev x.f0.f5 _ (by omega) (by omega) (by omega)) ?_ | with_reducible refine mk_ev (markText_ev _ (by omega)) ?_ | with_reducible refine mk_pos (by omega) ?_)
      refine mk_le (ih _ _ (by simpa using h1) (drop_next h2) ?_ ?_) ?_ ?_ <;> (try unfold wrap64) <;> omega)
  unfold laws_markClaimPartS.f
  exact key l a rfl rfl a0 a1
theorem mk_markClaimBook (x0 : List S_impl_ClaimFoe) (x1 : List S_impl_ClaimSpot) (x2 : List ByteArray) (x3 : List S_impl_ClaimPart) (x4 : Int) (a : Int) (a0 : 0 ≤ a) (h0 : x0.length ≤ 1000000000) (h1 : x1.length ≤ 1000000000) (h2 : x2.length ≤ 1000000000) (h3 : x3.length ≤ 1000000000) (a1 : a + (16 * (x0.length : Int) + 16 * (x1.length : Int) + tes_impl_ClaimSpot x1 + 16 * (x2.length : Int) + 16 * (x3.length : Int) + tes_impl_ClaimPart x3) ≤ 1000000000) : Mk (fun k => laws_markClaimBook.f k x0 x1 x2 x3 x4 a) a (16 * (x0.length : Int) + 16 * (x1.length : Int) + tes_impl_ClaimSpot x1 + 16 * (x2.length : Int) + 16 * (x3.length : Int) + tes_impl_ClaimPart x3) := by
  have := tes_impl_ClaimSpot_pos x1
  have := tes_impl_ClaimPart_pos x3
  unfold laws_markClaimBook.f
  refine mk_ev (markClaimFoeS_ev x0 _ (by omega) (by omega) (by omega)) ?_
  refine mk_bind (mk_markClaimSpotS x1 (by omega) _ (by omega) (by omega)) (fun v1 g1 k1 => ?_)
  refine mk_ev (markStringS_ev x2 _ (by omega) (by omega) (by omega)) ?_
  refine mk_bind (mk_markClaimPartS x3 (by omega) _ (by omega) (by omega)) (fun v3 g3 k3 => ?_)
  exact mk_ret (by first | omega | (dsimp only; omega)) (by first | omega | (dsimp only; omega))
theorem tes_laws_ClaimPart_cv : ∀ l : List S_laws_ClaimPart, tes_impl_ClaimPart (l.map cv_laws_ClaimPart) = tes_laws_ClaimPart l
  | [] => rfl
  | x :: r => by
    have ih := tes_laws_ClaimPart_cv r
    have e : te_impl_ClaimPart (cv_laws_ClaimPart x) = te_laws_ClaimPart x := by simp [te_impl_ClaimPart, te_laws_ClaimPart, cv_laws_ClaimPart, cv_laws_ClaimWant]
    simp only [List.map_cons, tes_impl_ClaimPart, tes_laws_ClaimPart, ih, e]
theorem tes_laws_ClaimSpot_cv : ∀ l : List S_laws_ClaimSpot, tes_impl_ClaimSpot (l.map cv_laws_ClaimSpot) = tes_laws_ClaimSpot l
  | [] => rfl
  | x :: r => by
    have ih := tes_laws_ClaimSpot_cv r
    have e : te_impl_ClaimSpot (cv_laws_ClaimSpot x) = te_laws_ClaimSpot x := by simp [te_impl_ClaimSpot, te_laws_ClaimSpot, cv_laws_ClaimSpot]
    simp only [List.map_cons, tes_impl_ClaimSpot, tes_laws_ClaimSpot, ih, e]
/-! ### names -/
theorem ev_b {α : Type} {b : Bool} {g f : Nat → Option α} {r : α} (h : b = true → Ev g r) (k : b = false → Ev f r) : Ev (fun n => if b = true then g n else f n) r := by
  cases b
  · exact ev_neg (by simp) (k rfl)
  · exact ev_pos rfl (h rfl)
/-- a yes or no that is asked -/
theorem ev_ask {α : Type} {o g f : Nat → Option α} {q : Nat → Option Bool} {b : Bool} {r : α} (hq : Ev q b) (h : b = true → Ev g r) (k : b = false → Ev f r) : Ev (fun n => (q n).bind fun t => if t = true then g n else f n) r := Ev.bind (f := fun n t => if t = true then g n else f n) hq (ev_b h k)
def okc (c : Int) : Bool := (decide (97 ≤ c) && decide (c ≤ 122)) || ((decide (48 ≤ c) && decide (c ≤ 57)) || decide (c = 45))
theorem okc_t {c : Int} (h : 97 ≤ c ∧ c ≤ 122 ∨ 48 ≤ c ∧ c ≤ 57 ∨ c = 45) : okc c = true := by simp [okc]; omega
theorem okc_f {c : Int} (h : ¬ (97 ≤ c ∧ c ≤ 122 ∨ 48 ≤ c ∧ c ≤ 57 ∨ c = 45)) : okc c = false := by
  rw [← Bool.not_eq_true]; intro q; apply h; simp [okc] at q; omega
def allFrom (s : ByteArray) (i : Nat) : Bool := decide (∀ j, j < s.size → i ≤ j → okc (bt s (j : Int)) = true)
theorem allFrom_step (s : ByteArray) (i : Nat) (h : i < s.size) : allFrom s i = (okc (bt s (i : Int)) && allFrom s (i + 1)) := by
  unfold allFrom
  rw [Bool.eq_iff_iff, Bool.and_eq_true, decide_eq_true_iff, decide_eq_true_iff]
  refine ⟨fun q => ⟨q i h (Nat.le_refl _), fun j hj hi => q j hj (by omega)⟩, fun q j hj hi => ?_⟩
  by_cases e : j = i
  · rw [e]; exact q.1
  · exact q.2 j hj (by omega)
theorem allFrom_end (s : ByteArray) : allFrom s s.size = true := by
  unfold allFrom
  rw [decide_eq_true_iff]
  intro j hj hi; omega
def nameB (s : ByteArray) : Bool := decide (1 ≤ s.size ∧ s.size ≤ 8) && allFrom s 0
/-- a walk over the places of a text -/
theorem loopN (n : Nat) {P : Nat → Prop} (h0 : P n) (hs : ∀ i, i < n → P (i + 1) → P i) : P 0 := by
  have key : ∀ (m i : Nat), i + m = n → P i := fun m => by
    induction m with
    | zero => intro i hi; have e : i = n := by omega
              subst e; exact h0
    | succ m ih => intro i hi; exact hs i (by omega) (ih (i + 1) (by omega))
  exact key n 0 (by omega)
/-- each before the next -/
def chainB {α : Type} (p : α → α → Bool) : Option α → List α → Bool
  | _, [] => true
  | none, x :: r => chainB p (some x) r
  | some y, x :: r => p y x && chainB p (some x) r
def namesB (l : List ByteArray) : Bool := l.all nameB && chainB lt none l
def hasB (l : List ByteArray) (s : ByteArray) : Bool := l.any fun x => decide (x = s)
theorem hasB_iff {l : List ByteArray} {s : ByteArray} : hasB l s = true ↔ s ∈ l := by
  unfold hasB
  rw [List.any_eq_true]
  exact ⟨fun ⟨x, h, e⟩ => by simp at e; exact e ▸ h, fun h => ⟨s, h, by simp⟩⟩
def inB (a b c : Int) : Bool := decide (b ≤ a ∧ a ≤ c)
theorem inB_t {a b c : Int} (h : b ≤ a ∧ a ≤ c) : inB a b c = true := decide_eq_true h
theorem inB_f {a b c : Int} (h : ¬ (b ≤ a ∧ a ≤ c)) : inB a b c = false := decide_eq_false h
theorem l21In_ev (a b c : Int) : Ev (fun _ => spec_l21In.f a b c) (inB a b c) := by
  unfold spec_l21In.f inB
  refine ev_split (fun h => ev_ret (decide_eq_decide.2 (by omega))) (fun h => ev_ret ?_)
  symm; apply decide_eq_false; omega
theorem l21NameOk_ev (s : ByteArray) : Ev (fun k => spec_l21NameOk.f k s) (nameB s) := by
  unfold spec_l21NameOk.f nameB
  refine Ev.bind (l21In_ev _ _ _) (ev_b (fun h => ?_) (fun h => ev_ret ?_))
  · have hs : 1 ≤ s.size ∧ s.size ≤ 8 := by have : inB _ _ _ = true := h; unfold inB at this; have := of_decide_eq_true this; omega
    rw [decide_eq_true hs, Bool.true_and]
    refine loopN s.size (P := fun i => Ev (fun k => spec_l21NameOk.l0 k s (i : Int)) (allFrom s i))
      (by refine Ev.step (fun k => by rw [spec_l21NameOk.l0]) ?_; exact ev_neg (by omega) (ev_ret (allFrom_end s).symm)) (fun i hi ih => ?_)
    refine Ev.step (fun k => by rw [spec_l21NameOk.l0]) (ev_pos (by omega) (ev_pos (by omega) ?_))
    rw [wsucc hi (by omega), allFrom_step s i hi]
    generalize bt s (i : Int) = c
    repeat' (first | (refine ev_split (fun _ => ?_) (fun _ => ?_)) | (rw [okc_t (by omega), Bool.true_and]; exact ih) | (rw [okc_f (by omega)]; exact ev_ret rfl))
  · have hs : ¬ (1 ≤ s.size ∧ s.size ≤ 8) := fun q => by have : inB _ _ _ = false := h; unfold inB at this; have := of_decide_eq_false this; omega
    rw [decide_eq_false hs]; rfl
theorem l21Has_ev (l : List ByteArray) (s : ByteArray) (hn : l.length ≤ 140737488351232) : Ev (fun k => spec_l21Has.f k l s) (hasB l s) := by
  unfold spec_l21Has.f hasB
  refine loopL ByteArray.empty l (P := fun i r => Ev (fun k => spec_l21Has.l0 k l s (i : Int)) (r.any fun x => decide (x = s)))
    (by refine Ev.step (fun k => by rw [spec_l21Has.l0]) ?_; exact ev_neg (by omega) (ev_ret rfl)) (fun i x r hi hx _ _ ih => ?_)
  refine Ev.step (fun k => by rw [spec_l21Has.l0]) (ev_pos (by omega) (ev_pos (by omega) ?_))
  rw [wsucc hi (by omega), rdOf_nat, hx]
  refine ev_split (fun c => ev_ret ?_) (fun c => ev_eq ih ?_)
  · simp [ba_iff.1 c]
  · simp [show ¬ x = s from fun e => c (ba_iff.2 e)]
theorem isName_ev (s : ByteArray) (hn : s.size ≤ 140737488351232) : Ev (fun k => impl_isName.f k s) (nameB s) := by
  unfold impl_isName.f nameB
  refine loopN s.size (P := fun i => Ev (fun k => impl_isName.l0 k s (i : Int)) (decide (1 ≤ s.size ∧ s.size ≤ 8) && allFrom s i))
    (by
      refine Ev.step (fun k => by rw [impl_isName.l0]) (ev_neg (by omega) ?_)
      rw [allFrom_end, Bool.and_true]
      refine ev_split (fun h => ev_ret (decide_eq_decide.2 (by omega))) (fun h => ev_ret ?_)
      symm; apply decide_eq_false; omega) (fun i hi ih => ?_)
  refine Ev.step (fun k => by rw [impl_isName.l0]) (ev_pos (by omega) (ev_pos (by omega) ?_))
  rw [wsucc hi (by omega), allFrom_step s i hi]
  generalize bt s (i : Int) = c
  repeat' (first | (refine ev_split (fun _ => ?_) (fun _ => ?_)) | (rw [okc_t (by omega), Bool.true_and]; exact ih) | (rw [okc_f (by omega), Bool.false_and, Bool.and_false]; exact ev_ret rfl))
theorem chain_none {α : Type} (p : α → α → Bool) (x : α) (r : List α) : chainB p none (x :: r) = chainB p (some x) r := rfl
theorem rising_ev (l : List ByteArray) (hn : l.length ≤ 140737488351232) : Ev (fun k => impl_rising.f k l) (chainB lt none l) := by
  unfold impl_rising.f
  have key : ∀ r i, l.drop (i + 1) = r → i < l.length → Ev (fun k => impl_rising.l0 k l ((i + 1 : Nat) : Int)) (chainB lt (some (l.getD i ByteArray.empty)) r) := fun r => by
    induction r with
    | nil =>
      intro i hd hi
      have : l.length ≤ i + 1 := List.drop_eq_nil_iff.1 hd
      refine Ev.step (fun k => by rw [impl_rising.l0]) ?_
      exact ev_neg (by omega) (ev_ret rfl)
    | cons x r ih =>
      intro i hd hi
      have hlt : i + 1 < l.length := by
        refine Nat.lt_of_not_le fun hle => ?_
        rw [List.drop_eq_nil_iff.2 hle] at hd; cases hd
      have e := List.drop_eq_getElem_cons hlt
      rw [hd] at e; injection e with e1 e2
      have hx : l.getD (i + 1) ByteArray.empty = x := by rw [getD_eq _ l _ hlt]; exact e1.symm
      refine Ev.step (fun k => by rw [impl_rising.l0]) (ev_pos (by omega) ?_)
      have hw : wrap64 (((i + 1 : Nat) : Int) - 1) = ((i : Nat) : Int) := by unfold wrap64; omega
      rw [hw, rdOf_nat, rdOf_nat, hx, wsucc hlt (by omega)]
      refine ev_pos (by omega) (ev_pos (by omega) (ev_pos (by omega) (ev_b (fun c => ?_) (fun c => ev_ret ?_))))
      · have c : lt (l.getD i ByteArray.empty) x = true := c
        have := ih (i + 1) e2.symm hlt
        rw [hx] at this
        simp only [chainB, c, Bool.true_and]; exact this
      · have c : lt (l.getD i ByteArray.empty) x = false := c
        simp only [chainB, c, Bool.false_and]
  cases l with
  | nil =>
    refine Ev.step (fun k => by rw [impl_rising.l0]) ?_
    exact ev_neg (show ¬ (1 : Int) < ((0 : Nat) : Int) by omega) (ev_ret rfl)
  | cons x r =>
    rw [chain_none]
    exact key r 0 rfl (by simp)
theorem names_ev (l : List ByteArray) (hn : l.length ≤ 140737488351232) (h : ∀ x ∈ l, x.size ≤ 140737488351232) : Ev (fun k => impl_names.f k l) (namesB l) := by
  unfold impl_names.f namesB
  refine loopL ByteArray.empty l (P := fun i r => Ev (fun k => impl_names.l0 k l (i : Int)) (r.all nameB && chainB lt none l))
    (by refine Ev.step (fun k => by rw [impl_names.l0]) ?_; exact ev_neg (by omega) (Ev.bind (rising_ev l hn) (ev_ret rfl))) (fun i x r hi hx hm _ ih => ?_)
  refine Ev.step (fun k => by rw [impl_names.l0]) (ev_pos (by omega) (ev_pos (by omega) ?_))
  rw [wsucc hi (by omega), rdOf_nat, hx]
  refine Ev.bind (isName_ev x (h x hm)) (ev_b (fun c => ?_) (fun c => ev_ret ?_))
  · simpa [c] using ih
  · simp [c]
theorem has_ev (l : List ByteArray) (s : ByteArray) (hn : l.length ≤ 140737488351232) : Ev (fun k => impl_has.f k l s) (hasB l s) := by
  have key : ∃ v : Int, (decide (v ≥ 0) = hasB l s) ∧ Ev (fun k => slices_Index_string_string.f k l s) v := by
    unfold slices_Index_string_string.f hasB
    refine loopL ByteArray.empty l (P := fun i r => ∃ v : Int, (decide (v ≥ 0) = r.any fun x => decide (x = s)) ∧ Ev (fun k => slices_Index_string_string.l0 k l s (i : Int)) v)
      ⟨-1, rfl, Ev.step (fun k => by rw [slices_Index_string_string.l0]) (ev_neg (by omega) (ev_ret rfl))⟩ (fun i x r hi hx _ _ ih => ?_)
    obtain ⟨v, hv, he⟩ := ih
    by_cases c : x = s
    · refine ⟨(i : Int), by simp [c], Ev.step (fun k => by rw [slices_Index_string_string.l0]) ?_⟩
      rw [rdOf_nat, hx]
      exact ev_pos (by omega) (ev_pos (by omega) (ev_pos (by rw [c]) (ev_ret rfl)))
    · refine ⟨v, by simpa [c] using hv, Ev.step (fun k => by rw [slices_Index_string_string.l0]) ?_⟩
      rw [rdOf_nat, hx, wsucc hi (by omega)]
      exact ev_pos (by omega) (ev_pos (by omega) (ev_neg (fun q => c (ba_ext q).symm) he))
  obtain ⟨v, hv, he⟩ := key
  unfold impl_has.f slices_Contains_string_string.f
  exact Ev.bind (Ev.bind he (ev_ret hv)) (ev_ret rfl)
/-! ### claims: what a valid book is -/
theorem befB_of {a0 a1 b0 b1 : ByteArray} (h : Op.bytesLess b0.toList a0.toList = false) : befB a0 a1 b0 b1 = (decide (a0 = b0 → Op.bytesLess a1.toList b1.toList = true)) := by
  unfold befB
  rcases lt_tri a0 b0 with c | c | c
  · rw [c, decide_eq_true (fun e => absurd e (lt_ne c))]; rfl
  · subst c; rw [lt_irr, decide_eq_true rfl]
    cases q : Op.bytesLess a1.toList b1.toList <;> simp [lt, q]
  · have : Op.bytesLess b0.toList a0.toList = true := c
    rw [h] at this; cases this
theorem befB_no {a0 a1 b0 b1 : ByteArray} (h : Op.bytesLess b0.toList a0.toList = true) : befB a0 a1 b0 b1 = false := by
  unfold befB
  rw [lt_asym h, decide_eq_false (fun e => lt_ne h e.symm)]; rfl
theorem rdCF (l : List S_impl_ClaimFoe) (i : Nat) : rd_impl_ClaimFoe l (i : Int) = l.getD i z_impl_ClaimFoe := by unfold rd_impl_ClaimFoe; rw [Int.toNat_natCast]
theorem rdCS (l : List S_impl_ClaimSpot) (i : Nat) : rd_impl_ClaimSpot l (i : Int) = l.getD i z_impl_ClaimSpot := by unfold rd_impl_ClaimSpot; rw [Int.toNat_natCast]
theorem rdCU (l : List S_impl_ClaimUse) (i : Nat) : rd_impl_ClaimUse l (i : Int) = l.getD i z_impl_ClaimUse := by unfold rd_impl_ClaimUse; rw [Int.toNat_natCast]
theorem rdCP (l : List S_impl_ClaimPart) (i : Nat) : rd_impl_ClaimPart l (i : Int) = l.getD i z_impl_ClaimPart := by unfold rd_impl_ClaimPart; rw [Int.toNat_natCast]
def foeLt (x y : S_impl_ClaimFoe) : Bool := befB x.f0 x.f1 y.f0 y.f1
def foeB (x : S_impl_ClaimFoe) : Bool := nameB x.f0 && (nameB x.f1 && lt x.f0 x.f1)
def foesB (f : List S_impl_ClaimFoe) : Bool := f.all foeB && chainB foeLt none f
def foeHas (f : List S_impl_ClaimFoe) (a b : ByteArray) : Bool := f.any fun x => (decide (x.f0 = a) && decide (x.f1 = b)) || (decide (x.f0 = b) && decide (x.f1 = a))
def clashB (f : List S_impl_ClaimFoe) (l m : List ByteArray) : Bool := l.any fun a => m.any (foeHas f a)
def upB (n : Nat) (l : List ByteArray) : Bool := decide (l.length ≤ n) && namesB l
def spotLt (x y : S_impl_ClaimSpot) : Bool := lt x.f0 y.f0
def spotB (f : List S_impl_ClaimFoe) (x : S_impl_ClaimSpot) : Bool := nameB x.f0 && (inB x.f1 0 1000 && (inB x.f2 0 x.f3 && (decide (x.f3 ≤ x.f1) && (upB 8 x.f4 && !clashB f x.f4 x.f4))))
def useLt (x y : S_impl_ClaimUse) : Bool := lt x.f0 y.f0
def useB (kd : Int) (x : S_impl_ClaimUse) : Bool := nameB x.f0 && (inB x.f1 1 3 && (if x.f1 = 3 then decide (x.f2 = 0) else decide (kd = 1) && inB x.f2 1 1000))
def usesB (kd : Int) (u : List S_impl_ClaimUse) : Bool := u.all (useB kd) && chainB useLt none u
def shareB (a b : List ByteArray) : Bool := a.any (hasB b)
theorem l22FoesOk_ev (f : List S_impl_ClaimFoe) (s : List S_impl_ClaimSpot) (n : List ByteArray) (p : List S_impl_ClaimPart) (m : Int) (hf : f.length ≤ 140737488351232) :
    Ev (fun k => spec_l22FoesOk.f k f s n p m) (decide (f.length ≤ 12) && foesB f) := by
  unfold spec_l22FoesOk.f
  refine ev_split (fun c => ev_ret (by rw [decide_eq_false (by omega : ¬ f.length ≤ 12)]; rfl)) (fun c => ?_)
  rw [decide_eq_true (by omega : f.length ≤ 12), Bool.true_and]
  refine loopL z_impl_ClaimFoe f (P := fun i r => Ev (fun k => spec_l22FoesOk.l0 k f (i : Int)) (r.all foeB && chainB foeLt (ahead z_impl_ClaimFoe f i) r))
    (by refine Ev.step (fun k => by rw [spec_l22FoesOk.l0]) ?_; exact ev_neg (by omega) (ev_ret rfl)) (fun i x r hi hx hm _ ih => ?_)
  refine Ev.step (fun k => by rw [spec_l22FoesOk.l0]) (ev_pos (by omega) (ev_pos (by omega) ?_))
  rw [wsucc hi (by omega), rdCF, hx]
  rw [ahead_succ, hx] at ih
  clear hx hm
  by_cases z : i = 0
  · subst z
    rw [ahead_zero]
    repeat' (first
      | with_reducible refine Ev.bind (l21NameOk_ev _) ?_
      | with_reducible refine ev_pos (by omega) ?_
      | with_reducible refine ev_neg (by omega) ?_
      | with_reducible refine ev_b (fun c => ?_) (fun c => ?_)
      | with_reducible refine ev_split (fun c => ?_) (fun c => ?_))
    all_goals (first
      | (with_reducible refine ev_ret ?_; simp_all [chainB, lt, ba_iff, foeB, foeLt]; done)
      | (with_reducible refine ev_eq (ih) ?_; simp_all [chainB, lt, ba_iff, foeB, foeLt]; done))
  · rw [pre64 z (by omega), rdCF, ahead_pos _ _ _ z]
    generalize f.getD (i - 1) z_impl_ClaimFoe = y
    have hb := @befB_of y.f0 y.f1 x.f0 x.f1
    have hc := @befB_no y.f0 y.f1 x.f0 x.f1
    repeat' (first
      | with_reducible refine Ev.bind (l21NameOk_ev _) ?_
      | with_reducible refine ev_pos (by omega) ?_
      | with_reducible refine ev_neg (by omega) ?_
      | with_reducible refine ev_b (fun c => ?_) (fun c => ?_)
      | with_reducible refine ev_split (fun c => ?_) (fun c => ?_))
    all_goals (first
      | (with_reducible refine ev_ret ?_; simp_all [chainB, lt, ba_iff, foeB, foeLt]; done)
      | (with_reducible refine ev_eq (ih) ?_; simp_all [chainB, lt, ba_iff, foeB, foeLt]; done))
theorem l21NamesOk_ev (l : List ByteArray) (a : Nat) (hl : l.length ≤ 140737488351232) : Ev (fun k => spec_l21NamesOk.f k l (a : Int)) (upB a l) := by
  unfold spec_l21NamesOk.f upB
  refine ev_split (fun c => ev_ret (by rw [decide_eq_false (by omega : ¬ l.length ≤ a)]; rfl)) (fun c => ?_)
  rw [decide_eq_true (by omega : l.length ≤ a), Bool.true_and]
  refine loopL ByteArray.empty l (P := fun i r => Ev (fun k => spec_l21NamesOk.l0 k l (i : Int)) (r.all nameB && chainB lt (ahead ByteArray.empty l i) r))
    (by refine Ev.step (fun k => by rw [spec_l21NamesOk.l0]) ?_; exact ev_neg (by omega) (ev_ret rfl)) (fun i x r hi hx hm _ ih => ?_)
  refine Ev.step (fun k => by rw [spec_l21NamesOk.l0]) (ev_pos (by omega) (ev_pos (by omega) ?_))
  rw [wsucc hi (by omega), rdOf_nat, hx]
  rw [ahead_succ, hx] at ih
  clear hx hm
  by_cases z : i = 0
  · subst z
    rw [ahead_zero]
    repeat' (first
      | with_reducible refine Ev.bind (l21NameOk_ev _) ?_
      | with_reducible refine ev_pos (by omega) ?_
      | with_reducible refine ev_neg (by omega) ?_
      | with_reducible refine ev_b (fun c => ?_) (fun c => ?_)
      | with_reducible refine ev_split (fun c => ?_) (fun c => ?_))
    all_goals (first
      | (with_reducible refine ev_ret ?_; simp_all [chainB, lt, ba_iff]; done)
      | (with_reducible refine ev_eq (ih) ?_; simp_all [chainB, lt, ba_iff]; done))
  · rw [pre64 z (by omega), rdOf_nat, ahead_pos _ _ _ z]
    generalize l.getD (i - 1) ByteArray.empty = y
    repeat' (first
      | with_reducible refine Ev.bind (l21NameOk_ev _) ?_
      | with_reducible refine ev_pos (by omega) ?_
      | with_reducible refine ev_neg (by omega) ?_
      | with_reducible refine ev_b (fun c => ?_) (fun c => ?_)
      | with_reducible refine ev_split (fun c => ?_) (fun c => ?_))
    all_goals (first
      | (with_reducible refine ev_ret ?_; simp_all [chainB, lt, ba_iff]; done)
      | (with_reducible refine ev_eq (ih) ?_; simp_all [chainB, lt, ba_iff]; done))
theorem l22Foes_ev (f : List S_impl_ClaimFoe) (s : List S_impl_ClaimSpot) (n : List ByteArray) (p : List S_impl_ClaimPart) (m : Int) (a b : ByteArray) (hf : f.length ≤ 140737488351232) :
    Ev (fun k => spec_l22Foes.f k f s n p m a b) (foeHas f a b) := by
  unfold spec_l22Foes.f foeHas
  refine loopL z_impl_ClaimFoe f (P := fun i r => Ev (fun k => spec_l22Foes.l0 k f a b (i : Int)) (r.any fun x => (decide (x.f0 = a) && decide (x.f1 = b)) || (decide (x.f0 = b) && decide (x.f1 = a))))
    (by refine Ev.step (fun k => by rw [spec_l22Foes.l0]) ?_; exact ev_neg (by omega) (ev_ret rfl)) (fun i x r hi hx hm _ ih => ?_)
  refine Ev.step (fun k => by rw [spec_l22Foes.l0]) (ev_pos (by omega) (ev_pos (by omega) ?_))
  rw [wsucc hi (by omega), rdCF, hx]
  clear hx hm
  repeat' (first
    | with_reducible refine ev_pos (by omega) ?_
    | with_reducible refine ev_neg (by omega) ?_
    | with_reducible refine ev_b (fun c => ?_) (fun c => ?_)
    | with_reducible refine ev_split (fun c => ?_) (fun c => ?_))
  all_goals (first
    | (with_reducible refine ev_ret ?_; simp_all [chainB, lt, ba_iff]; done)
    | (with_reducible refine ev_eq (ih) ?_; simp_all [chainB, lt, ba_iff]; done))
theorem l22Clash_ev (f : List S_impl_ClaimFoe) (s : List S_impl_ClaimSpot) (n : List ByteArray) (p : List S_impl_ClaimPart) (m : Int) (a : ByteArray) (l : List ByteArray) (hf : f.length ≤ 140737488351232) (hl : l.length ≤ 140737488351232) :
    Ev (fun k => spec_l22Clash.f k f s n p m a l) (l.any (foeHas f a)) := by
  unfold spec_l22Clash.f
  refine loopL ByteArray.empty l (P := fun i r => Ev (fun k => spec_l22Clash.l0 k f s n p m a l (i : Int)) (r.any (foeHas f a)))
    (by refine Ev.step (fun k => by rw [spec_l22Clash.l0]) ?_; exact ev_neg (by omega) (ev_ret rfl)) (fun i x r hi hx hm _ ih => ?_)
  refine Ev.step (fun k => by rw [spec_l22Clash.l0]) (ev_pos (by omega) (ev_pos (by omega) ?_))
  rw [wsucc hi (by omega), rdOf_nat, hx]
  clear hx hm
  repeat' (first
    | with_reducible refine Ev.bind (l22Foes_ev f s n p m _ _ hf) ?_
    | with_reducible refine ev_pos (by omega) ?_
    | with_reducible refine ev_neg (by omega) ?_
    | with_reducible refine ev_b (fun c => ?_) (fun c => ?_)
    | with_reducible refine ev_split (fun c => ?_) (fun c => ?_))
  all_goals (first
    | (with_reducible refine ev_ret ?_; simp_all [chainB, lt, ba_iff]; done)
    | (with_reducible refine ev_eq (ih) ?_; simp_all [chainB, lt, ba_iff]; done))
theorem l22SpotOk_ev (f : List S_impl_ClaimFoe) (s : List S_impl_ClaimSpot) (n : List ByteArray) (p : List S_impl_ClaimPart) (m : Int) (x : S_impl_ClaimSpot) (hf : f.length ≤ 140737488351232) (hl : x.f4.length ≤ 140737488351232) :
    Ev (fun k => spec_l22SpotOk.f k f s n p m x.f0 x.f1 x.f2 x.f3 x.f4) (spotB f x) := by
  have L0 : Ev (fun k => spec_l22SpotOk.l0 k f s n p m x.f4 0) (!clashB f x.f4 x.f4) := by
    have := loopL ByteArray.empty x.f4 (P := fun i r => Ev (fun k => spec_l22SpotOk.l0 k f s n p m x.f4 (i : Int)) (!r.any fun a => x.f4.any (foeHas f a)))
      (by refine Ev.step (fun k => by rw [spec_l22SpotOk.l0]) ?_; exact ev_neg (by omega) (ev_ret rfl)) (fun i a r hi hx hm _ ih => ?_)
    · exact this
    refine Ev.step (fun k => by rw [spec_l22SpotOk.l0]) (ev_pos (by omega) (ev_pos (by omega) ?_))
    rw [wsucc hi (by omega), rdOf_nat, hx]
    clear hx hm
    refine Ev.bind (l22Clash_ev f s n p m a _ hf hl) (ev_b (fun c => ev_ret (by rw [List.any_cons, c]; rfl)) (fun c => ev_eq ih (by rw [List.any_cons, c]; rfl)))
  have e1 := l21NamesOk_ev x.f4 8 hl
  unfold spec_l22SpotOk.f spotB
  generalize upB 8 x.f4 = b1 at *
  generalize clashB f x.f4 x.f4 = b2 at *
  by_cases d : x.f3 ≤ x.f1
  · rw [decide_eq_true d]
    repeat' (first
      | with_reducible refine Ev.bind (l21NameOk_ev _) ?_
      | with_reducible refine Ev.bind (l21In_ev _ _ _) ?_
      | with_reducible refine Ev.bind (e1) ?_
      | with_reducible refine ev_pos (by omega) ?_
      | with_reducible refine ev_neg (by omega) ?_
      | with_reducible refine ev_b (fun c => ?_) (fun c => ?_)
      | with_reducible refine ev_split (fun c => ?_) (fun c => ?_))
    all_goals (first
      | (with_reducible refine ev_ret ?_; simp_all [chainB, lt, ba_iff]; done)
      | (with_reducible refine ev_eq (L0) ?_; simp_all [chainB, lt, ba_iff]; done))
  · rw [decide_eq_false d]
    repeat' (first
      | with_reducible refine Ev.bind (l21NameOk_ev _) ?_
      | with_reducible refine Ev.bind (l21In_ev _ _ _) ?_
      | with_reducible refine Ev.bind (e1) ?_
      | with_reducible refine ev_pos (by omega) ?_
      | with_reducible refine ev_neg (by omega) ?_
      | with_reducible refine ev_b (fun c => ?_) (fun c => ?_)
      | with_reducible refine ev_split (fun c => ?_) (fun c => ?_))
    all_goals (first
      | (with_reducible refine ev_ret ?_; simp_all [chainB, lt, ba_iff]; done)
      | (with_reducible refine ev_eq (L0) ?_; simp_all [chainB, lt, ba_iff]; done))
theorem l21UsesOk_ev (nb kd : Int) (st : List ByteArray) (u : List S_impl_ClaimUse) (op sh : List ByteArray) (hu : u.length ≤ 140737488351232) :
    Ev (fun k => spec_l21UsesOk.f k nb kd st u op sh) (decide (u.length ≤ 8) && usesB kd u) := by
  unfold spec_l21UsesOk.f
  refine ev_split (fun c => ev_ret (by rw [decide_eq_false (by omega : ¬ u.length ≤ 8)]; rfl)) (fun c => ?_)
  rw [decide_eq_true (by omega : u.length ≤ 8), Bool.true_and]
  refine loopL z_impl_ClaimUse u (P := fun i r => Ev (fun k => spec_l21UsesOk.l0 k kd u (i : Int)) (r.all (useB kd) && chainB useLt (ahead z_impl_ClaimUse u i) r))
    (by refine Ev.step (fun k => by rw [spec_l21UsesOk.l0]) ?_; exact ev_neg (by omega) (ev_ret rfl)) (fun i x r hi hx hm _ ih => ?_)
  refine Ev.step (fun k => by rw [spec_l21UsesOk.l0]) (ev_pos (by omega) (ev_pos (by omega) ?_))
  rw [wsucc hi (by omega), rdCU, hx]
  rw [ahead_succ, hx] at ih
  clear hx hm
  by_cases z : i = 0
  · subst z
    rw [ahead_zero]
    by_cases d : kd = 1
    ·
      repeat' (first
        | with_reducible refine Ev.bind (l21NameOk_ev _) ?_
        | with_reducible refine Ev.bind (l21In_ev _ _ _) ?_
        | with_reducible refine ev_pos (by omega) ?_
        | with_reducible refine ev_neg (by omega) ?_
        | with_reducible refine ev_b (fun c => ?_) (fun c => ?_)
        | with_reducible refine ev_split (fun c => ?_) (fun c => ?_))
      all_goals (first
        | (with_reducible refine ev_ret ?_; simp_all [chainB, lt, ba_iff, useB, useLt]; done)
        | (with_reducible refine ev_eq (ih) ?_; simp_all [chainB, lt, ba_iff, useB, useLt]; done))
    ·
      repeat' (first
        | with_reducible refine Ev.bind (l21NameOk_ev _) ?_
        | with_reducible refine Ev.bind (l21In_ev _ _ _) ?_
        | with_reducible refine ev_pos (by omega) ?_
        | with_reducible refine ev_neg (by omega) ?_
        | with_reducible refine ev_b (fun c => ?_) (fun c => ?_)
        | with_reducible refine ev_split (fun c => ?_) (fun c => ?_))
      all_goals (first
        | (with_reducible refine ev_ret ?_; simp_all [chainB, lt, ba_iff, useB, useLt]; done)
        | (with_reducible refine ev_eq (ih) ?_; simp_all [chainB, lt, ba_iff, useB, useLt]; done))
  · rw [pre64 z (by omega), rdCU, ahead_pos _ _ _ z]
    generalize u.getD (i - 1) z_impl_ClaimUse = y
    by_cases d : kd = 1
    ·
      repeat' (first
        | with_reducible refine Ev.bind (l21NameOk_ev _) ?_
        | with_reducible refine Ev.bind (l21In_ev _ _ _) ?_
        | with_reducible refine ev_pos (by omega) ?_
        | with_reducible refine ev_neg (by omega) ?_
        | with_reducible refine ev_b (fun c => ?_) (fun c => ?_)
        | with_reducible refine ev_split (fun c => ?_) (fun c => ?_))
      all_goals (first
        | (with_reducible refine ev_ret ?_; simp_all [chainB, lt, ba_iff, useB, useLt]; done)
        | (with_reducible refine ev_eq (ih) ?_; simp_all [chainB, lt, ba_iff, useB, useLt]; done))
    ·
      repeat' (first
        | with_reducible refine Ev.bind (l21NameOk_ev _) ?_
        | with_reducible refine Ev.bind (l21In_ev _ _ _) ?_
        | with_reducible refine ev_pos (by omega) ?_
        | with_reducible refine ev_neg (by omega) ?_
        | with_reducible refine ev_b (fun c => ?_) (fun c => ?_)
        | with_reducible refine ev_split (fun c => ?_) (fun c => ?_))
      all_goals (first
        | (with_reducible refine ev_ret ?_; simp_all [chainB, lt, ba_iff, useB, useLt]; done)
        | (with_reducible refine ev_eq (ih) ?_; simp_all [chainB, lt, ba_iff, useB, useLt]; done))
theorem l21Share_ev (a b : List ByteArray) (ha : a.length ≤ 140737488351232) (hb : b.length ≤ 140737488351232) : Ev (fun k => spec_l21Share.f k a b) (shareB a b) := by
  unfold spec_l21Share.f shareB
  refine loopL ByteArray.empty a (P := fun i r => Ev (fun k => spec_l21Share.l0 k a b (i : Int)) (r.any (hasB b)))
    (by refine Ev.step (fun k => by rw [spec_l21Share.l0]) ?_; exact ev_neg (by omega) (ev_ret rfl)) (fun i x r hi hx hm _ ih => ?_)
  refine Ev.step (fun k => by rw [spec_l21Share.l0]) (ev_pos (by omega) (ev_pos (by omega) ?_))
  rw [wsucc hi (by omega), rdOf_nat, hx]
  refine Ev.bind (l21Has_ev b x hb) (ev_b (fun c => ev_ret (by rw [List.any_cons, c]; rfl)) (fun c => ev_eq ih (by rw [List.any_cons, c]; rfl)))
theorem l21All_ev (a b : List ByteArray) (ha : a.length ≤ 140737488351232) (hb : b.length ≤ 140737488351232) : Ev (fun k => spec_l21All.f k a b) (a.all (hasB b)) := by
  unfold spec_l21All.f
  refine loopL ByteArray.empty a (P := fun i r => Ev (fun k => spec_l21All.l0 k a b (i : Int)) (r.all (hasB b)))
    (by refine Ev.step (fun k => by rw [spec_l21All.l0]) ?_; exact ev_neg (by omega) (ev_ret rfl)) (fun i x r hi hx hm _ ih => ?_)
  refine Ev.step (fun k => by rw [spec_l21All.l0]) (ev_pos (by omega) (ev_pos (by omega) ?_))
  rw [wsucc hi (by omega), rdOf_nat, hx]
  refine Ev.bind (l21Has_ev b x hb) (ev_b (fun c => ev_eq ih (by rw [List.all_cons, c]; rfl)) (fun c => ev_ret (by rw [List.all_cons, c]; rfl)))
/-- a want that may stand -/
def wantB (nb kd : Int) (st : List ByteArray) (u : List S_impl_ClaimUse) (op sh : List ByteArray) : Bool :=
  inB nb 1 1000000 && (inB kd 1 3 && ((decide (u.length ≤ 8) && usesB kd u) && (upB 12 op && (upB 12 sh && (!shareB op sh && (decide (u.length + op.length + sh.length ≠ 0) && ((decide (kd = 1) || decide (op.length = 0)) && (upB 8 st && (decide (kd = 1) == decide (st.length ≠ 0))))))))))
theorem upB_le {n : Nat} {l : List ByteArray} (h : upB n l = true) : l.length ≤ n := by simp [upB] at h; exact h.1
theorem specWant_ev (nb kd : Int) (st : List ByteArray) (u : List S_impl_ClaimUse) (op sh : List ByteArray) (h2 : st.length ≤ 140737488351232) (h3 : u.length ≤ 140737488351232) (h4 : op.length ≤ 140737488351232) (h5 : sh.length ≤ 140737488351232) :
    Ev (fun k => spec_ClaimWantOk.f k nb kd st u op sh) (wantB nb kd st u op sh) := by
  have e1 := l21UsesOk_ev nb kd st u op sh h3
  have e2 := l21NamesOk_ev op 12 h4
  have e3 := l21NamesOk_ev sh 12 h5
  have e4 := l21NamesOk_ev st 8 h2
  have e5 := l21Share_ev op sh h4 h5
  have hw : wrap64 (wrap64 ((u.length : Int) + (op.length : Int)) + (sh.length : Int)) = ((u.length + op.length + sh.length : Nat) : Int) := by unfold wrap64; omega
  unfold spec_ClaimWantOk.f wantB
  rw [hw]
  rw [show decide ((st.length : Int) > 0) = decide (st.length ≠ 0) from decide_eq_decide.2 (by omega), show decide (u.length + op.length + sh.length ≠ 0) = !decide (((u.length + op.length + sh.length : Nat) : Int) = 0) from (decide_eq_decide.2 (by omega)).trans decide_not, show decide (op.length = 0) = !decide ((op.length : Int) > 0) from (decide_eq_decide.2 (by omega)).trans decide_not]
  clear hw
  generalize (decide (u.length ≤ 8) && usesB kd u) = b1 at *
  generalize upB 12 op = b2 at *
  generalize upB 12 sh = b3 at *
  generalize upB 8 st = b4 at *
  generalize shareB op sh = b5 at *
  generalize decide (st.length ≠ 0) = b6 at *
  generalize ((u.length + op.length + sh.length : Nat) : Int) = N at *
  generalize (op.length : Int) = M at *
  refine Ev.bind (l21In_ev _ _ _) (ev_b (fun c0 => ?_) (fun c0 => ev_ret (by simp [c0])))
  refine Ev.bind (l21In_ev _ _ _) (ev_b (fun c1 => ?_) (fun c1 => ev_ret (by simp [c1])))
  refine Ev.bind e1 (ev_b (fun c2 => ?_) (fun c2 => ev_ret (by simp [c2])))
  refine Ev.bind e2 (ev_b (fun c3 => ?_) (fun c3 => ev_ret (by simp [c3])))
  refine Ev.bind e3 (ev_b (fun c4 => ?_) (fun c4 => ev_ret (by simp [c4])))
  refine Ev.bind e5 (ev_b (fun c5 => ev_ret (by simp [c5])) (fun c5 => ?_))
  rw [c0, c1, c2, c3, c4, c5]
  refine ev_split (fun c6 => ev_ret (by simp [c6])) (fun c6 => ?_)
  refine ev_split (fun c7 => ?_) (fun c7 => ev_split (fun c8 => ev_ret (by simp [c7, c8])) (fun c8 => ?_))
  · refine Ev.bind e4 (ev_b (fun c9 => ev_ret (by simp [c6, c7, c9])) (fun c9 => ev_ret (by simp [c9])))
  · refine Ev.bind e4 (ev_b (fun c9 => ev_ret (by rw [decide_eq_false c6, decide_eq_false c7, decide_eq_false c8, c9]; simp)) (fun c9 => ev_ret (by simp [c9])))
/-! ### claims: spots, uses, parts -/
def spotHas (s : List S_impl_ClaimSpot) (x : ByteArray) : Bool := s.any fun y => decide (y.f0 = x)
def spotIx (x : ByteArray) : List S_impl_ClaimSpot → Nat → Int
  | [], _ => -1
  | y :: r, i => if y.f0 = x then (i : Int) else spotIx x r (i + 1)
theorem spotIx_no (x : ByteArray) : ∀ (r : List S_impl_ClaimSpot) (i : Nat), spotHas r x = false → spotIx x r i = -1
  | [], i, _ => rfl
  | y :: r, i, h => by
    rw [show spotHas (y :: r) x = (decide (y.f0 = x) || spotHas r x) from rfl, Bool.or_eq_false_iff] at h
    rw [show spotIx x (y :: r) i = if y.f0 = x then (i : Int) else spotIx x r (i + 1) from rfl, if_neg (of_decide_eq_false h.1)]
    exact spotIx_no x r (i + 1) h.2
theorem spotIx_yes (x : ByteArray) : ∀ (r : List S_impl_ClaimSpot) (i : Nat), spotHas r x = true → ∃ j, i ≤ j ∧ j < i + r.length ∧ spotIx x r i = (j : Int)
  | [], i, h => by simp [spotHas] at h
  | y :: r, i, h => by
    rw [show spotHas (y :: r) x = (decide (y.f0 = x) || spotHas r x) from rfl] at h
    rw [show spotIx x (y :: r) i = if y.f0 = x then (i : Int) else spotIx x r (i + 1) from rfl]
    by_cases c : y.f0 = x
    · exact ⟨i, Nat.le_refl _, by simp, by rw [if_pos c]⟩
    · rw [decide_eq_false c, Bool.false_or] at h
      obtain ⟨j, h1, h2, h3⟩ := spotIx_yes x r (i + 1) h
      exact ⟨j, by omega, by rw [List.length_cons]; omega, by rw [if_neg c]; exact h3⟩
theorem spotNeg (s : List S_impl_ClaimSpot) (x : ByteArray) : (spotIx x s 0 < 0) ↔ spotHas s x = false := by
  cases h : spotHas s x with
  | false => rw [spotIx_no x s 0 h]; simp
  | true => obtain ⟨j, _, _, e⟩ := spotIx_yes x s 0 h; rw [e]; simp
/-- the spot of a name -/
def spotOf (s : List S_impl_ClaimSpot) (x : ByteArray) : S_impl_ClaimSpot := s.getD (spotIx x s 0).toNat z_impl_ClaimSpot
def useOkB (kd : Int) (st : List ByteArray) (y : S_impl_ClaimSpot) (u : S_impl_ClaimUse) : Bool :=
  !(decide (kd = 2) && decide (y.f3 > 0)) && ((!decide (kd = 1) || ((decide (u.f1 = 2) || y.f4.all (hasB st)) && (decide (u.f1 = 1) || st.all (hasB y.f4)))) && decide (wrap64 (y.f2 + u.f2) ≤ y.f3))
def knowsB (s : List S_impl_ClaimSpot) (n : List ByteArray) (u : List S_impl_ClaimUse) (op sh : List ByteArray) : Bool := u.all (fun x => spotHas s x.f0) && (op.all (hasB n) && sh.all (hasB n))
def settleB (s : List S_impl_ClaimSpot) (kd : Int) (st : List ByteArray) (u : List S_impl_ClaimUse) : Bool := u.all fun x => useOkB kd st (spotOf s x.f0) x
def partB (s : List S_impl_ClaimSpot) (n : List ByteArray) (m : Int) (w : S_impl_ClaimWant) : Bool :=
  wantB w.f0 w.f1 w.f2 w.f3 w.f4 w.f5 && (decide (w.f0 ≤ m) && (knowsB s n w.f3 w.f4 w.f5 && settleB s w.f1 w.f2 w.f3))
def hitB (w v : S_impl_ClaimWant) : Bool := shareB (w.f3.map (·.f0)) (v.f3.map (·.f0)) || (shareB w.f4 v.f4 || (shareB w.f4 v.f5 || shareB w.f5 v.f4))
def partsB (s : List S_impl_ClaimSpot) (n : List ByteArray) (m : Int) (p : List S_impl_ClaimPart) : Nat → List S_impl_ClaimPart → Bool
  | _, [] => true
  | i, x :: r => (partB s n m x.f0 && ((match ahead z_impl_ClaimPart p i with | none => true | some y => decide (y.f0.f0 < x.f0.f0)) && !(p.take i).any (fun y => hitB x.f0 y.f0))) && partsB s n m p (i + 1) r
def bookB (f : List S_impl_ClaimFoe) (s : List S_impl_ClaimSpot) (n : List ByteArray) (p : List S_impl_ClaimPart) (m : Int) : Bool :=
  (decide (f.length ≤ 12) && foesB f) && (decide (s.length ≤ 8) && (upB 12 n && (inB m 0 1000000 && ((s.all (spotB f) && chainB spotLt none s) && (decide (p.length ≤ 6) && partsB s n m p 0 p)))))
structure SzW (w : S_impl_ClaimWant) : Prop where
  h2 : w.f2.length ≤ 8796093022207
  h3 : w.f3.length ≤ 4398046511104
  h4 : w.f4.length ≤ 8796093022207
  h5 : w.f5.length ≤ 8796093022207
  n2 : ∀ x ∈ w.f2, x.size ≤ 140737488351232
  n3 : ∀ x ∈ w.f3, x.f0.size ≤ 140737488351232
  n4 : ∀ x ∈ w.f4, x.size ≤ 140737488351232
  n5 : ∀ x ∈ w.f5, x.size ≤ 140737488351232
section
variable (f : List S_impl_ClaimFoe) (s : List S_impl_ClaimSpot) (n : List ByteArray) (p : List S_impl_ClaimPart) (m : Int)
theorem l22Spot_ev (x : ByteArray) (hs : s.length ≤ 140737488351232) : Ev (fun k => spec_l22Spot.f k f s n p m x) (spotIx x s 0) := by
  unfold spec_l22Spot.f
  refine loopL z_impl_ClaimSpot s (P := fun i r => Ev (fun k => spec_l22Spot.l0 k s x (i : Int)) (spotIx x r i))
    (by refine Ev.step (fun k => by rw [spec_l22Spot.l0]) ?_; exact ev_neg (by omega) (ev_ret rfl)) (fun i y r hi hx hm _ ih => ?_)
  refine Ev.step (fun k => by rw [spec_l22Spot.l0]) (ev_pos (by omega) (ev_pos (by omega) ?_))
  rw [wsucc hi (by omega), rdCS, hx]
  unfold spotIx
  exact ev_split (fun c => ev_ret (by rw [if_pos (ba_iff.1 c)])) (fun c => ev_eq ih (by rw [if_neg (fun e => c (ba_iff.2 e))]))
theorem l22Knows_ev (nb kd : Int) (st : List ByteArray) (u : List S_impl_ClaimUse) (op sh : List ByteArray) (hs : s.length ≤ 140737488351232) (hn : n.length ≤ 140737488351232) (hu : u.length ≤ 140737488351232) (h4 : op.length ≤ 140737488351232) (h5 : sh.length ≤ 140737488351232) :
    Ev (fun k => spec_l22Knows.f k f s n p m nb kd st u op sh) (knowsB s n u op sh) := by
  unfold spec_l22Knows.f knowsB
  have L2 : Ev (fun k => spec_l22Knows.l2 k n sh 0) (sh.all (hasB n)) := by
    refine loopL ByteArray.empty sh (P := fun i r => Ev (fun k => spec_l22Knows.l2 k n sh (i : Int)) (r.all (hasB n)))
      (by refine Ev.step (fun k => by rw [spec_l22Knows.l2]) ?_; exact ev_neg (by omega) (ev_ret rfl)) (fun i x r hi hx hm _ ih => ?_)
    refine Ev.step (fun k => by rw [spec_l22Knows.l2]) (ev_pos (by omega) (ev_pos (by omega) ?_))
    rw [wsucc hi (by omega), rdOf_nat, hx]
    exact Ev.bind (l21Has_ev n x hn) (ev_b (fun c => ev_eq ih (by rw [List.all_cons, c]; rfl)) (fun c => ev_ret (by rw [List.all_cons, c]; rfl)))
  generalize sh.all (hasB n) = T2 at *
  have L1 : Ev (fun k => spec_l22Knows.l1 k n op sh 0) (op.all (hasB n) && T2) := by
    refine loopL ByteArray.empty op (P := fun i r => Ev (fun k => spec_l22Knows.l1 k n op sh (i : Int)) (r.all (hasB n) && T2))
      (by refine Ev.step (fun k => by rw [spec_l22Knows.l1]) ?_; exact ev_neg (by omega) L2) (fun i x r hi hx hm _ ih => ?_)
    refine Ev.step (fun k => by rw [spec_l22Knows.l1]) (ev_pos (by omega) (ev_pos (by omega) ?_))
    rw [wsucc hi (by omega), rdOf_nat, hx]
    exact Ev.bind (l21Has_ev n x hn) (ev_b (fun c => ev_eq ih (by rw [List.all_cons, c]; rfl)) (fun c => ev_ret (by rw [List.all_cons, c]; rfl)))
  generalize (op.all (hasB n) && T2) = T1 at *
  refine loopL z_impl_ClaimUse u (P := fun i r => Ev (fun k => spec_l22Knows.l0 k f s n p m u op sh (i : Int)) (r.all (fun x => spotHas s x.f0) && T1))
    (by refine Ev.step (fun k => by rw [spec_l22Knows.l0]) ?_; exact ev_neg (by omega) L1) (fun i x r hi hx hm _ ih => ?_)
  refine Ev.step (fun k => by rw [spec_l22Knows.l0]) (ev_pos (by omega) (ev_pos (by omega) ?_))
  rw [wsucc hi (by omega), rdCU, hx]
  refine Ev.bind (l22Spot_ev f s n p _ x.f0 hs) (ev_split (fun c => ev_ret ?_) (fun c => ev_eq ih ?_))
  · rw [spotNeg] at c; rw [List.all_cons, c]; rfl
  · rw [spotNeg, Bool.not_eq_false] at c; rw [List.all_cons, c]; rfl
theorem l22UseOk_ev (nb kd : Int) (st : List ByteArray) (us : List S_impl_ClaimUse) (op sh : List ByteArray) (y : S_impl_ClaimSpot) (u : S_impl_ClaimUse) (h2 : st.length ≤ 140737488351232) (h4 : y.f4.length ≤ 140737488351232) :
    Ev (fun k => spec_l22UseOk.f k y.f0 y.f1 y.f2 y.f3 y.f4 nb kd st us op sh u.f0 u.f1 u.f2) (useOkB kd st y u) := by
  have e1 := l21All_ev y.f4 st h4 h2
  have e2 := l21All_ev st y.f4 h2 h4
  unfold spec_l22UseOk.f useOkB
  generalize y.f4.all (hasB st) = b1 at *
  generalize st.all (hasB y.f4) = b2 at *
  by_cases c1 : kd = 2
  · have c2 : ¬ kd = 1 := by omega
    by_cases c3 : y.f3 > 0
    · exact ev_pos c1 (ev_pos c3 (ev_ret (by simp [c1, c3])))
    · exact ev_pos c1 (ev_neg c3 (ev_neg c2 (ev_ret (by simp [c2, c3]))))
  · refine ev_neg c1 ?_
    by_cases c2 : kd = 1
    · refine ev_pos c2 ?_
      rw [decide_eq_false c1, decide_eq_true c2]
      by_cases c3 : u.f1 = 2
      · have c4 : ¬ u.f1 = 1 := by omega
        rw [decide_eq_true c3, decide_eq_false c4]
        refine ev_pos c3 (ev_neg c4 (Ev.bind e2 (ev_b (fun c => ev_ret (by rw [c]; simp)) (fun c => ev_ret (by rw [c]; simp)))))
      · rw [decide_eq_false c3]
        refine ev_neg c3 (Ev.bind e1 (ev_b (fun c => ?_) (fun c => ev_ret (by rw [c]; simp))))
        by_cases c4 : u.f1 = 1
        · rw [decide_eq_true c4]; exact ev_pos c4 (ev_ret (by rw [c]; simp))
        · rw [decide_eq_false c4]
          exact ev_neg c4 (Ev.bind e2 (ev_b (fun d => ev_ret (by rw [c, d]; simp)) (fun d => ev_ret (by rw [d]; simp))))
    · exact ev_neg c2 (ev_ret (by rw [decide_eq_false c1, decide_eq_false c2]; simp))
theorem getD_spot (x : ByteArray) (h : spotHas s x = true) : ∃ j : Nat, j < s.length ∧ spotIx x s 0 = (j : Int) ∧ rd_impl_ClaimSpot s (j : Int) = spotOf s x ∧ spotOf s x ∈ s := by
  obtain ⟨j, _, h2, h3⟩ := spotIx_yes x s 0 h
  refine ⟨j, by omega, h3, ?_, ?_⟩
  · rw [rdCS]; unfold spotOf; rw [h3, Int.toNat_natCast]
  · unfold spotOf; rw [h3, Int.toNat_natCast]; exact mem_getD _ _ _ (by omega)
theorem l22PartOk_ev (w : S_impl_ClaimWant) (o : Bool) (z : SzW w) (hs : s.length ≤ 140737488351232) (hn : n.length ≤ 140737488351232) (h4 : ∀ y ∈ s, y.f4.length ≤ 140737488351232) :
    Ev (fun k => spec_l22PartOk.f k f s n p m w.f0 w.f1 w.f2 w.f3 w.f4 w.f5 o) (partB s n m w) := by
  have z2 := z.h2; have z3 := z.h3; have z4 := z.h4; have z5 := z.h5
  have e1 := specWant_ev w.f0 w.f1 w.f2 w.f3 w.f4 w.f5 (by omega) (by omega) (by omega) (by omega)
  have e2 := l22Knows_ev f s n p m w.f0 w.f1 w.f2 w.f3 w.f4 w.f5 hs hn (by omega) (by omega) (by omega)
  unfold spec_l22PartOk.f partB
  refine Ev.bind e1 (ev_b (fun c1 => ?_) (fun c1 => ev_ret (by rw [c1]; rfl)))
  refine ev_split (fun c2 => ev_ret (by rw [decide_eq_false (by omega : ¬ w.f0 ≤ m)]; simp)) (fun c2 => ?_)
  refine Ev.bind e2 (ev_b (fun c3 => ?_) (fun c3 => ev_ret (by rw [c3]; simp)))
  rw [c1, c3, decide_eq_true (by omega : w.f0 ≤ m)]
  simp only [Bool.true_and]
  have hk : ∀ x ∈ w.f3, spotHas s x.f0 = true := by
    unfold knowsB at c3; rw [Bool.and_eq_true] at c3
    exact fun x hx => List.all_eq_true.1 c3.1 x hx
  unfold settleB
  refine loopL z_impl_ClaimUse w.f3 (P := fun i r => Ev (fun k => spec_l22PartOk.l0 k f s n p m w.f0 w.f1 w.f2 w.f3 w.f4 w.f5 (i : Int)) (r.all fun x => useOkB w.f1 w.f2 (spotOf s x.f0) x))
    (by refine Ev.step (fun k => by rw [spec_l22PartOk.l0]) ?_; exact ev_neg (by omega) (ev_ret rfl)) (fun i x r hi hx hm _ ih => ?_)
  refine Ev.step (fun k => by rw [spec_l22PartOk.l0]) (ev_pos (by omega) (ev_pos (by omega) ?_))
  rw [wsucc hi (by omega), rdCU, hx]
  obtain ⟨j, j1, j2, j3, j4⟩ := getD_spot s x.f0 (hk x hm)
  have e3 := l22UseOk_ev w.f0 w.f1 w.f2 w.f3 w.f4 w.f5 (spotOf s x.f0) x (by omega) (h4 _ j4)
  refine Ev.bind (l22Spot_ev f s n p m x.f0 hs) ?_
  rw [j2, j3]
  refine ev_pos (by omega) (ev_pos (by omega) (Ev.bind e3 (ev_b (fun c => ev_eq ih (by rw [List.all_cons, c]; rfl)) (fun c => ev_ret (by rw [List.all_cons, c]; rfl)))))
theorem l22Uses_ev (w : S_impl_ClaimWant) (z : SzW w) : Ev (fun k => spec_l22Uses.f k w.f0 w.f1 w.f2 w.f3 w.f4 w.f5) (w.f3.map (·.f0)) := by
  have z3 := z.h3
  unfold spec_l22Uses.f
  have key := loopL z_impl_ClaimUse w.f3 (P := fun i r => ∀ acc : List ByteArray, acc.length = i → Ev (fun k => spec_l22Uses.l0 k w.f3 acc (i : Int)) (acc ++ r.map (·.f0)))
    (fun acc h => by refine Ev.step (fun k => by rw [spec_l22Uses.l0]) ?_; exact ev_neg (by omega) (ev_ret (by simp))) (fun i x r hi hx _ _ ih acc h => ?_)
  · simpa using key [] rfl
  refine Ev.step (fun k => by rw [spec_l22Uses.l0]) (ev_pos (by omega) (ev_pos (by omega) (ev_pos (by omega) ?_)))
  rw [wsucc hi (by omega), rdCU, hx]
  exact ev_eq (ih _ (by simp [h])) (by simp)
theorem l22Crosses_ev (w v : S_impl_ClaimWant) (z : SzW w) (z' : SzW v) : Ev (fun k => spec_l22Crosses.f k w.f0 w.f1 w.f2 w.f3 w.f4 w.f5 v.f0 v.f1 v.f2 v.f3 v.f4 v.f5) (shareB w.f4 v.f4 || (shareB w.f4 v.f5 || shareB w.f5 v.f4)) := by
  have z4 := z.h4; have z5 := z.h5; have y4 := z'.h4; have y5 := z'.h5
  unfold spec_l22Crosses.f
  refine Ev.bind (l21Share_ev w.f4 v.f4 (by omega) (by omega)) (ev_b (fun c => ev_ret (by rw [c]; rfl)) (fun c => ?_))
  rw [c, Bool.false_or]
  refine Ev.bind (l21Share_ev w.f4 v.f5 (by omega) (by omega)) (ev_b (fun c => ev_ret (by rw [c]; rfl)) (fun c => ?_))
  rw [c, Bool.false_or]
  exact Ev.bind (l21Share_ev w.f5 v.f4 (by omega) (by omega)) (ev_ret rfl)
theorem take_getD (i j : Nat) (h : j < i) : (p.take i).getD j z_impl_ClaimPart = p.getD j z_impl_ClaimPart := by
  rw [List.getD_eq_getElem?_getD, List.getD_eq_getElem?_getD, List.getElem?_take, if_pos h]
theorem l22PartsOk_ev (hp : ∀ x ∈ p, SzW x.f0) (hl : p.length ≤ 140737488351232) (hs : s.length ≤ 140737488351232) (hn : n.length ≤ 140737488351232) (h4 : ∀ y ∈ s, y.f4.length ≤ 140737488351232) :
    Ev (fun k => spec_l22PartsOk.f k f s n p m) (decide (p.length ≤ 6) && partsB s n m p 0 p) := by
  unfold spec_l22PartsOk.f
  refine ev_split (fun c => ev_ret (by rw [decide_eq_false (by omega : ¬ p.length ≤ 6)]; rfl)) (fun c => ?_)
  rw [decide_eq_true (by omega : p.length ≤ 6), Bool.true_and]
  refine loopL z_impl_ClaimPart p (P := fun i r => Ev (fun k => spec_l22PartsOk.l0 k f s n p m (i : Int)) (partsB s n m p i r))
    (by refine Ev.step (fun k => by rw [spec_l22PartsOk.l0]) ?_; exact ev_neg (by omega) (ev_ret rfl)) (fun i x r hi hx hm _ ih => ?_)
  have zx := hp x hm
  have hlen : (p.take i).length = i := by rw [List.length_take]; omega
  have L1 : Ev (fun k => spec_l22PartsOk.l1 k f s n p m (i : Int) 0) (!(p.take i).any (fun y => hitB x.f0 y.f0) && partsB s n m p (i + 1) r) := by
    refine loopL z_impl_ClaimPart (p.take i) (P := fun j d => Ev (fun k => spec_l22PartsOk.l1 k f s n p m (i : Int) (j : Int)) (!d.any (fun y => hitB x.f0 y.f0) && partsB s n m p (i + 1) r))
      (by refine Ev.step (fun k => by rw [spec_l22PartsOk.l1]) ?_; rw [wsucc hi (by omega)]; exact ev_neg (by omega) (ev_eq ih rfl)) (fun j y d hj hy hmy _ ih2 => ?_)
    have zy := hp y (List.mem_of_mem_take hmy)
    refine Ev.step (fun k => by rw [spec_l22PartsOk.l1]) (ev_pos (by omega) (ev_pos (by omega) (ev_pos (by omega) ?_)))
    rw [take_getD p i j (by omega)] at hy
    rw [wsucc (show j < i by omega) (by omega), rdCP, rdCP, hx, hy]
    refine Ev.bind (l22Uses_ev x.f0 zx) (Ev.bind (l22Uses_ev y.f0 zy) (Ev.bind (l21Share_ev _ _ (by rw [List.length_map]; have := zx.h3; omega) (by rw [List.length_map]; have := zy.h3; omega)) (ev_b (fun c => ev_ret ?_) (fun c => Ev.bind (l22Crosses_ev x.f0 y.f0 zx zy) (ev_b (fun c2 => ev_ret ?_) (fun c2 => ev_eq ih2 ?_))))))
    · rw [List.any_cons, hitB, c]; rfl
    · rw [List.any_cons, hitB, c2]; simp
    · rw [List.any_cons, hitB, c, c2]; simp
  have L2 : Ev (fun k => spec_l22PartsOk.l2 k f s n p m (i : Int) 0) (!(p.take i).any (fun y => hitB x.f0 y.f0) && partsB s n m p (i + 1) r) := by
    refine loopL z_impl_ClaimPart (p.take i) (P := fun j d => Ev (fun k => spec_l22PartsOk.l2 k f s n p m (i : Int) (j : Int)) (!d.any (fun y => hitB x.f0 y.f0) && partsB s n m p (i + 1) r))
      (by refine Ev.step (fun k => by rw [spec_l22PartsOk.l2]) ?_; rw [wsucc hi (by omega)]; exact ev_neg (by omega) (ev_eq ih rfl)) (fun j y d hj hy hmy _ ih2 => ?_)
    have zy := hp y (List.mem_of_mem_take hmy)
    refine Ev.step (fun k => by rw [spec_l22PartsOk.l2]) (ev_pos (by omega) (ev_pos (by omega) (ev_pos (by omega) ?_)))
    rw [take_getD p i j (by omega)] at hy
    rw [wsucc (show j < i by omega) (by omega), rdCP, rdCP, hx, hy]
    refine Ev.bind (l22Uses_ev x.f0 zx) (Ev.bind (l22Uses_ev y.f0 zy) (Ev.bind (l21Share_ev _ _ (by rw [List.length_map]; have := zx.h3; omega) (by rw [List.length_map]; have := zy.h3; omega)) (ev_b (fun c => ev_ret ?_) (fun c => Ev.bind (l22Crosses_ev x.f0 y.f0 zx zy) (ev_b (fun c2 => ev_ret ?_) (fun c2 => ev_eq ih2 ?_))))))
    · rw [List.any_cons, hitB, c]; rfl
    · rw [List.any_cons, hitB, c2]; simp
    · rw [List.any_cons, hitB, c, c2]; simp
  refine Ev.step (fun k => by rw [spec_l22PartsOk.l0]) (ev_pos (by omega) (ev_pos (by omega) ?_))
  rw [rdCP, hx]
  have eP := l22PartOk_ev f s n p m x.f0 x.f1 zx hs hn h4
  rw [show partsB s n m p i (x :: r) = ((partB s n m x.f0 && ((match ahead z_impl_ClaimPart p i with | none => true | some y => decide (y.f0.f0 < x.f0.f0)) && !(p.take i).any (fun y => hitB x.f0 y.f0))) && partsB s n m p (i + 1) r) from rfl]
  generalize partsB s n m p (i + 1) r = R at *
  generalize (p.take i).any (fun y => hitB x.f0 y.f0) = H at *
  refine Ev.bind eP (ev_b (fun c => ?_) (fun c => ev_ret (by rw [c]; rfl)))
  rw [c]
  by_cases z : i = 0
  · subst z
    exact ev_neg (by omega) (ev_eq L2 rfl)
  · rw [pre64 z (by omega), rdCP, ahead_pos _ _ _ z]
    generalize p.getD (i - 1) z_impl_ClaimPart = y
    refine ev_pos (by omega) (ev_pos (by omega) (ev_pos (by omega) (ev_split (fun c2 => ev_ret ?_) (fun c2 => ev_eq L1 ?_))))
    · simp only []; rw [decide_eq_false (by omega : ¬ y.f0.f0 < x.f0.f0)]; rfl
    · simp only []; rw [decide_eq_true (by omega : y.f0.f0 < x.f0.f0)]; rfl
theorem specBook_ev (hf : f.length ≤ 140737488351232) (hp : ∀ x ∈ p, SzW x.f0) (hl : p.length ≤ 140737488351232) (hs : s.length ≤ 140737488351232) (hn : n.length ≤ 140737488351232) (h4 : ∀ y ∈ s, y.f4.length ≤ 140737488351232) :
    Ev (fun k => spec_ClaimBookOk.f k f s n p m) (bookB f s n p m) := by
  have eP := l22PartsOk_ev f s n p m hp hl hs hn h4
  have eF := l22FoesOk_ev f s n p m hf
  have eN := l21NamesOk_ev n 12 hn
  unfold spec_ClaimBookOk.f bookB
  generalize (decide (p.length ≤ 6) && partsB s n m p 0 p) = T at *
  have L0 : Ev (fun k => spec_ClaimBookOk.l0 k f s n p m 0) ((s.all (spotB f) && chainB spotLt none s) && T) := by
    refine loopL z_impl_ClaimSpot s (P := fun i r => Ev (fun k => spec_ClaimBookOk.l0 k f s n p m (i : Int)) ((r.all (spotB f) && chainB spotLt (ahead z_impl_ClaimSpot s i) r) && T))
      (by refine Ev.step (fun k => by rw [spec_ClaimBookOk.l0]) ?_; exact ev_neg (by omega) (Ev.bind eP (ev_ret rfl))) (fun i x r hi hx hm _ ih => ?_)
    refine Ev.step (fun k => by rw [spec_ClaimBookOk.l0]) (ev_pos (by omega) (ev_pos (by omega) ?_))
    rw [wsucc hi (by omega), rdCS, hx]
    rw [ahead_succ, hx] at ih
    have eS := l22SpotOk_ev f s n p m x hf (h4 x hm)
    generalize hb : spotB f x = b at *
    clear hx hm eP eF eN
    by_cases z : i = 0
    · subst z
      rw [ahead_zero]
      repeat' (first
        | with_reducible refine Ev.bind (eS) ?_
        | with_reducible refine ev_pos (by omega) ?_
        | with_reducible refine ev_neg (by omega) ?_
        | with_reducible refine ev_b (fun c => ?_) (fun c => ?_)
        | with_reducible refine ev_split (fun c => ?_) (fun c => ?_))
      all_goals (first
        | (with_reducible refine ev_ret ?_; simp_all [chainB, lt, ba_iff, spotLt]; done)
        | (with_reducible refine ev_eq (ih) ?_; simp_all [chainB, lt, ba_iff, spotLt]; done))
    · rw [pre64 z (by omega), rdCS, ahead_pos _ _ _ z]
      generalize s.getD (i - 1) z_impl_ClaimSpot = y
      repeat' (first
        | with_reducible refine Ev.bind (eS) ?_
        | with_reducible refine ev_pos (by omega) ?_
        | with_reducible refine ev_neg (by omega) ?_
        | with_reducible refine ev_b (fun c => ?_) (fun c => ?_)
        | with_reducible refine ev_split (fun c => ?_) (fun c => ?_))
      all_goals (first
        | (with_reducible refine ev_ret ?_; simp_all [chainB, lt, ba_iff, spotLt]; done)
        | (with_reducible refine ev_eq (ih) ?_; simp_all [chainB, lt, ba_iff, spotLt]; done))
  generalize (s.all (spotB f) && chainB spotLt none s) = T2 at *
  generalize (decide (f.length ≤ 12) && foesB f) = b1 at *
  generalize upB 12 n = b2 at *
  refine Ev.bind eF (ev_b (fun c => ev_split (fun c2 => ev_ret ?_) (fun c2 => Ev.bind eN (ev_b (fun c3 => Ev.bind (l21In_ev _ _ _) (ev_b (fun c4 => ev_eq L0 ?_) (fun c4 => ev_ret ?_))) (fun c3 => ev_ret ?_)))) (fun c => ev_ret ?_))
  · rw [decide_eq_false (by omega : ¬ s.length ≤ 8)]; simp
  · rw [c, c3, c4, decide_eq_true (by omega : s.length ≤ 8)]; rfl
  · rw [c4]; simp
  · rw [c3]; simp
  · rw [c]; rfl
end
/-! ### claims: what the program says of them -/
def mkPair (x : S_impl_ClaimFoe) : S_A2_string := ⟨x.f0, x.f1⟩
theorem rdA2 (l : List S_A2_string) (i : Nat) : rd_A2_string l (i : Int) = l.getD i z_A2_string := by unfold rd_A2_string; rw [Int.toNat_natCast]
def pairLt (x y : S_A2_string) : Bool := befB x.f0 x.f1 y.f0 y.f1
def pairB (x : S_A2_string) : Bool := nameB x.f0 && (nameB x.f1 && lt x.f0 x.f1)
def pairsB (l : List S_A2_string) : Bool := l.all pairB && chainB pairLt none l
theorem foesOk_ev (l : List S_A2_string) (a : Int) (hn : l.length ≤ 140737488351232) (h : ∀ x ∈ l, x.f0.size ≤ 140737488351232 ∧ x.f1.size ≤ 140737488351232) :
    Ev (fun k => impl_foesOk.f k l a) (pairsB l && decide ((l.length : Int) ≤ a)) := by
  unfold impl_foesOk.f
  refine loopL z_A2_string l (P := fun i r => Ev (fun k => impl_foesOk.l0 k l a (i : Int)) ((r.all pairB && chainB pairLt (ahead z_A2_string l i) r) && decide ((l.length : Int) ≤ a)))
    (by refine Ev.step (fun k => by rw [impl_foesOk.l0]) ?_; exact ev_neg (by omega) (ev_ret rfl)) (fun i x r hi hx hm _ ih => ?_)
  refine Ev.step (fun k => by rw [impl_foesOk.l0]) (ev_pos (by omega) (ev_pos (by omega) ?_))
  obtain ⟨q0, q1⟩ := h x hm
  rw [wsucc hi (by omega), rdA2, hx]
  rw [ahead_succ, hx] at ih
  generalize decide ((l.length : Int) ≤ a) = D at ih ⊢
  clear hx h hm
  by_cases z : i = 0
  · subst z
    rw [ahead_zero]
    repeat' (first
      | with_reducible refine Ev.bind (isName_ev _ q0) ?_
      | with_reducible refine Ev.bind (isName_ev _ q1) ?_
      | with_reducible refine ev_pos (by omega) ?_
      | with_reducible refine ev_neg (by omega) ?_
      | with_reducible refine ev_b (fun c => ?_) (fun c => ?_)
      | with_reducible refine ev_split (fun c => ?_) (fun c => ?_))
    all_goals (first
      | (with_reducible refine ev_ret ?_; simp_all [chainB, lt, ba_iff, pairB, pairLt]; done)
      | (with_reducible refine ev_eq (ih) ?_; simp_all [chainB, lt, ba_iff, pairB, pairLt]; done))
  · rw [pre64 z (by omega), rdA2, ahead_pos _ _ _ z]
    generalize l.getD (i - 1) z_A2_string = y
    have hb := @befB_of y.f0 y.f1 x.f0 x.f1
    have hc := @befB_no y.f0 y.f1 x.f0 x.f1
    repeat' (first
      | with_reducible refine Ev.bind (isName_ev _ q0) ?_
      | with_reducible refine Ev.bind (isName_ev _ q1) ?_
      | with_reducible refine ev_pos (by omega) ?_
      | with_reducible refine ev_neg (by omega) ?_
      | with_reducible refine ev_b (fun c => ?_) (fun c => ?_)
      | with_reducible refine ev_split (fun c => ?_) (fun c => ?_))
    all_goals (first
      | (with_reducible refine ev_ret ?_; simp_all [chainB, lt, ba_iff, pairB, pairLt]; done)
      | (with_reducible refine ev_eq (ih) ?_; simp_all [chainB, lt, ba_iff, pairB, pairLt]; done))
theorem chain_map {α β : Type} {p : α → α → Bool} {q : β → β → Bool} (g : α → β) (h : ∀ x y, q (g x) (g y) = p x y) : ∀ (r : List α) (o : Option α), chainB q (o.map g) (r.map g) = chainB p o r
  | [], o => by cases o <;> rfl
  | x :: r, none => chain_map g h r (some x)
  | x :: r, some y => by
    show (q (g y) (g x) && chainB q (some (g x)) (r.map g)) = (p y x && chainB p (some x) r)
    rw [h]; congr 1; exact chain_map g h r (some x)
theorem pairs_same (f : List S_impl_ClaimFoe) : pairsB (f.map mkPair) = foesB f := by
  unfold pairsB foesB
  rw [show chainB pairLt none (f.map mkPair) = chainB foeLt none f from chain_map mkPair (fun _ _ => rfl) f none, List.all_map]
  rfl
theorem shareB_comm (a b : List ByteArray) : shareB a b = shareB b a := by
  unfold shareB
  rw [Bool.eq_iff_iff, List.any_eq_true, List.any_eq_true]
  simp only [hasB_iff]
  exact ⟨fun ⟨x, h1, h2⟩ => ⟨x, h2, h1⟩, fun ⟨x, h1, h2⟩ => ⟨x, h2, h1⟩⟩
section
variable (f : List S_impl_ClaimFoe) (s : List S_impl_ClaimSpot) (n : List ByteArray) (p : List S_impl_ClaimPart) (m : Int)
theorem pairs_ev (hf : f.length ≤ 4398046511104) : Ev (fun k => impl_ClaimBook_pairs.f k f s n p m) (f.map mkPair) := by
  unfold impl_ClaimBook_pairs.f
  have key := loopL z_impl_ClaimFoe f (P := fun i r => ∀ acc : List S_A2_string, acc.length = i → Ev (fun k => impl_ClaimBook_pairs.l0 k f acc (i : Int)) (acc ++ r.map mkPair))
    (fun acc h => by refine Ev.step (fun k => by rw [impl_ClaimBook_pairs.l0]) ?_; exact ev_neg (by omega) (ev_ret (by simp))) (fun i x r hi hx _ _ ih acc h => ?_)
  · simpa using key [] rfl
  refine Ev.step (fun k => by rw [impl_ClaimBook_pairs.l0]) (ev_pos (by omega) (ev_pos (by omega) (ev_pos (by omega) ?_)))
  rw [wsucc hi (by omega), rdCF, hx]
  refine ev_eq (ih _ (by simp [h])) (by simp [mkPair])
theorem foes_ev (a b : ByteArray) (hf : f.length ≤ 140737488351232) : Ev (fun k => impl_foes.f k (f.map mkPair) a b) (foeHas f a b) := by
  unfold impl_foes.f foeHas
  refine loopL z_impl_ClaimFoe f (P := fun i r => Ev (fun k => impl_foes.l0 k (f.map mkPair) a b (i : Int)) (r.any fun x => (decide (x.f0 = a) && decide (x.f1 = b)) || (decide (x.f0 = b) && decide (x.f1 = a))))
    (by refine Ev.step (fun k => by rw [impl_foes.l0]) ?_; exact ev_neg (by rw [List.length_map]; omega) (ev_ret rfl)) (fun i x r hi hx hm _ ih => ?_)
  refine Ev.step (fun k => by rw [impl_foes.l0]) (ev_pos (by rw [List.length_map]; omega) (ev_pos (by omega) ?_))
  rw [wsucc hi (by omega), rdA2, map_getD z_A2_string z_impl_ClaimFoe mkPair f i hi, hx]
  simp only [mkPair, ba_iff, Bool.and_true]
  refine ev_b (fun c => ev_ret (by rw [List.any_cons, c]; rfl)) (fun c => ev_b (fun c2 => ev_ret (by rw [List.any_cons, c2]; simp)) (fun c2 => ev_eq ih (by rw [List.any_cons, c, c2]; rfl)))
theorem anyFoes_ev (l o : List ByteArray) (hf : f.length ≤ 140737488351232) (hl : l.length ≤ 140737488351232) (ho : o.length ≤ 140737488351232) : Ev (fun k => impl_anyFoes.f k (f.map mkPair) l o) (clashB f l o) := by
  unfold impl_anyFoes.f clashB
  refine loopL ByteArray.empty l (P := fun i r => Ev (fun k => impl_anyFoes.l0 k (f.map mkPair) l o (i : Int)) (r.any fun a => o.any (foeHas f a)))
    (by refine Ev.step (fun k => by rw [impl_anyFoes.l0]) ?_; exact ev_neg (by omega) (ev_ret rfl)) (fun i x r hi hx hm _ ih => ?_)
  refine Ev.step (fun k => by rw [impl_anyFoes.l0]) (ev_pos (by omega) (ev_pos (by omega) ?_))
  rw [List.any_cons]
  refine loopL ByteArray.empty o (P := fun j d => Ev (fun k => impl_anyFoes.l1 k (f.map mkPair) l o (i : Int) (j : Int)) (d.any (foeHas f x) || r.any fun a => o.any (foeHas f a)))
    (by refine Ev.step (fun k => by rw [impl_anyFoes.l1]) ?_; rw [wsucc hi (by omega)]; exact ev_neg (by omega) (ev_eq ih rfl)) (fun j y d hj hy hmy _ ih2 => ?_)
  refine Ev.step (fun k => by rw [impl_anyFoes.l1]) (ev_pos (by omega) (ev_pos (by omega) ?_))
  rw [wsucc hj (by omega), rdOf_nat, rdOf_nat, hx, hy]
  refine Ev.bind (foes_ev f x y hf) (ev_b (fun c => ev_ret (by rw [List.any_cons, c]; rfl)) (fun c => ev_eq ih2 (by rw [List.any_cons, c]; rfl)))
theorem within_ev (a b : List ByteArray) (ha : a.length ≤ 140737488351232) (hb : b.length ≤ 140737488351232) : Ev (fun k => impl_within.f k a b) (a.all (hasB b)) := by
  unfold impl_within.f
  refine loopL ByteArray.empty a (P := fun i r => Ev (fun k => impl_within.l0 k a b (i : Int)) (r.all (hasB b)))
    (by refine Ev.step (fun k => by rw [impl_within.l0]) ?_; exact ev_neg (by omega) (ev_ret rfl)) (fun i x r hi hx hm _ ih => ?_)
  refine Ev.step (fun k => by rw [impl_within.l0]) (ev_pos (by omega) (ev_pos (by omega) ?_))
  rw [wsucc hi (by omega), rdOf_nat, hx]
  exact Ev.bind (has_ev b x hb) (ev_b (fun c => ev_eq ih (by rw [List.all_cons, c]; rfl)) (fun c => ev_ret (by rw [List.all_cons, c]; rfl)))
theorem spot_ev (x : ByteArray) (hs : s.length ≤ 140737488351232) : Ev (fun k => impl_ClaimBook_spot.f k f s n p m x) (spotIx x s 0) := by
  unfold impl_ClaimBook_spot.f
  refine loopL z_impl_ClaimSpot s (P := fun i r => Ev (fun k => impl_ClaimBook_spot.l0 k s x (i : Int)) (spotIx x r i))
    (by refine Ev.step (fun k => by rw [impl_ClaimBook_spot.l0]) ?_; exact ev_neg (by omega) (ev_ret rfl)) (fun i y r hi hx hm _ ih => ?_)
  refine Ev.step (fun k => by rw [impl_ClaimBook_spot.l0]) (ev_pos (by omega) (ev_pos (by omega) ?_))
  rw [wsucc hi (by omega), rdCS, hx]
  unfold spotIx
  exact ev_split (fun c => ev_ret (by rw [if_pos (ba_iff.1 c)])) (fun c => ev_eq ih (by rw [if_neg (fun e => c (ba_iff.2 e))]))
theorem knows_ev (w : S_impl_ClaimWant) (z : SzW w) (hs : s.length ≤ 140737488351232) (hn : n.length ≤ 140737488351232) :
    Ev (fun k => impl_ClaimBook_knows.f k f s n p m w.f0 w.f1 w.f2 w.f3 w.f4 w.f5) (knowsB s n w.f3 w.f4 w.f5) := by
  have z3 := z.h3; have z4 := z.h4; have z5 := z.h5
  have e1 := within_ev w.f4 n (by omega) hn
  have e2 := within_ev w.f5 n (by omega) hn
  unfold impl_ClaimBook_knows.f knowsB
  generalize w.f4.all (hasB n) = b1 at *
  generalize w.f5.all (hasB n) = b2 at *
  refine loopL z_impl_ClaimUse w.f3 (P := fun i r => Ev (fun k => impl_ClaimBook_knows.l0 k f s n p m w.f3 w.f4 w.f5 (i : Int)) (r.all (fun x => spotHas s x.f0) && (b1 && b2)))
    (by refine Ev.step (fun k => by rw [impl_ClaimBook_knows.l0]) ?_; exact ev_neg (by omega) (Ev.bind e1 (ev_b (fun c => Ev.bind e2 (ev_ret (by rw [c]; rfl))) (fun c => ev_ret (by rw [c]; rfl))))) (fun i x r hi hx hm _ ih => ?_)
  refine Ev.step (fun k => by rw [impl_ClaimBook_knows.l0]) (ev_pos (by omega) (ev_pos (by omega) ?_))
  rw [wsucc hi (by omega), rdCU, hx]
  refine Ev.bind (spot_ev f s n p _ x.f0 hs) (ev_split (fun c => ev_ret ?_) (fun c => ev_eq ih ?_))
  · rw [spotNeg] at c; rw [List.all_cons, c]; rfl
  · rw [spotNeg, Bool.not_eq_false] at c; rw [List.all_cons, c]; rfl
theorem settled_ev (w : S_impl_ClaimWant) (z : SzW w) (hs : s.length ≤ 140737488351232) (h4 : ∀ y ∈ s, y.f4.length ≤ 140737488351232) (h0 : ∀ y ∈ s, 0 ≤ y.f3) (hk : ∀ x ∈ w.f3, spotHas s x.f0 = true) :
    Ev (fun k => impl_ClaimBook_settled.f k f s n p m w.f0 w.f1 w.f2 w.f3 w.f4 w.f5) (settleB s w.f1 w.f2 w.f3) := by
  have z2 := z.h2; have z3 := z.h3
  unfold impl_ClaimBook_settled.f settleB
  refine loopL z_impl_ClaimUse w.f3 (P := fun i r => Ev (fun k => impl_ClaimBook_settled.l0 k f s n p m w.f1 w.f2 w.f3 (i : Int)) (r.all fun x => useOkB w.f1 w.f2 (spotOf s x.f0) x))
    (by refine Ev.step (fun k => by rw [impl_ClaimBook_settled.l0]) ?_; exact ev_neg (by omega) (ev_ret rfl)) (fun i x r hi hx hm _ ih => ?_)
  refine Ev.step (fun k => by rw [impl_ClaimBook_settled.l0]) (ev_pos (by omega) (ev_pos (by omega) ?_))
  rw [rdCU, hx]
  obtain ⟨j, j1, j2, j3, j4⟩ := getD_spot s x.f0 (hk x hm)
  have hy := h4 _ j4
  have hy0 := h0 _ j4
  refine Ev.bind (spot_ev f s n p m x.f0 hs) ?_
  rw [j2, j3]
  rw [show (List.all (x :: r) fun x => useOkB w.f1 w.f2 (spotOf s x.f0) x) = (useOkB w.f1 w.f2 (spotOf s x.f0) x && r.all fun x => useOkB w.f1 w.f2 (spotOf s x.f0) x) from rfl]
  generalize spotOf s x.f0 = y at *
  have e1 := within_ev y.f4 w.f2 hy (by omega)
  have e2 := within_ev w.f2 y.f4 (by omega) hy
  have J : Ev (fun k => impl_ClaimBook_settled.j0 k f s n p m w.f1 w.f2 w.f3 (i : Int)) (r.all fun x => useOkB w.f1 w.f2 (spotOf s x.f0) x) := by
    refine Ev.step (fun k => by rw [impl_ClaimBook_settled.j0]) ?_
    rw [wsucc hi (by omega)]; exact ih
  generalize (r.all fun x => useOkB w.f1 w.f2 (spotOf s x.f0) x) = R at *
  refine ev_pos (by omega) (ev_pos (by omega) ?_)
  unfold useOkB
  generalize y.f4.all (hasB w.f2) = b1 at *
  generalize w.f2.all (hasB y.f4) = b2 at *
  generalize w.f1 = kd at *
  refine ev_split (fun c0 => ev_ret ?_) (fun c0 => ?_)
  · rw [decide_eq_false (by omega : ¬ wrap64 (y.f2 + x.f2) ≤ y.f3)]; simp
  rw [decide_eq_true (by omega : wrap64 (y.f2 + x.f2) ≤ y.f3)]
  by_cases c1 : kd = 2
  · have c2 : ¬ kd = 1 := by omega
    by_cases c3 : y.f3 = 0
    · have c4 : ¬ y.f3 > 0 := by omega
      exact ev_pos c1 (ev_pos c3 (ev_neg c2 (ev_eq J (by simp [c2, c4]))))
    · have c4 : y.f3 > 0 := by omega
      exact ev_pos c1 (ev_neg c3 (ev_ret (by simp [c1, c4])))
  · refine ev_neg c1 ?_
    by_cases c2 : kd = 1
    · refine ev_pos c2 ?_
      rw [decide_eq_false c1, decide_eq_true c2]
      by_cases c3 : x.f1 = 2
      · have c4 : ¬ x.f1 = 1 := by omega
        rw [decide_eq_true c3, decide_eq_false c4]
        refine ev_pos c3 (ev_neg c4 (Ev.bind e2 (ev_b (fun c => ev_eq J (by rw [c]; simp)) (fun c => ev_ret (by rw [c]; simp)))))
      · rw [decide_eq_false c3]
        refine ev_neg c3 (Ev.bind e1 (ev_b (fun c => ?_) (fun c => ev_ret (by rw [c]; simp))))
        by_cases c4 : x.f1 = 1
        · rw [decide_eq_true c4]; exact ev_pos c4 (ev_eq J (by rw [c]; simp))
        · rw [decide_eq_false c4]
          exact ev_neg c4 (Ev.bind e2 (ev_b (fun d => ev_eq J (by rw [c, d]; simp)) (fun d => ev_ret (by rw [d]; simp))))
    · exact ev_neg c2 (ev_eq J (by rw [decide_eq_false c1, decide_eq_false c2]; simp))
theorem shareUse_ev (w v : S_impl_ClaimWant) (z : SzW w) (z' : SzW v) : Ev (fun k => impl_shareUse.f k w.f0 w.f1 w.f2 w.f3 w.f4 w.f5 v.f0 v.f1 v.f2 v.f3 v.f4 v.f5) (shareB (w.f3.map (·.f0)) (v.f3.map (·.f0))) := by
  have z3 := z.h3; have y3 := z'.h3
  unfold impl_shareUse.f shareB
  rw [List.any_map]
  refine loopL z_impl_ClaimUse w.f3 (P := fun i r => Ev (fun k => impl_shareUse.l0 k w.f3 v.f3 (i : Int)) (r.any (hasB (v.f3.map (·.f0)) ∘ (·.f0))))
    (by refine Ev.step (fun k => by rw [impl_shareUse.l0]) ?_; exact ev_neg (by omega) (ev_ret rfl)) (fun i x r hi hx hm _ ih => ?_)
  refine Ev.step (fun k => by rw [impl_shareUse.l0]) (ev_pos (by omega) (ev_pos (by omega) ?_))
  rw [List.any_cons, Function.comp_apply, hasB, List.any_map]
  refine loopL z_impl_ClaimUse v.f3 (P := fun j d => Ev (fun k => impl_shareUse.l1 k w.f3 v.f3 (i : Int) (j : Int)) ((d.any ((fun y => decide (y = x.f0)) ∘ (·.f0))) || r.any (hasB (v.f3.map (·.f0)) ∘ (·.f0))))
    (by refine Ev.step (fun k => by rw [impl_shareUse.l1]) ?_; rw [wsucc hi (by omega)]; exact ev_neg (by omega) (ev_eq ih rfl)) (fun j y d hj hy hmy _ ih2 => ?_)
  refine Ev.step (fun k => by rw [impl_shareUse.l1]) (ev_pos (by omega) (ev_pos (by omega) ?_))
  rw [wsucc hj (by omega), rdCU, rdCU, hx, hy, List.any_cons, Function.comp_apply]
  refine ev_split (fun c => ev_ret (by rw [ba_iff] at c; rw [decide_eq_true c.symm]; rfl)) (fun c => ev_eq ih2 (by rw [ba_iff] at c; rw [decide_eq_false (fun e => c e.symm)]; rfl))
theorem crosses1_ev (w v : S_impl_ClaimWant) (z : SzW w) (z' : SzW v) : Ev (fun k => impl_crosses_1.f k w.f0 w.f1 w.f2 w.f3 w.f4 w.f5 v.f0 v.f1 v.f2 v.f3 v.f4 v.f5) (shareB w.f4 v.f4 || shareB w.f4 v.f5) := by
  have z4 := z.h4; have z5 := z.h5; have y4 := z'.h4; have y5 := z'.h5
  unfold impl_crosses_1.f shareB
  refine loopL ByteArray.empty w.f4 (P := fun i r => Ev (fun k => impl_crosses_1.l0 k w.f4 v.f4 v.f5 (i : Int)) (r.any (hasB v.f4) || r.any (hasB v.f5)))
    (by refine Ev.step (fun k => by rw [impl_crosses_1.l0]) ?_; exact ev_neg (by omega) (ev_ret rfl)) (fun i x r hi hx hm _ ih => ?_)
  refine Ev.step (fun k => by rw [impl_crosses_1.l0]) (ev_pos (by omega) (ev_pos (by omega) ?_))
  rw [wsucc hi (by omega), rdOf_nat, hx, List.any_cons, List.any_cons]
  refine Ev.bind (has_ev v.f4 x (by omega)) (ev_b (fun c => ev_ret (by rw [c]; rfl)) (fun c => Ev.bind (has_ev v.f5 x (by omega)) (ev_b (fun d => ev_ret (by rw [d]; simp)) (fun d => ev_eq ih (by rw [c, d]; rfl)))))
theorem crosses_ev (w v : S_impl_ClaimWant) (z : SzW w) (z' : SzW v) : Ev (fun k => impl_crosses.f k v.f0 v.f1 v.f2 v.f3 v.f4 v.f5 w.f0 w.f1 w.f2 w.f3 w.f4 w.f5) (shareB w.f4 v.f4 || (shareB w.f4 v.f5 || shareB w.f5 v.f4)) := by
  have e1 := crosses1_ev w v z z'
  have e2 := crosses1_ev v w z' z
  rw [shareB_comm v.f4 w.f4, shareB_comm v.f4 w.f5] at e2
  unfold impl_crosses.f
  refine Ev.bind e2 (ev_b (fun c => ev_ret ?_) (fun c => Ev.bind e1 (ev_ret ?_)))
  · generalize shareB w.f4 v.f4 = a at *
    generalize shareB w.f4 v.f5 = b at *
    generalize shareB w.f5 v.f4 = d at *
    clear e1 e2; revert c; revert a b d; decide
  · generalize shareB w.f4 v.f4 = a at *
    generalize shareB w.f4 v.f5 = b at *
    generalize shareB w.f5 v.f4 = d at *
    clear e1 e2; revert c; revert a b d; decide
end
/-! ### claims: wants, parts, books, as the program has them -/
theorem implWantL1_ev (kd : Int) (u : List S_impl_ClaimUse) (op sh : List ByteArray) (h3 : u.length ≤ 140737488351232) (h4 : op.length ≤ 140737488351232) (h5 : sh.length ≤ 140737488351232) :
    Ev (fun k => impl_ClaimWantOk.l1 k kd u op sh 0) (!shareB op sh && (decide (u.length + op.length + sh.length ≠ 0) && (decide (kd = 1) || decide (op.length = 0)))) := by
  unfold shareB
  have hw : wrap64 (wrap64 ((u.length : Int) + (op.length : Int)) + (sh.length : Int)) = ((u.length + op.length + sh.length : Nat) : Int) := by unfold wrap64; omega
  refine loopL ByteArray.empty op (P := fun i r => Ev (fun k => impl_ClaimWantOk.l1 k kd u op sh (i : Int)) (!r.any (hasB sh) && (decide (u.length + op.length + sh.length ≠ 0) && (decide (kd = 1) || decide (op.length = 0)))))
    (by
      refine Ev.step (fun k => by rw [impl_ClaimWantOk.l1]) ?_
      rw [hw, show decide (((u.length + op.length + sh.length : Nat) : Int) > 0) = decide (u.length + op.length + sh.length ≠ 0) from decide_eq_decide.2 (by omega)]
      generalize decide (u.length + op.length + sh.length ≠ 0) = b at *
      refine ev_neg (by omega) (ev_split (fun c => ev_ret ?_) (fun c => ev_split (fun d => ev_ret ?_) (fun d => ev_ret ?_)))
      · rw [decide_eq_true (by omega : op.length = 0)]; simp
      · rw [decide_eq_true d]; simp
      · rw [decide_eq_false d, decide_eq_false (by omega : ¬ op.length = 0)]; simp) (fun i x r hi hx hm _ ih => ?_)
  refine Ev.step (fun k => by rw [impl_ClaimWantOk.l1]) (ev_pos (by omega) (ev_pos (by omega) ?_))
  rw [wsucc hi (by omega), rdOf_nat, hx, List.any_cons]
  refine Ev.bind (has_ev sh x h5) (ev_b (fun c => ev_ret (by rw [c]; rfl)) (fun c => ev_eq ih (by rw [c]; rfl)))
theorem implWantL0_ev (kd : Int) (u : List S_impl_ClaimUse) (op sh : List ByteArray) (h3 : u.length ≤ 140737488351232) (n3 : ∀ x ∈ u, x.f0.size ≤ 140737488351232) {T : Bool} (hT : Ev (fun k => impl_ClaimWantOk.l1 k kd u op sh 0) T) :
    Ev (fun k => impl_ClaimWantOk.l0 k kd u op sh 0) (usesB kd u && T) := by
  unfold usesB
  refine loopL z_impl_ClaimUse u (P := fun i r => Ev (fun k => impl_ClaimWantOk.l0 k kd u op sh (i : Int)) ((r.all (useB kd) && chainB useLt (ahead z_impl_ClaimUse u i) r) && T))
    (by refine Ev.step (fun k => by rw [impl_ClaimWantOk.l0]) ?_; exact ev_neg (by omega) hT) (fun i x r hi hx hm _ ih => ?_)
  rw [ahead_succ, hx] at ih
  have q := n3 x hm
  have J : ∀ c : Bool, nameB x.f0 = true → c = true → Ev (fun k => impl_ClaimWantOk.j0 k kd u op sh (i : Int)) (((useB kd x && r.all (useB kd)) && (c && chainB useLt (some x) r)) && T) := fun c hn hc => by
    subst hc
    refine Ev.step (fun k => by rw [impl_ClaimWantOk.j0]) ?_
    rw [wsucc hi (by omega), rdCU, hx]
    generalize r.all (useB kd) = R at *
    generalize chainB useLt (some x) r = C at *
    unfold useB
    rw [hn]
    refine ev_split (fun c1 => ev_split (fun c2 => ev_eq ih ?_) (fun c2 => ev_ret ?_)) (fun c1 => ?_)
    · rw [inB_t (by omega), if_pos c1, decide_eq_true c2]; simp
    · rw [if_pos c1, decide_eq_false c2]; simp
    · rw [if_neg c1]
      refine ev_split (fun c2 => ?_) (fun c2 => ev_split (fun c3 => ?_) (fun c3 => ev_ret ?_))
      · rw [inB_t (by omega : 1 ≤ x.f1 ∧ x.f1 ≤ 3)]
        refine ev_split (fun c4 => ev_ret ?_) (fun c4 => ev_split (fun c5 => ev_ret ?_) (fun c5 => ev_split (fun c6 => ev_eq ih ?_) (fun c6 => ev_ret ?_)))
        · rw [inB_f (by omega : ¬ (1 ≤ x.f2 ∧ x.f2 ≤ 1000))]; simp
        · rw [inB_f (by omega : ¬ (1 ≤ x.f2 ∧ x.f2 ≤ 1000))]; simp
        · rw [inB_t (by omega : 1 ≤ x.f2 ∧ x.f2 ≤ 1000), decide_eq_true c6]; simp
        · rw [decide_eq_false c6]; simp
      · rw [inB_t (by omega : 1 ≤ x.f1 ∧ x.f1 ≤ 3)]
        refine ev_split (fun c4 => ev_ret ?_) (fun c4 => ev_split (fun c5 => ev_ret ?_) (fun c5 => ev_split (fun c6 => ev_eq ih ?_) (fun c6 => ev_ret ?_)))
        · rw [inB_f (by omega : ¬ (1 ≤ x.f2 ∧ x.f2 ≤ 1000))]; simp
        · rw [inB_f (by omega : ¬ (1 ≤ x.f2 ∧ x.f2 ≤ 1000))]; simp
        · rw [inB_t (by omega : 1 ≤ x.f2 ∧ x.f2 ≤ 1000), decide_eq_true c6]; simp
        · rw [decide_eq_false c6]; simp
      · rw [inB_f (by omega : ¬ (1 ≤ x.f1 ∧ x.f1 ≤ 3))]; simp
  refine Ev.step (fun k => by rw [impl_ClaimWantOk.l0]) (ev_pos (by omega) (ev_pos (by omega) ?_))
  rw [rdCU, hx, List.all_cons]
  refine Ev.bind (isName_ev _ q) (ev_b (fun c => ?_) (fun c => ev_ret (by rw [useB, c]; rfl)))
  by_cases z : i = 0
  · subst z
    rw [ahead_zero, chain_none]
    exact ev_neg (by omega) (ev_eq (J true c rfl) (by rw [Bool.true_and]))
  · rw [pre64 z (by omega), rdCU, ahead_pos _ _ _ z]
    generalize u.getD (i - 1) z_impl_ClaimUse = y
    refine ev_pos (by omega) (ev_pos (by omega) (ev_pos (by omega) (ev_b (fun d => ?_) (fun d => ev_ret ?_))))
    · exact ev_eq (J true c rfl) (by rw [chainB, useLt, lt, d])
    · rw [chainB, useLt, lt, d]; simp
theorem implWant_ev (w : S_impl_ClaimWant) (z : SzW w) : Ev (fun k => impl_ClaimWantOk.f k w.f0 w.f1 w.f2 w.f3 w.f4 w.f5) (wantB w.f0 w.f1 w.f2 w.f3 w.f4 w.f5) := by
  have z2 := z.h2; have z3 := z.h3; have z4 := z.h4; have z5 := z.h5
  have e0 := implWantL0_ev w.f1 w.f3 w.f4 w.f5 (by omega) z.n3 (implWantL1_ev w.f1 w.f3 w.f4 w.f5 (by omega) (by omega) (by omega))
  have e2 := names_ev w.f2 (by omega) z.n2
  have e4 := names_ev w.f4 (by omega) z.n4
  have e5 := names_ev w.f5 (by omega) z.n5
  unfold impl_ClaimWantOk.f wantB upB
  rw [show decide ((w.f2.length : Int) > 0) = decide (w.f2.length ≠ 0) from decide_eq_decide.2 (by omega)]
  generalize decide (w.f3.length + w.f4.length + w.f5.length ≠ 0) = N at *
  generalize decide (w.f2.length ≠ 0) = M at *
  generalize decide (w.f4.length = 0) = K at *
  generalize shareB w.f4 w.f5 = S at *
  generalize usesB w.f1 w.f3 = U at *
  generalize namesB w.f2 = n2 at *
  generalize namesB w.f4 = n4 at *
  generalize namesB w.f5 = n5 at *
  refine ev_split (fun c => ev_ret (by rw [inB_f (by omega : ¬ (1 ≤ w.f0 ∧ w.f0 ≤ 1000000))]; rfl)) (fun c0 => ?_)
  refine ev_split (fun c => ev_ret (by rw [inB_f (by omega : ¬ (1 ≤ w.f0 ∧ w.f0 ≤ 1000000))]; rfl)) (fun c1 => ?_)
  refine ev_split (fun c => ev_ret (by rw [inB_f (by omega : ¬ (1 ≤ w.f1 ∧ w.f1 ≤ 3))]; simp)) (fun c2 => ?_)
  refine ev_split (fun c => ev_ret (by rw [inB_f (by omega : ¬ (1 ≤ w.f1 ∧ w.f1 ≤ 3))]; simp)) (fun c3 => ?_)
  rw [inB_t (by omega : 1 ≤ w.f0 ∧ w.f0 ≤ 1000000), inB_t (by omega : 1 ≤ w.f1 ∧ w.f1 ≤ 3)]
  generalize decide (w.f1 = 1) = D at *
  refine ev_split (fun c => ev_ret (by rw [decide_eq_false (by omega : ¬ w.f2.length ≤ 8)]; simp)) (fun c4 => ?_)
  rw [decide_eq_true (by omega : w.f2.length ≤ 8)]
  refine Ev.bind e2 (ev_b (fun c5 => ?_) (fun c5 => ev_ret (by rw [c5]; simp)))
  refine ev_b (fun c6 => ev_ret ?_) (fun c6 => ?_)
  · rw [show (D == M) = false by revert c6; clear e0; revert D M; decide]; simp
  rw [show (D == M) = true by revert c6; clear e0; revert D M; decide]
  refine ev_split (fun c => ev_ret (by rw [decide_eq_false (by omega : ¬ w.f3.length ≤ 8)]; simp)) (fun c7 => ?_)
  refine ev_split (fun c => ev_ret (by rw [decide_eq_false (by omega : ¬ w.f4.length ≤ 12)]; simp)) (fun c8 => ?_)
  refine ev_split (fun c => ev_ret (by rw [decide_eq_false (by omega : ¬ w.f5.length ≤ 12)]; simp)) (fun c9 => ?_)
  rw [decide_eq_true (by omega : w.f3.length ≤ 8), decide_eq_true (by omega : w.f4.length ≤ 12), decide_eq_true (by omega : w.f5.length ≤ 12)]
  refine Ev.bind e4 (ev_b (fun c10 => ?_) (fun c10 => ev_ret (by rw [c10]; simp)))
  refine Ev.bind e5 (ev_b (fun c11 => ?_) (fun c11 => ev_ret (by rw [c11]; simp)))
  rw [c5, c10, c11]
  exact ev_eq e0 (by simp)
section
variable (f : List S_impl_ClaimFoe) (s : List S_impl_ClaimSpot) (n : List ByteArray) (p : List S_impl_ClaimPart) (m : Int)
theorem knows_spot {w : S_impl_ClaimWant} (h : knowsB s n w.f3 w.f4 w.f5 = true) : ∀ x ∈ w.f3, spotHas s x.f0 = true := by
  unfold knowsB at h; rw [Bool.and_eq_true] at h
  exact fun x hx => List.all_eq_true.1 h.1 x hx
theorem implParts_ev (hp : ∀ x ∈ p, SzW x.f0) (hl : p.length ≤ 140737488351232) (hs : s.length ≤ 140737488351232) (hn : n.length ≤ 140737488351232) (h4 : ∀ y ∈ s, y.f4.length ≤ 140737488351232) (h0 : ∀ y ∈ s, 0 ≤ y.f3) :
    Ev (fun k => impl_ClaimBookOk.l1 k f s n p m 0) (partsB s n m p 0 p) := by
  refine loopL z_impl_ClaimPart p (P := fun i r => Ev (fun k => impl_ClaimBookOk.l1 k f s n p m (i : Int)) (partsB s n m p i r))
    (by refine Ev.step (fun k => by rw [impl_ClaimBookOk.l1]) ?_; exact ev_neg (by omega) (ev_ret rfl)) (fun i x r hi hx hm _ ih => ?_)
  have zx := hp x hm
  have hlen : (p.take i).length = i := by rw [List.length_take]; omega
  have L2 : Ev (fun k => impl_ClaimBookOk.l2 k f s n p m (i : Int) 0) (!(p.take i).any (fun y => hitB x.f0 y.f0) && partsB s n m p (i + 1) r) := by
    refine loopL z_impl_ClaimPart (p.take i) (P := fun j d => Ev (fun k => impl_ClaimBookOk.l2 k f s n p m (i : Int) (j : Int)) (!d.any (fun y => hitB x.f0 y.f0) && partsB s n m p (i + 1) r))
      (by refine Ev.step (fun k => by rw [impl_ClaimBookOk.l2]) ?_; rw [wsucc hi (by omega)]; exact ev_neg (by omega) (ev_eq ih rfl)) (fun j y d hj hy hmy _ ih2 => ?_)
    have zy := hp y (List.mem_of_mem_take hmy)
    refine Ev.step (fun k => by rw [impl_ClaimBookOk.l2]) (ev_pos (by omega) (ev_pos (by omega) ?_))
    rw [wsucc (show j < i by omega) (by omega), Int.toNat_natCast, rdCP, rdCP, hx, hy]
    refine Ev.bind (shareUse_ev y.f0 x.f0 zy zx) (ev_b (fun c => ev_ret ?_) (fun c => Ev.bind (crosses_ev x.f0 y.f0 zx zy) (ev_b (fun c2 => ev_ret ?_) (fun c2 => ev_eq ih2 ?_))))
    all_goals rw [shareB_comm] at c
    · rw [List.any_cons, hitB, c]; rfl
    · rw [List.any_cons, hitB, c2]; simp
    · rw [List.any_cons, hitB, c, c2]; simp
  have L3 : Ev (fun k => impl_ClaimBookOk.l3 k f s n p m (i : Int) 0) (!(p.take i).any (fun y => hitB x.f0 y.f0) && partsB s n m p (i + 1) r) := by
    refine loopL z_impl_ClaimPart (p.take i) (P := fun j d => Ev (fun k => impl_ClaimBookOk.l3 k f s n p m (i : Int) (j : Int)) (!d.any (fun y => hitB x.f0 y.f0) && partsB s n m p (i + 1) r))
      (by refine Ev.step (fun k => by rw [impl_ClaimBookOk.l3]) ?_; rw [wsucc hi (by omega)]; exact ev_neg (by omega) (ev_eq ih rfl)) (fun j y d hj hy hmy _ ih2 => ?_)
    have zy := hp y (List.mem_of_mem_take hmy)
    refine Ev.step (fun k => by rw [impl_ClaimBookOk.l3]) (ev_pos (by omega) (ev_pos (by omega) ?_))
    rw [wsucc (show j < i by omega) (by omega), Int.toNat_natCast, rdCP, rdCP, hx, hy]
    refine Ev.bind (shareUse_ev y.f0 x.f0 zy zx) (ev_b (fun c => ev_ret ?_) (fun c => Ev.bind (crosses_ev x.f0 y.f0 zx zy) (ev_b (fun c2 => ev_ret ?_) (fun c2 => ev_eq ih2 ?_))))
    all_goals rw [shareB_comm] at c
    · rw [List.any_cons, hitB, c]; rfl
    · rw [List.any_cons, hitB, c2]; simp
    · rw [List.any_cons, hitB, c, c2]; simp
  refine Ev.step (fun k => by rw [impl_ClaimBookOk.l1]) (ev_pos (by omega) (ev_pos (by omega) ?_))
  rw [rdCP, hx]
  have eW := implWant_ev x.f0 zx
  have eK := knows_ev f s n p m x.f0 zx hs hn
  have eS := fun hk => settled_ev f s n p m x.f0 zx hs h4 h0 (knows_spot s n hk)
  rw [show partsB s n m p i (x :: r) = ((partB s n m x.f0 && ((match ahead z_impl_ClaimPart p i with | none => true | some y => decide (y.f0.f0 < x.f0.f0)) && !(p.take i).any (fun y => hitB x.f0 y.f0))) && partsB s n m p (i + 1) r) from rfl]
  unfold partB
  generalize partsB s n m p (i + 1) r = R at *
  generalize (p.take i).any (fun y => hitB x.f0 y.f0) = H at *
  generalize wantB x.f0.f0 x.f0.f1 x.f0.f2 x.f0.f3 x.f0.f4 x.f0.f5 = W at *
  generalize settleB s x.f0.f1 x.f0.f2 x.f0.f3 = S at *
  by_cases z : i = 0
  · subst z
    refine ev_neg (by omega) (ev_split (fun c => ev_ret (by rw [decide_eq_false (by omega : ¬ x.f0.f0 ≤ m)]; simp)) (fun c => ?_))
    rw [decide_eq_true (by omega : x.f0.f0 ≤ m)]
    refine Ev.bind eW (ev_b (fun c1 => Ev.bind eK (ev_b (fun c2 => Ev.bind (eS c2) (ev_b (fun c3 => ev_pos (by omega) (ev_eq L3 ?_)) (fun c3 => ev_ret (by rw [c3]; simp)))) (fun c2 => ev_ret (by rw [c2]; simp)))) (fun c1 => ev_ret (by rw [c1]; simp)))
    rw [c1, c2, c3]; rfl
  · rw [pre64 z (by omega), rdCP, ahead_pos _ _ _ z]
    generalize p.getD (i - 1) z_impl_ClaimPart = y
    refine ev_pos (by omega) (ev_pos (by omega) (ev_pos (by omega) (ev_split (fun c2 => ev_ret ?_) (fun c2 => ?_))))
    · simp only []; rw [decide_eq_false (by omega : ¬ y.f0.f0 < x.f0.f0)]; simp
    simp only []
    rw [decide_eq_true (by omega : y.f0.f0 < x.f0.f0)]
    refine ev_split (fun c => ev_ret (by rw [decide_eq_false (by omega : ¬ x.f0.f0 ≤ m)]; simp)) (fun c => ?_)
    rw [decide_eq_true (by omega : x.f0.f0 ≤ m)]
    refine Ev.bind eW (ev_b (fun c1 => Ev.bind eK (ev_b (fun c2 => Ev.bind (eS c2) (ev_b (fun c3 => ev_pos (by omega) (ev_eq L2 ?_)) (fun c3 => ev_ret (by rw [c3]; simp)))) (fun c2 => ev_ret (by rw [c2]; simp)))) (fun c1 => ev_ret (by rw [c1]; simp)))
    rw [c1, c2, c3]; rfl
structure SzBk : Prop where
  hf : f.length ≤ 4398046511104
  hs : s.length ≤ 140737488351232
  hn : n.length ≤ 140737488351232
  hp : p.length ≤ 140737488351232
  f1 : ∀ x ∈ f, x.f0.size ≤ 140737488351232 ∧ x.f1.size ≤ 140737488351232
  s1 : ∀ x ∈ s, x.f0.size ≤ 140737488351232 ∧ x.f4.length ≤ 8796093022207 ∧ ∀ y ∈ x.f4, y.size ≤ 140737488351232
  n1 : ∀ x ∈ n, x.size ≤ 140737488351232
  p1 : ∀ x ∈ p, SzW x.f0
theorem implSpots_ev (z : SzBk f s n p) (hT : (∀ y ∈ s, 0 ≤ y.f3) → Ev (fun k => impl_ClaimBookOk.l1 k f s n p m 0) (partsB s n m p 0 p)) :
    Ev (fun k => impl_ClaimBookOk.l0 k f s n p m 0) ((s.all (spotB f) && chainB spotLt none s) && partsB s n m p 0 p) := by
  have hs := z.hs
  have hf := z.hf
  have eP := pairs_ev f s n p m hf
  generalize partsB s n m p 0 p = T at *
  have key := loopL z_impl_ClaimSpot s (P := fun i r => (∀ j, j < i → 0 ≤ (s.getD j z_impl_ClaimSpot).f3) → Ev (fun k => impl_ClaimBookOk.l0 k f s n p m (i : Int)) ((r.all (spotB f) && chainB spotLt (ahead z_impl_ClaimSpot s i) r) && T))
    (fun hj => by
      refine Ev.step (fun k => by rw [impl_ClaimBookOk.l0]) ?_
      exact ev_neg (by omega) (hT (fun y hy => by obtain ⟨j, h1, rfl⟩ := List.getElem_of_mem hy; have := hj j h1; rwa [getD_eq _ s j h1] at this))) (fun i x r hi hx hm _ ih hj => ?_)
  · exact key (fun j h => absurd h (Nat.not_lt_zero j))
  obtain ⟨q0, q4, q5⟩ := z.s1 x hm
  have ih : 0 ≤ x.f3 → _ := fun h3 => ih (fun j h => by
    by_cases e : j = i
    · rw [e, hx]; exact h3
    · exact hj j (by omega))
  refine Ev.step (fun k => by rw [impl_ClaimBookOk.l0]) (ev_pos (by omega) (ev_pos (by omega) ?_))
  rw [wsucc hi (by omega), rdCS, hx]
  rw [ahead_succ, hx] at ih
  have eN := names_ev x.f4 (by omega) q5
  have eC := anyFoes_ev f x.f4 x.f4 (by omega) (by omega) (by omega)
  rw [List.all_cons]
  have body : ∀ ch : Bool, nameB x.f0 = true → ch = true →
      Ev (fun k => if x.f1 < 0 then some false else if x.f1 > 1000 then some false else if x.f2 < 0 then some false else if x.f2 > x.f3 then some false else if x.f3 > x.f1 then some false else if (x.f4.length : Int) > 8 then some false else
        (impl_names.f k x.f4).bind fun t => if t = true then (impl_ClaimBook_pairs.f k f s n p m).bind fun t2 => (impl_anyFoes.f k t2 x.f4 x.f4).bind fun t3 => if t3 = true then some false else impl_ClaimBookOk.l0 k f s n p m ((i + 1 : Nat) : Int) else some false)
      (((spotB f x && r.all (spotB f)) && (ch && chainB spotLt (some x) r)) && T) := fun ch hn hc => by
    subst hc
    generalize r.all (spotB f) = R at *
    generalize chainB spotLt (some x) r = C at *
    unfold spotB upB
    rw [hn]
    generalize namesB x.f4 = b1 at *
    generalize clashB f x.f4 x.f4 = b2 at *
    refine ev_split (fun c => ev_ret (by rw [inB_f (by omega : ¬ (0 ≤ x.f1 ∧ x.f1 ≤ 1000))]; simp)) (fun c1 => ?_)
    refine ev_split (fun c => ev_ret (by rw [inB_f (by omega : ¬ (0 ≤ x.f1 ∧ x.f1 ≤ 1000))]; simp)) (fun c2 => ?_)
    refine ev_split (fun c => ev_ret (by rw [inB_f (by omega : ¬ (0 ≤ x.f2 ∧ x.f2 ≤ x.f3))]; simp)) (fun c3 => ?_)
    refine ev_split (fun c => ev_ret (by rw [inB_f (by omega : ¬ (0 ≤ x.f2 ∧ x.f2 ≤ x.f3))]; simp)) (fun c4 => ?_)
    refine ev_split (fun c => ev_ret (by rw [decide_eq_false (by omega : ¬ x.f3 ≤ x.f1)]; simp)) (fun c5 => ?_)
    refine ev_split (fun c => ev_ret (by rw [decide_eq_false (by omega : ¬ x.f4.length ≤ 8)]; simp)) (fun c6 => ?_)
    rw [inB_t (by omega : 0 ≤ x.f1 ∧ x.f1 ≤ 1000), inB_t (by omega : 0 ≤ x.f2 ∧ x.f2 ≤ x.f3), decide_eq_true (by omega : x.f3 ≤ x.f1), decide_eq_true (by omega : x.f4.length ≤ 8)]
    refine Ev.bind eN (ev_b (fun c7 => Ev.bind eP (Ev.bind eC (ev_b (fun c8 => ev_ret (by rw [c8]; simp)) (fun c8 => ev_eq (ih (by omega)) (by rw [c7, c8]; simp))))) (fun c7 => ev_ret (by rw [c7]; simp)))
  refine Ev.bind (isName_ev _ q0) (ev_b (fun c => ?_) (fun c => ev_ret (by rw [spotB, c]; rfl)))
  by_cases y0 : i = 0
  · subst y0
    rw [ahead_zero, chain_none]
    exact ev_neg (by omega) (ev_eq (body true c rfl) (by rw [Bool.true_and]))
  · rw [pre64 y0 (by omega), rdCS, ahead_pos _ _ _ y0]
    generalize s.getD (i - 1) z_impl_ClaimSpot = y
    refine ev_pos (by omega) (ev_pos (by omega) (ev_pos (by omega) (ev_b (fun d => ?_) (fun d => ev_ret ?_))))
    · exact ev_eq (body true c rfl) (by rw [chainB, spotLt, lt, d])
    · rw [chainB, spotLt, lt, d]; simp
theorem implBook_ev (z : SzBk f s n p) : Ev (fun k => impl_ClaimBookOk.f k f s n p m) (bookB f s n p m) := by
  have hf := z.hf; have hs := z.hs; have hn := z.hn; have hp := z.hp
  have eP := pairs_ev f s n p m hf
  have eF := foesOk_ev (f.map mkPair) 12 (by rw [List.length_map]; omega) (fun x hx => by obtain ⟨y, hy, rfl⟩ := List.mem_map.1 hx; exact z.f1 y hy)
  rw [pairs_same, List.length_map, show decide ((f.length : Int) ≤ 12) = decide (f.length ≤ 12) from decide_eq_decide.2 (by omega)] at eF
  have eN := names_ev n hn z.n1
  have e0 := implSpots_ev f s n p m z (fun h0 => implParts_ev f s n p m z.p1 hp hs hn (fun y hy => by have := (z.s1 y hy).2.1; omega) h0)
  unfold impl_ClaimBookOk.f bookB upB
  generalize partsB s n m p 0 p = T at *
  generalize (s.all (spotB f) && chainB spotLt none s) = T2 at *
  generalize foesB f = b1 at *
  generalize namesB n = b2 at *
  generalize decide (f.length ≤ 12) = b3 at *
  refine Ev.bind eP (Ev.bind eF (ev_b (fun c => ?_) (fun c => ev_ret ?_)))
  · rw [Bool.and_comm] at c
    rw [c]
    refine ev_split (fun c1 => ev_ret (by rw [decide_eq_false (by omega : ¬ s.length ≤ 8)]; simp)) (fun c1 => ?_)
    refine ev_split (fun c2 => ev_ret (by rw [decide_eq_false (by omega : ¬ n.length ≤ 12)]; simp)) (fun c2 => ?_)
    rw [decide_eq_true (by omega : s.length ≤ 8), decide_eq_true (by omega : n.length ≤ 12)]
    refine Ev.bind eN (ev_b (fun c3 => ?_) (fun c3 => ev_ret (by rw [c3]; simp)))
    refine ev_split (fun c4 => ev_ret (by rw [inB_f (by omega : ¬ (0 ≤ m ∧ m ≤ 1000000))]; simp)) (fun c4 => ?_)
    refine ev_split (fun c5 => ev_ret (by rw [inB_f (by omega : ¬ (0 ≤ m ∧ m ≤ 1000000))]; simp)) (fun c5 => ?_)
    refine ev_split (fun c6 => ev_ret (by rw [decide_eq_false (by omega : ¬ p.length ≤ 6)]; simp)) (fun c6 => ?_)
    rw [inB_t (by omega : 0 ≤ m ∧ m ≤ 1000000), decide_eq_true (by omega : p.length ≤ 6), c3]
    exact ev_eq e0 (by simp)
  · rw [Bool.and_comm] at c; rw [c]; rfl
end
/-! ### books that are handed in -/
theorem okWant_of (w : S_laws_ClaimWant) (h : ok_laws_ClaimWant w) : ok_impl_ClaimWant (cv_laws_ClaimWant w) := by
  obtain ⟨h0, h1, h2, ⟨h3, k3⟩, h4, h5⟩ := h
  refine ⟨h0, h1, h2, ⟨by show (w.f3.map cv_laws_ClaimUse).length ≤ _ ∧ (w.f3.map cv_laws_ClaimUse).length * 32 ≤ _; rw [List.length_map]; exact h3, fun y hy => ?_⟩, h4, h5⟩
  obtain ⟨z, hz, rfl⟩ := List.mem_map.1 hy
  exact k3 z hz
theorem szW_of (w : S_impl_ClaimWant) (h : ok_impl_ClaimWant w) : SzW w := by
  obtain ⟨h0, h1, ⟨h2, k2⟩, ⟨h3, k3⟩, ⟨h4, k4⟩, ⟨h5, k5⟩⟩ := h
  exact ⟨by omega, by omega, by omega, by omega, k2, fun x hx => (k3 x hx).1, k4, k5⟩
section
variable (x : S_laws_ClaimBook) (h : ok_laws_ClaimBook x)
include h
theorem szBk_of : SzBk (x.f0.map cv_laws_ClaimFoe) (x.f1.map cv_laws_ClaimSpot) x.f2 (x.f3.map cv_laws_ClaimPart) := by
  obtain ⟨⟨h0, k0⟩, ⟨h1, k1⟩, ⟨h2, k2⟩, ⟨h3, k3⟩, h4⟩ := h
  refine ⟨by rw [List.length_map]; omega, by rw [List.length_map]; omega, by omega, by rw [List.length_map]; omega, fun y hy => ?_, fun y hy => ?_, k2, fun y hy => ?_⟩
  · obtain ⟨z, hz, rfl⟩ := List.mem_map.1 hy; exact k0 z hz
  · obtain ⟨z, hz, rfl⟩ := List.mem_map.1 hy
    obtain ⟨q0, _, _, _, ⟨q4, q5⟩⟩ := k1 z hz
    refine ⟨q0, ?_, q5⟩
    show z.f4.length ≤ _
    omega
  · obtain ⟨z, hz, rfl⟩ := List.mem_map.1 hy
    exact szW_of _ (okWant_of _ (k3 z hz).1)
theorem eqBookRefl_ev : Ev (fun k => laws_eqClaimBook.f k (x.f0.map cv_laws_ClaimFoe) (x.f1.map cv_laws_ClaimSpot) x.f2 (x.f3.map cv_laws_ClaimPart) x.f4 (x.f0.map cv_laws_ClaimFoe) (x.f1.map cv_laws_ClaimSpot) x.f2 (x.f3.map cv_laws_ClaimPart) x.f4) true := by
  obtain ⟨⟨h0, k0⟩, ⟨h1, k1⟩, ⟨h2, k2⟩, ⟨h3, k3⟩, h4⟩ := h
  refine eqClaimBook_ev _ _ _ _ _ ⟨by rw [List.length_map]; exact h0, fun y hy => ?_⟩ ⟨by rw [List.length_map]; exact h1, fun y hy => ?_⟩ ⟨h2, k2⟩ ⟨by rw [List.length_map]; exact h3, fun y hy => ?_⟩ h4
  · obtain ⟨z, hz, rfl⟩ := List.mem_map.1 hy; exact k0 z hz
  · obtain ⟨z, hz, rfl⟩ := List.mem_map.1 hy; exact k1 z hz
  · obtain ⟨z, hz, rfl⟩ := List.mem_map.1 hy; exact ⟨okWant_of _ (k3 z hz).1, trivial⟩
theorem specBook_of : Ev (fun k => spec_ClaimBookOk.f k (x.f0.map cv_laws_ClaimFoe) (x.f1.map cv_laws_ClaimSpot) x.f2 (x.f3.map cv_laws_ClaimPart) x.f4) (bookB (x.f0.map cv_laws_ClaimFoe) (x.f1.map cv_laws_ClaimSpot) x.f2 (x.f3.map cv_laws_ClaimPart) x.f4) := by
  have z := szBk_of x h
  have z0 := z.hf
  exact specBook_ev _ _ _ _ _ (by omega) z.p1 z.hp z.hs z.hn (fun y hy => by have := (z.s1 y hy).2.1; omega)
theorem implBook_of : Ev (fun k => impl_ClaimBookOk.f k (x.f0.map cv_laws_ClaimFoe) (x.f1.map cv_laws_ClaimSpot) x.f2 (x.f3.map cv_laws_ClaimPart) x.f4) (bookB (x.f0.map cv_laws_ClaimFoe) (x.f1.map cv_laws_ClaimSpot) x.f2 (x.f3.map cv_laws_ClaimPart) x.f4) :=
  implBook_ev _ _ _ _ _ (szBk_of x h)
end
/-! ### who keeps it shut -/
def shutL (a : ByteArray) (p : List S_impl_ClaimPart) : List Int := (p.filter fun x => hasB x.f0.f5 a).map (fun x => x.f0.f0)
theorem shut_cons (a : ByteArray) (x : S_impl_ClaimPart) (r : List S_impl_ClaimPart) : shutL a (x :: r) = if hasB x.f0.f5 a = true then x.f0.f0 :: shutL a r else shutL a r := by
  unfold shutL; rw [List.filter_cons]; split <;> rfl
theorem shut_len (a : ByteArray) (p : List S_impl_ClaimPart) : (shutL a p).length ≤ p.length := by
  unfold shutL; rw [List.length_map]; exact List.length_filter_le _ _
theorem specShut_ev (p : List S_impl_ClaimPart) (a : ByteArray) (hl : p.length ≤ 4398046511104) (hp : ∀ x ∈ p, SzW x.f0) : Ev (fun k => spec_ClaimShut.l0 k p a [] 0) (shutL a p) := by
  have key := loopL z_impl_ClaimPart p (P := fun i r => ∀ t : List Int, t.length ≤ i → Ev (fun k => spec_ClaimShut.l0 k p a t (i : Int)) (t ++ shutL a r))
    (fun t ht => by refine Ev.step (fun k => by rw [spec_ClaimShut.l0]) ?_; exact ev_neg (by omega) (ev_ret (by simp [shutL]))) (fun i x r hi hx hm _ ih t ht => ?_)
  · exact key [] (Nat.zero_le _)
  have z := (hp x hm).h5
  refine Ev.step (fun k => by rw [spec_ClaimShut.l0]) (ev_pos (by omega) (ev_pos (by omega) ?_))
  rw [wsucc hi (by omega), rdCP, hx]
  refine Ev.bind (l21Has_ev _ a (by omega)) ?_
  rw [shut_cons]
  refine ev_split (fun c => ev_pos (by omega) (ev_eq (ih _ (by rw [List.length_append, List.length_singleton]; omega)) ?_)) (fun c => ev_eq (ih t (by omega)) ?_)
  · rw [if_pos c]; simp
  · rw [if_neg c]
theorem implShut_ev (p : List S_impl_ClaimPart) (a : ByteArray) (hl : p.length ≤ 4398046511104) (hp : ∀ x ∈ p, SzW x.f0) : Ev (fun k => impl_ClaimShut.l0 k p a [] 0) (shutL a p) := by
  have key := loopL z_impl_ClaimPart p (P := fun i r => ∀ t : List Int, t.length ≤ i → Ev (fun k => impl_ClaimShut.l0 k p a t (i : Int)) (t ++ shutL a r))
    (fun t ht => by refine Ev.step (fun k => by rw [impl_ClaimShut.l0]) ?_; exact ev_neg (by omega) (ev_ret (by simp [shutL]))) (fun i x r hi hx hm _ ih t ht => ?_)
  · exact key [] (Nat.zero_le _)
  have z := (hp x hm).h5
  refine Ev.step (fun k => by rw [impl_ClaimShut.l0]) (ev_pos (by omega) (ev_pos (by omega) ?_))
  rw [wsucc hi (by omega), rdCP, hx]
  refine Ev.bind (has_ev _ a (by omega)) ?_
  rw [shut_cons]
  refine ev_split (fun c => ev_pos (by omega) (ev_eq (ih _ (by rw [List.length_append, List.length_singleton]; omega)) ?_)) (fun c => ev_eq (ih t (by omega)) ?_)
  · rw [if_pos c]; simp
  · rw [if_neg c]
theorem FnExactClaimShut : ∀ (x0 : S_laws_ClaimBook) (x1 : ByteArray), (ok_laws_ClaimBook x0) → (x1.size ≤ 140737488351232) → ∃ k, laws_FnExactClaimShut.f k x0.f0 x0.f1 x0.f2 x0.f3 x0.f4 x1 = some true := by
  intro x a hx ha
  obtain ⟨q, hq, hqb⟩ := dn_szClaimBook x hx 1048576 (by omega) (by omega)
  have ht := toClaimBook_ev x hx
  have hS := specBook_of x hx
  have hI := implBook_of x hx
  have hE := eqBookRefl_ev x hx
  have z := szBk_of x hx
  have lp : (x.f3.map cv_laws_ClaimPart).length ≤ 4398046511104 := by have := hx.2.2.2.1.1; rw [List.length_map]; omega
  have eS0 := specShut_ev _ a lp z.p1
  have eI0 := implShut_ev _ a lp z.p1
  have hM : ¬ q < 0 → ∃ m, Ev (fun k => laws_markClaimBook.f k (x.f0.map cv_laws_ClaimFoe) (x.f1.map cv_laws_ClaimSpot) x.f2 (x.f3.map cv_laws_ClaimPart) x.f4 1) m ∧ 1 ≤ m.1 := fun c => by
    have b := hqb (by omega)
    have t1 := tes_laws_ClaimSpot_cv x.f1
    have t2 := tes_laws_ClaimPart_cv x.f3
    have n0 : (x.f0.map cv_laws_ClaimFoe).length = x.f0.length := List.length_map ..
    have n1 : (x.f1.map cv_laws_ClaimSpot).length = x.f1.length := List.length_map ..
    have n3 : (x.f3.map cv_laws_ClaimPart).length = x.f3.length := List.length_map ..
    have p1 := tes_impl_ClaimSpot_pos (x.f1.map cv_laws_ClaimSpot)
    have p2 := tes_impl_ClaimPart_pos (x.f3.map cv_laws_ClaimPart)
    obtain ⟨m, m1, m2, _⟩ := mk_markClaimBook (x.f0.map cv_laws_ClaimFoe) (x.f1.map cv_laws_ClaimSpot) x.f2 (x.f3.map cv_laws_ClaimPart) x.f4 1 (by omega) (by omega) (by omega) (by omega) (by omega) (by omega)
    exact ⟨m, m1, m2⟩
  clear z
  have hsl := shut_len a (x.f3.map cv_laws_ClaimPart)
  generalize x.f0.map cv_laws_ClaimFoe = f at *
  generalize x.f1.map cv_laws_ClaimSpot = s at *
  generalize x.f3.map cv_laws_ClaimPart = p at *
  generalize bookB f s x.f2 p x.f4 = b at *
  have eS : Ev (fun k => spec_ClaimShut.f k f s x.f2 p x.f4 a) (if b = true then shutL a p else []) := by
    unfold spec_ClaimShut.f
    exact Ev.bind hS (ev_split (fun c => ev_eq eS0 (by rw [if_pos c])) (fun c => ev_ret (by rw [if_neg c])))
  have eI : Ev (fun k => impl_ClaimShut.f k f s x.f2 p x.f4 a) (if b = true then shutL a p else []) := by
    unfold impl_ClaimShut.f
    exact Ev.bind hI (ev_split (fun c => ev_eq eI0 (by rw [if_pos c])) (fun c => ev_ret (by rw [if_neg c])))
  have rl : (if b = true then shutL a p else []).length ≤ 4398046511104 := by
    split
    · omega
    · simp
  generalize (if b = true then shutL a p else []) = r at *
  have e2 := eqIntS_ev r (by omega)
  have e3 := markIntS_ev r 1 (by omega) (by omega) (by omega)
  have e4 := heldIntS_ev r.length 1 (by omega) (by omega) (by omega)
  refine Ev.rounds ?_
  unfold laws_FnExactClaimShut.f
  refine ev_split (fun _ => ev_ret rfl) (fun _ => Ev.bind hq (ev_split (fun _ => ev_ret rfl) (fun c => ?_)))
  obtain ⟨m, hm, hm0⟩ := hM c
  clear hM hS hI hqb hx ha lp eS0 eI0 hsl
  repeat' (first
    | with_reducible refine Ev.bind ht ?_
    | with_reducible refine Ev.bind eS ?_
    | with_reducible refine Ev.bind eI ?_
    | with_reducible refine Ev.bind e2 ?_
    | with_reducible refine Ev.bind hE ?_
    | with_reducible refine Ev.bind hm ?_
    | with_reducible refine Ev.bind e3 ?_
    | with_reducible refine Ev.bind e4 ?_
    | with_reducible refine ev_neg (by first | omega | (dsimp only; omega)) ?_
    | with_reducible refine ev_pos rfl ?_
    | with_reducible exact ev_ret rfl)
end Go.Proofs.Ytamkmmkchdnkmaa.Pure
