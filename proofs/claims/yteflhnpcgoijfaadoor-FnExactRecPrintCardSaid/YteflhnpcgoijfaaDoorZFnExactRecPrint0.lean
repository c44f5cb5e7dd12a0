import Derived.Test.YteflhnpcgoijfaaDoorY1
import Derived.Shelf.Lay
import Derived.Test.YteflhnpcgoijfaaDoorProg
import Derived.KernelRfl
set_option linter.unusedVariables false
namespace Go.Proofs.YteflhnpcgoijfaaDoor.RP
open Go Go.RowKit Go.Aw
structure S_laws_RecPhase where
  f0 : ByteArray
  f1 : Int
  f2 : ByteArray
  f3 : ByteArray
  f4 : Int
  f5 : Int
  f6 : ByteArray
  f7 : ByteArray
def z_laws_RecPhase : S_laws_RecPhase := ⟨(⟨#[]⟩ : ByteArray), (0 : Int), (⟨#[]⟩ : ByteArray), (⟨#[]⟩ : ByteArray), (0 : Int), (0 : Int), (⟨#[]⟩ : ByteArray), (⟨#[]⟩ : ByteArray)⟩
def rd_laws_RecPhase (xs : List S_laws_RecPhase) (i : Int) : S_laws_RecPhase := xs.getD i.toNat z_laws_RecPhase
structure S_impl_RecPhase where
  f0 : ByteArray
  f1 : Int
  f2 : ByteArray
  f3 : ByteArray
  f4 : Int
  f5 : Int
  f6 : ByteArray
  f7 : ByteArray
def z_impl_RecPhase : S_impl_RecPhase := ⟨(⟨#[]⟩ : ByteArray), (0 : Int), (⟨#[]⟩ : ByteArray), (⟨#[]⟩ : ByteArray), (0 : Int), (0 : Int), (⟨#[]⟩ : ByteArray), (⟨#[]⟩ : ByteArray)⟩
def rd_impl_RecPhase (xs : List S_impl_RecPhase) (i : Int) : S_impl_RecPhase := xs.getD i.toNat z_impl_RecPhase
def ok_laws_RecPhase (y : S_laws_RecPhase) : Prop := (y.f0.size ≤ 140737488351232) ∧ ((Lit.int .i64 y.f1).wf = true) ∧ (y.f2.size ≤ 140737488351232) ∧ (y.f3.size ≤ 140737488351232) ∧ ((Lit.int .i64 y.f4).wf = true) ∧ ((Lit.int .i64 y.f5).wf = true) ∧ (y.f6.size ≤ 140737488351232) ∧ (y.f7.size ≤ 140737488351232)
def laws_szRecPhase.f (a0_0 : ByteArray) (a0_1 : Int) (a0_2 : ByteArray) (a0_3 : ByteArray) (a0_4 : Int) (a0_5 : Int) (a0_6 : ByteArray) (a0_7 : ByteArray) (a1 : Int) : Option (Int) := (if (wrap64 (a1 - (a0_0.size : Int))) < 0 then (some (-1)) else (if (wrap64 ((wrap64 (a1 - (a0_0.size : Int))) - (a0_2.size : Int))) < 0 then (some (-1)) else (if (wrap64 ((wrap64 ((wrap64 (a1 - (a0_0.size : Int))) - (a0_2.size : Int))) - (a0_3.size : Int))) < 0 then (some (-1)) else (if (wrap64 ((wrap64 ((wrap64 ((wrap64 (a1 - (a0_0.size : Int))) - (a0_2.size : Int))) - (a0_3.size : Int))) - (a0_6.size : Int))) < 0 then (some (-1)) else (if (wrap64 ((wrap64 ((wrap64 ((wrap64 ((wrap64 (a1 - (a0_0.size : Int))) - (a0_2.size : Int))) - (a0_3.size : Int))) - (a0_6.size : Int))) - (a0_7.size : Int))) < 0 then (some (-1)) else (some (wrap64 ((wrap64 ((wrap64 ((wrap64 ((wrap64 (a1 - (a0_0.size : Int))) - (a0_2.size : Int))) - (a0_3.size : Int))) - (a0_6.size : Int))) - (a0_7.size : Int)))))))))
def laws_szRecPhaseS.l0 : Nat → List S_laws_RecPhase → Int → Int → Option (Int)
  | 0, _, _, _ => none
  | k + 1, l0, x1, x5 => (if x5 < (l0.length : Int) then (if 0 ≤ x5 then ((laws_szRecPhase.f ((rd_laws_RecPhase l0 x5).f0) ((rd_laws_RecPhase l0 x5).f1) ((rd_laws_RecPhase l0 x5).f2) ((rd_laws_RecPhase l0 x5).f3) ((rd_laws_RecPhase l0 x5).f4) ((rd_laws_RecPhase l0 x5).f5) ((rd_laws_RecPhase l0 x5).f6) ((rd_laws_RecPhase l0 x5).f7) x1).bind fun t4 => (if t4 < 0 then (some (-1)) else (laws_szRecPhaseS.l0 k l0 t4 (wrap64 (x5 + 1))))) else none) else (some x1))
def laws_szRecPhaseS.f (k : Nat) (l0 : List S_laws_RecPhase) (a1 : Int) : Option (Int) := (if (wrap64 (a1 - (l0.length : Int))) < 0 then (some (-1)) else (laws_szRecPhaseS.l0 k l0 (wrap64 (a1 - (l0.length : Int))) 0))
def laws_toRecPhase.f (a0_0 : ByteArray) (a0_1 : Int) (a0_2 : ByteArray) (a0_3 : ByteArray) (a0_4 : Int) (a0_5 : Int) (a0_6 : ByteArray) (a0_7 : ByteArray) : Option (ByteArray × Int × ByteArray × ByteArray × Int × Int × ByteArray × ByteArray) := (some (a0_0, a0_1, a0_2, a0_3, a0_4, a0_5, a0_6, a0_7))
def laws_toRecPhaseS.l0 : Nat → List S_laws_RecPhase → List S_impl_RecPhase → Int → Option (List S_impl_RecPhase)
  | 0, _, _, _ => none
  | k + 1, l0, x3, x4 => (if x4 < (l0.length : Int) then (if 0 ≤ x4 then ((laws_toRecPhase.f ((rd_laws_RecPhase l0 x4).f0) ((rd_laws_RecPhase l0 x4).f1) ((rd_laws_RecPhase l0 x4).f2) ((rd_laws_RecPhase l0 x4).f3) ((rd_laws_RecPhase l0 x4).f4) ((rd_laws_RecPhase l0 x4).f5) ((rd_laws_RecPhase l0 x4).f6) ((rd_laws_RecPhase l0 x4).f7)).bind fun t13 => (if x4 < (x3.length : Int) then (laws_toRecPhaseS.l0 k l0 (x3.set (x4).toNat (⟨t13.1, t13.2.1, t13.2.2.1, t13.2.2.2.1, t13.2.2.2.2.1, t13.2.2.2.2.2.1, t13.2.2.2.2.2.2.1, t13.2.2.2.2.2.2.2⟩ : S_impl_RecPhase)) (wrap64 (x4 + 1))) else none)) else none) else (some x3))
def laws_toRecPhaseS.f (k : Nat) (l0 : List S_laws_RecPhase) : Option (List S_impl_RecPhase) := (if (l0.length : Int) * 104 ≤ 140737488355328 then (laws_toRecPhaseS.l0 k l0 (List.replicate ((l0.length : Int)).toNat z_impl_RecPhase) 0) else none)
def spec_l41In.f (a0 : Int) (a1 : Int) (a2 : Int) : Option (Bool) := (if a0 ≥ a1 then (some (decide (a0 ≤ a2))) else (some false))
def spec_l41NameOk.l0 : Nat → ByteArray → Int → Option (Bool)
  | 0, _, _ => none
  | k + 1, a0, x3 => (if x3 < (a0.size : Int) then (if 0 ≤ x3 then (if (bt a0 x3) ≥ 97 then (if (bt a0 x3) ≤ 122 then (spec_l41NameOk.l0 k a0 (wrap64 (x3 + 1))) else (if (bt a0 x3) ≥ 48 then (if (bt a0 x3) ≤ 57 then (spec_l41NameOk.l0 k a0 (wrap64 (x3 + 1))) else (if (bt a0 x3) = 45 then (spec_l41NameOk.l0 k a0 (wrap64 (x3 + 1))) else (some false))) else (if (bt a0 x3) = 45 then (spec_l41NameOk.l0 k a0 (wrap64 (x3 + 1))) else (some false)))) else (if (bt a0 x3) ≥ 48 then (if (bt a0 x3) ≤ 57 then (spec_l41NameOk.l0 k a0 (wrap64 (x3 + 1))) else (if (bt a0 x3) = 45 then (spec_l41NameOk.l0 k a0 (wrap64 (x3 + 1))) else (some false))) else (if (bt a0 x3) = 45 then (spec_l41NameOk.l0 k a0 (wrap64 (x3 + 1))) else (some false)))) else none) else (some true))
def spec_l41NameOk.f (k : Nat) (a0 : ByteArray) : Option (Bool) := ((spec_l41In.f (a0.size : Int) 1 8).bind fun t43 => (if t43 = true then (spec_l41NameOk.l0 k a0 0) else (some false)))
def spec_RecEnd.f (a0 : ByteArray) : Option (Int) := (if a0.toList = (⟨#[103, 111, 111, 100]⟩ : ByteArray).toList then (some 1) else (if a0.toList = (⟨#[115, 97, 118, 101, 100]⟩ : ByteArray).toList then (some 2) else (if a0.toList = (⟨#[115, 99, 114, 97, 112, 112, 101, 100]⟩ : ByteArray).toList then (some 3) else (some 0))))
def spec_l41PlainOk.f (k : Nat) (a0 : ByteArray) : Option (Bool) := ((spec_l41NameOk.f k a0).bind fun t53 => (if t53 = true then ((spec_RecEnd.f a0).bind fun t54 => (some (decide (t54 = 0)))) else (some false)))
def spec_l41ArgsOk.f (k : Nat) (a0_0 : ByteArray) (a0_1 : Int) (a0_2 : ByteArray) (a0_3 : ByteArray) (a0_4 : Int) (a0_5 : Int) (a0_6 : ByteArray) (a0_7 : ByteArray) : Option (Bool) := (if a0_1 = 1 then ((spec_l41NameOk.f k a0_2).bind fun t83 => (if t83 = true then ((spec_l41NameOk.f k a0_3).bind fun t84 => (if t84 = true then ((spec_l41In.f a0_4 1 1000).bind fun t85 => (some t85)) else (some false))) else (some false))) else (if a0_1 = 2 then ((spec_l41NameOk.f k a0_2).bind fun t86 => (if t86 = true then ((spec_l41NameOk.f k a0_3).bind fun t87 => (if t87 = true then (if a0_2.toList = a0_3.toList then (some false) else ((spec_l41In.f a0_4 1 1000).bind fun t88 => (some t88))) else (some false))) else (some false))) else (if a0_1 = 3 then ((spec_l41NameOk.f k a0_2).bind fun t89 => (if t89 = true then (if a0_3.toList = (⟨#[]⟩ : ByteArray).toList then ((spec_l41In.f a0_4 1 a0_5).bind fun t90 => (some t90)) else (some false)) else (some false))) else (if a0_1 = 4 then ((spec_l41NameOk.f k a0_2).bind fun t91 => (if t91 = true then (if a0_3.toList = (⟨#[]⟩ : ByteArray).toList then (some (decide (a0_4 = 0))) else (some false)) else (some false))) else (if a0_1 = 5 then ((spec_l41NameOk.f k a0_2).bind fun t92 => (if t92 = true then (if a0_3.toList = (⟨#[]⟩ : ByteArray).toList then (some (decide (a0_4 = 0))) else (some false)) else (some false))) else (some false))))))
def spec_RecPhaseOk.f (k : Nat) (a0_0 : ByteArray) (a0_1 : Int) (a0_2 : ByteArray) (a0_3 : ByteArray) (a0_4 : Int) (a0_5 : Int) (a0_6 : ByteArray) (a0_7 : ByteArray) : Option (Bool) := ((spec_l41PlainOk.f k a0_0).bind fun t98 => (if t98 = true then ((spec_l41In.f a0_5 1 1000).bind fun t99 => (if t99 = true then ((spec_l41ArgsOk.f k a0_0 a0_1 a0_2 a0_3 a0_4 a0_5 a0_6 a0_7).bind fun t100 => (if t100 = true then ((spec_l41NameOk.f k a0_6).bind fun t101 => (if t101 = true then ((spec_l41NameOk.f k a0_7).bind fun t102 => (some t102)) else (some false))) else (some false))) else (some false))) else (some false)))
def spec_l42At.l0 : Nat → List S_impl_RecPhase → ByteArray → Int → Option (Int)
  | 0, _, _, _ => none
  | k + 1, l0, a1, x5 => (if x5 < (l0.length : Int) then (if 0 ≤ x5 then (if ((rd_impl_RecPhase l0 x5).f0).toList = a1.toList then (some x5) else (spec_l42At.l0 k l0 a1 (wrap64 (x5 + 1)))) else none) else (some (-1)))
def spec_l42At.f (k : Nat) (l0 : List S_impl_RecPhase) (a1 : ByteArray) : Option (Int) := (spec_l42At.l0 k l0 a1 0)
def spec_RecOk.l0 : Nat → List S_impl_RecPhase → Int → Option (Bool)
  | 0, _, _ => none
  | k + 1, l0, x3 => (if x3 < (l0.length : Int) then (if 0 ≤ x3 then ((spec_RecPhaseOk.f k ((rd_impl_RecPhase l0 x3).f0) ((rd_impl_RecPhase l0 x3).f1) ((rd_impl_RecPhase l0 x3).f2) ((rd_impl_RecPhase l0 x3).f3) ((rd_impl_RecPhase l0 x3).f4) ((rd_impl_RecPhase l0 x3).f5) ((rd_impl_RecPhase l0 x3).f6) ((rd_impl_RecPhase l0 x3).f7)).bind fun t145 => (if t145 = true then ((spec_l42At.f k l0 ((rd_impl_RecPhase l0 x3).f0)).bind fun t146 => (if t146 = x3 then ((spec_RecEnd.f ((rd_impl_RecPhase l0 x3).f6)).bind fun t147 => (if t147 = 0 then ((spec_l42At.f k l0 ((rd_impl_RecPhase l0 x3).f6)).bind fun t148 => (if t148 ≤ x3 then (some false) else ((spec_RecEnd.f ((rd_impl_RecPhase l0 x3).f7)).bind fun t149 => (if t149 = 0 then ((spec_l42At.f k l0 ((rd_impl_RecPhase l0 x3).f7)).bind fun t150 => (if t150 ≤ x3 then (some false) else (spec_RecOk.l0 k l0 (wrap64 (x3 + 1))))) else (spec_RecOk.l0 k l0 (wrap64 (x3 + 1))))))) else ((spec_RecEnd.f ((rd_impl_RecPhase l0 x3).f7)).bind fun t151 => (if t151 = 0 then ((spec_l42At.f k l0 ((rd_impl_RecPhase l0 x3).f7)).bind fun t152 => (if t152 ≤ x3 then (some false) else (spec_RecOk.l0 k l0 (wrap64 (x3 + 1))))) else (spec_RecOk.l0 k l0 (wrap64 (x3 + 1))))))) else (some false))) else (some false))) else none) else (some true))
def spec_RecOk.f (k : Nat) (l0 : List S_impl_RecPhase) : Option (Bool) := ((spec_l41In.f (l0.length : Int) 1 12).bind fun t112 => (if t112 = true then (spec_RecOk.l0 k l0 0) else (some false)))
def spec_l43Kind.f (a0 : Int) : Option (ByteArray) := (if 0 ≤ a0 then (if a0 < (6 : Int) then (some (rdOf ByteArray.empty ([(⟨#[]⟩ : ByteArray), (⟨#[102, 105, 108, 108]⟩ : ByteArray), (⟨#[109, 111, 118, 101]⟩ : ByteArray), (⟨#[104, 111, 108, 100]⟩ : ByteArray), (⟨#[99, 108, 101, 97, 110]⟩ : ByteArray), (⟨#[116, 101, 115, 116]⟩ : ByteArray)] : List ByteArray) a0)) else none) else none)
def spec_l43Dec.f : Nat → Int → Option (ByteArray)
  | 0, _ => none
  | k + 1, a0 => (if a0 < 10 then (some (⟨#[UInt8.ofNat (IntKind.wrap .u8 (wrap64 (48 + a0))).toNat]⟩ : ByteArray)) else ((spec_l43Dec.f k (wrap64 (Int.tdiv a0 10))).bind fun t168 => (if ((t168.size + (⟨#[UInt8.ofNat (IntKind.wrap .u8 (wrap64 (48 + (Int.tmod a0 10)))).toNat]⟩ : ByteArray).size : Nat) : Int) ≤ 9223372036854775807 then (some (t168 ++ (⟨#[UInt8.ofNat (IntKind.wrap .u8 (wrap64 (48 + (Int.tmod a0 10)))).toNat]⟩ : ByteArray))) else none)))
mutual
def spec_RecPrint.j0 : Nat → List S_impl_RecPhase → ByteArray → Int → Option (ByteArray)
  | 0, _, _, _ => none
  | k + 1, l0, x3_1, x4 => (spec_RecPrint.l0 k l0 x3_1 (wrap64 (x4 + 1)))
def spec_RecPrint.j1 : Nat → List S_impl_RecPhase → ByteArray → Int → Option (ByteArray)
  | 0, _, _, _ => none
  | k + 1, l0, x3_3, x4 => (if ((x3_3.size + (⟨#[32, 119, 105, 116, 104, 105, 110, 32]⟩ : ByteArray).size : Nat) : Int) ≤ 9223372036854775807 then ((spec_l43Dec.f k ((rd_impl_RecPhase l0 x4).f5)).bind fun t196 => (if (((x3_3 ++ (⟨#[32, 119, 105, 116, 104, 105, 110, 32]⟩ : ByteArray)).size + t196.size : Nat) : Int) ≤ 9223372036854775807 then (if ((((x3_3 ++ (⟨#[32, 119, 105, 116, 104, 105, 110, 32]⟩ : ByteArray)) ++ t196).size + (⟨#[32, 116, 104, 101, 110, 32]⟩ : ByteArray).size : Nat) : Int) ≤ 9223372036854775807 then (if (((((x3_3 ++ (⟨#[32, 119, 105, 116, 104, 105, 110, 32]⟩ : ByteArray)) ++ t196) ++ (⟨#[32, 116, 104, 101, 110, 32]⟩ : ByteArray)).size + ((rd_impl_RecPhase l0 x4).f6).size : Nat) : Int) ≤ 9223372036854775807 then (if ((((((x3_3 ++ (⟨#[32, 119, 105, 116, 104, 105, 110, 32]⟩ : ByteArray)) ++ t196) ++ (⟨#[32, 116, 104, 101, 110, 32]⟩ : ByteArray)) ++ ((rd_impl_RecPhase l0 x4).f6)).size + (⟨#[32, 101, 108, 115, 101, 32]⟩ : ByteArray).size : Nat) : Int) ≤ 9223372036854775807 then (if (((((((x3_3 ++ (⟨#[32, 119, 105, 116, 104, 105, 110, 32]⟩ : ByteArray)) ++ t196) ++ (⟨#[32, 116, 104, 101, 110, 32]⟩ : ByteArray)) ++ ((rd_impl_RecPhase l0 x4).f6)) ++ (⟨#[32, 101, 108, 115, 101, 32]⟩ : ByteArray)).size + ((rd_impl_RecPhase l0 x4).f7).size : Nat) : Int) ≤ 9223372036854775807 then (if ((((((((x3_3 ++ (⟨#[32, 119, 105, 116, 104, 105, 110, 32]⟩ : ByteArray)) ++ t196) ++ (⟨#[32, 116, 104, 101, 110, 32]⟩ : ByteArray)) ++ ((rd_impl_RecPhase l0 x4).f6)) ++ (⟨#[32, 101, 108, 115, 101, 32]⟩ : ByteArray)) ++ ((rd_impl_RecPhase l0 x4).f7)).size + (⟨#[10]⟩ : ByteArray).size : Nat) : Int) ≤ 9223372036854775807 then (spec_RecPrint.j0 k l0 (((((((x3_3 ++ (⟨#[32, 119, 105, 116, 104, 105, 110, 32]⟩ : ByteArray)) ++ t196) ++ (⟨#[32, 116, 104, 101, 110, 32]⟩ : ByteArray)) ++ ((rd_impl_RecPhase l0 x4).f6)) ++ (⟨#[32, 101, 108, 115, 101, 32]⟩ : ByteArray)) ++ ((rd_impl_RecPhase l0 x4).f7)) ++ (⟨#[10]⟩ : ByteArray)) x4) else none) else none) else none) else none) else none) else none)) else none)
def spec_RecPrint.j2 : Nat → List S_impl_RecPhase → ByteArray → Int → Option (ByteArray)
  | 0, _, _, _ => none
  | k + 1, l0, x3_2, x4 => (if ((rd_impl_RecPhase l0 x4).f4) > 0 then (if ((x3_2.size + (⟨#[32]⟩ : ByteArray).size : Nat) : Int) ≤ 9223372036854775807 then ((spec_l43Dec.f k ((rd_impl_RecPhase l0 x4).f4)).bind fun t197 => (if (((x3_2 ++ (⟨#[32]⟩ : ByteArray)).size + t197.size : Nat) : Int) ≤ 9223372036854775807 then (spec_RecPrint.j1 k l0 ((x3_2 ++ (⟨#[32]⟩ : ByteArray)) ++ t197) x4) else none)) else none) else (spec_RecPrint.j1 k l0 x3_2 x4))
def spec_RecPrint.l0 : Nat → List S_impl_RecPhase → ByteArray → Int → Option (ByteArray)
  | 0, _, _, _ => none
  | k + 1, l0, x3, x4 => (if x4 < (l0.length : Int) then (if 0 ≤ x4 then (if ((x3.size + ((rd_impl_RecPhase l0 x4).f0).size : Nat) : Int) ≤ 9223372036854775807 then (if (((x3 ++ ((rd_impl_RecPhase l0 x4).f0)).size + (⟨#[32]⟩ : ByteArray).size : Nat) : Int) ≤ 9223372036854775807 then ((spec_l43Kind.f ((rd_impl_RecPhase l0 x4).f1)).bind fun t194 => (if ((((x3 ++ ((rd_impl_RecPhase l0 x4).f0)) ++ (⟨#[32]⟩ : ByteArray)).size + t194.size : Nat) : Int) ≤ 9223372036854775807 then (if (((((x3 ++ ((rd_impl_RecPhase l0 x4).f0)) ++ (⟨#[32]⟩ : ByteArray)) ++ t194).size + (⟨#[32]⟩ : ByteArray).size : Nat) : Int) ≤ 9223372036854775807 then (if ((((((x3 ++ ((rd_impl_RecPhase l0 x4).f0)) ++ (⟨#[32]⟩ : ByteArray)) ++ t194) ++ (⟨#[32]⟩ : ByteArray)).size + ((rd_impl_RecPhase l0 x4).f2).size : Nat) : Int) ≤ 9223372036854775807 then (if ((rd_impl_RecPhase l0 x4).f3).toList = (⟨#[]⟩ : ByteArray).toList then (spec_RecPrint.j2 k l0 (((((x3 ++ ((rd_impl_RecPhase l0 x4).f0)) ++ (⟨#[32]⟩ : ByteArray)) ++ t194) ++ (⟨#[32]⟩ : ByteArray)) ++ ((rd_impl_RecPhase l0 x4).f2)) x4) else (if (((((((x3 ++ ((rd_impl_RecPhase l0 x4).f0)) ++ (⟨#[32]⟩ : ByteArray)) ++ t194) ++ (⟨#[32]⟩ : ByteArray)) ++ ((rd_impl_RecPhase l0 x4).f2)).size + (⟨#[32]⟩ : ByteArray).size : Nat) : Int) ≤ 9223372036854775807 then (if ((((((((x3 ++ ((rd_impl_RecPhase l0 x4).f0)) ++ (⟨#[32]⟩ : ByteArray)) ++ t194) ++ (⟨#[32]⟩ : ByteArray)) ++ ((rd_impl_RecPhase l0 x4).f2)) ++ (⟨#[32]⟩ : ByteArray)).size + ((rd_impl_RecPhase l0 x4).f3).size : Nat) : Int) ≤ 9223372036854775807 then (spec_RecPrint.j2 k l0 (((((((x3 ++ ((rd_impl_RecPhase l0 x4).f0)) ++ (⟨#[32]⟩ : ByteArray)) ++ t194) ++ (⟨#[32]⟩ : ByteArray)) ++ ((rd_impl_RecPhase l0 x4).f2)) ++ (⟨#[32]⟩ : ByteArray)) ++ ((rd_impl_RecPhase l0 x4).f3)) x4) else none) else none)) else none) else none) else none)) else none) else none) else none) else (some x3))
end
def spec_RecPrint.f (k : Nat) (l0 : List S_impl_RecPhase) : Option (ByteArray) := ((spec_RecOk.f k l0).bind fun t171 => (if t171 = true then (spec_RecPrint.l0 k l0 (⟨#[]⟩ : ByteArray) 0) else (some (⟨#[]⟩ : ByteArray))))
def impl_isName.l0 : Nat → ByteArray → Int → Option (Bool)
  | 0, _, _ => none
  | k + 1, a0, x7 => (if x7 < (a0.size : Int) then (if 0 ≤ x7 then (if (bt a0 x7) < 97 then (if (bt a0 x7) < 48 then (if (bt a0 x7) = 45 then (impl_isName.l0 k a0 (wrap64 (x7 + 1))) else (some false)) else (if (bt a0 x7) > 57 then (if (bt a0 x7) = 45 then (impl_isName.l0 k a0 (wrap64 (x7 + 1))) else (some false)) else (impl_isName.l0 k a0 (wrap64 (x7 + 1))))) else (if (bt a0 x7) > 122 then (if (bt a0 x7) < 48 then (if (bt a0 x7) = 45 then (impl_isName.l0 k a0 (wrap64 (x7 + 1))) else (some false)) else (if (bt a0 x7) > 57 then (if (bt a0 x7) = 45 then (impl_isName.l0 k a0 (wrap64 (x7 + 1))) else (some false)) else (impl_isName.l0 k a0 (wrap64 (x7 + 1))))) else (impl_isName.l0 k a0 (wrap64 (x7 + 1))))) else none) else (if (a0.size : Int) ≥ 1 then (some (decide ((a0.size : Int) ≤ 8))) else (some false)))
def impl_isName.f (k : Nat) (a0 : ByteArray) : Option (Bool) := (impl_isName.l0 k a0 0)
def impl_RecEnd.f (a0 : ByteArray) : Option (Int) := (if a0.toList = (⟨#[103, 111, 111, 100]⟩ : ByteArray).toList then (some 1) else (if a0.toList = (⟨#[115, 97, 118, 101, 100]⟩ : ByteArray).toList then (some 2) else (if a0.toList = (⟨#[115, 99, 114, 97, 112, 112, 101, 100]⟩ : ByteArray).toList then (some 3) else (some 0))))
def impl_RecPhaseOk.j0 : Nat → ByteArray → Int → Int → Bool → Option (Bool)
  | 0, _, _, _, _ => none
  | k + 1, a0_3, a0_4, x3, x4 => (if x4 = true then ((impl_isName.f k a0_3).bind fun t258 => (if t258 = true then (if a0_4 ≤ x3 then (if a0_4 ≥ 1 then (some true) else (if x3 = 0 then (some (decide (a0_4 = 0))) else (some false))) else (some false)) else (some false))) else (if a0_3.toList = (⟨#[]⟩ : ByteArray).toList then (if a0_4 ≤ x3 then (if a0_4 ≥ 1 then (some true) else (if x3 = 0 then (some (decide (a0_4 = 0))) else (some false))) else (some false)) else (some false)))
def impl_RecPhaseOk.f (k : Nat) (a0_0 : ByteArray) (a0_1 : Int) (a0_2 : ByteArray) (a0_3 : ByteArray) (a0_4 : Int) (a0_5 : Int) (a0_6 : ByteArray) (a0_7 : ByteArray) : Option (Bool) := ((impl_isName.f k a0_0).bind fun t249 => (if t249 = true then ((impl_RecEnd.f a0_0).bind fun t250 => (if t250 = 0 then (if a0_5 < 1 then (some false) else (if a0_5 > 1000 then (some false) else ((impl_isName.f k a0_2).bind fun t251 => (if t251 = true then ((impl_isName.f k a0_6).bind fun t252 => (if t252 = true then ((impl_isName.f k a0_7).bind fun t253 => (if t253 = true then (if a0_1 = 1 then (impl_RecPhaseOk.j0 k a0_3 a0_4 1000 true) else (if a0_1 = 2 then (if a0_2.toList = a0_3.toList then (some false) else (impl_RecPhaseOk.j0 k a0_3 a0_4 1000 true)) else (if a0_1 = 3 then (impl_RecPhaseOk.j0 k a0_3 a0_4 a0_5 false) else (if a0_1 = 4 then (impl_RecPhaseOk.j0 k a0_3 a0_4 0 false) else (if a0_1 = 5 then (impl_RecPhaseOk.j0 k a0_3 a0_4 0 false) else (some false)))))) else (some false))) else (some false))) else (some false))))) else (some false))) else (some false)))
def impl_phase.l0 : Nat → List S_impl_RecPhase → ByteArray → Int → Option (Int)
  | 0, _, _, _ => none
  | k + 1, l0, a1, x9 => (if x9 < (l0.length : Int) then (if 0 ≤ x9 then (if ((rd_impl_RecPhase l0 x9).f0).toList = a1.toList then (some x9) else (impl_phase.l0 k l0 a1 (wrap64 (x9 + 1)))) else none) else (some (-1)))
def impl_phase.f (k : Nat) (l0 : List S_impl_RecPhase) (a1 : ByteArray) : Option (Int) := (impl_phase.l0 k l0 a1 0)
mutual
def impl_RecOk.l2 : Nat → List S_impl_RecPhase → Int → List ByteArray → Int → Option (Bool)
  | 0, _, _, _, _ => none
  | k + 1, l0, x38, x47, x49 => (if x49 < 2 then (if 0 ≤ x49 then (if x49 < (x47.length : Int) then ((impl_RecEnd.f (rdOf ByteArray.empty x47 x49)).bind fun t296 => (if t296 = 0 then ((impl_phase.f k l0 (rdOf ByteArray.empty x47 x49)).bind fun t297 => (if t297 ≤ x38 then (some false) else (impl_RecOk.l2 k l0 x38 x47 (wrap64 (x49 + 1))))) else (impl_RecOk.l2 k l0 x38 x47 (wrap64 (x49 + 1))))) else none) else none) else (impl_RecOk.l1 k l0 (wrap64 (x38 + 1))))
def impl_RecOk.l1 : Nat → List S_impl_RecPhase → Int → Option (Bool)
  | 0, _, _ => none
  | k + 1, l0, x38 => (if x38 < (l0.length : Int) then (if 0 ≤ x38 then (impl_RecOk.l2 k l0 x38 ([(rd_impl_RecPhase l0 x38).f6, (rd_impl_RecPhase l0 x38).f7] : List ByteArray) 0) else none) else (some true))
end
def impl_RecOk.l0 : Nat → List S_impl_RecPhase → Int → Option (Bool)
  | 0, _, _ => none
  | k + 1, l0, x19 => (if x19 < (l0.length : Int) then (if 0 ≤ x19 then ((impl_RecPhaseOk.f k ((rd_impl_RecPhase l0 x19).f0) ((rd_impl_RecPhase l0 x19).f1) ((rd_impl_RecPhase l0 x19).f2) ((rd_impl_RecPhase l0 x19).f3) ((rd_impl_RecPhase l0 x19).f4) ((rd_impl_RecPhase l0 x19).f5) ((rd_impl_RecPhase l0 x19).f6) ((rd_impl_RecPhase l0 x19).f7)).bind fun t274 => (if t274 = true then ((impl_phase.f k l0 ((rd_impl_RecPhase l0 x19).f0)).bind fun t275 => (if t275 = x19 then (impl_RecOk.l0 k l0 (wrap64 (x19 + 1))) else (some false))) else (some false))) else none) else (impl_RecOk.l1 k l0 0))
def impl_RecOk.f (k : Nat) (l0 : List S_impl_RecPhase) : Option (Bool) := (if (l0.length : Int) < 1 then (some false) else (if (l0.length : Int) > 12 then (some false) else (impl_RecOk.l0 k l0 0)))
def strconv_Itoa.f (x0 : Int) : Option (ByteArray) := itoaSf x0
mutual
def impl_RecPrint.j0 : Nat → List S_impl_RecPhase → ByteArray → Int → Option (ByteArray)
  | 0, _, _, _ => none
  | k + 1, l0, x3_1, x11 => (impl_RecPrint.l0 k l0 x3_1 (wrap64 (x11 + 1)))
def impl_RecPrint.j1 : Nat → List S_impl_RecPhase → ByteArray → Int → Option (ByteArray)
  | 0, _, _, _ => none
  | k + 1, l0, x3_3, x11 => ((strconv_Itoa.f ((rd_impl_RecPhase l0 x11).f5)).bind fun t319 => (if (((⟨#[32, 119, 105, 116, 104, 105, 110, 32]⟩ : ByteArray).size + t319.size : Nat) : Int) ≤ 9223372036854775807 then (if ((((⟨#[32, 119, 105, 116, 104, 105, 110, 32]⟩ : ByteArray) ++ t319).size + (⟨#[32, 116, 104, 101, 110, 32]⟩ : ByteArray).size : Nat) : Int) ≤ 9223372036854775807 then (if (((((⟨#[32, 119, 105, 116, 104, 105, 110, 32]⟩ : ByteArray) ++ t319) ++ (⟨#[32, 116, 104, 101, 110, 32]⟩ : ByteArray)).size + ((rd_impl_RecPhase l0 x11).f6).size : Nat) : Int) ≤ 9223372036854775807 then (if ((((((⟨#[32, 119, 105, 116, 104, 105, 110, 32]⟩ : ByteArray) ++ t319) ++ (⟨#[32, 116, 104, 101, 110, 32]⟩ : ByteArray)) ++ ((rd_impl_RecPhase l0 x11).f6)).size + (⟨#[32, 101, 108, 115, 101, 32]⟩ : ByteArray).size : Nat) : Int) ≤ 9223372036854775807 then (if (((((((⟨#[32, 119, 105, 116, 104, 105, 110, 32]⟩ : ByteArray) ++ t319) ++ (⟨#[32, 116, 104, 101, 110, 32]⟩ : ByteArray)) ++ ((rd_impl_RecPhase l0 x11).f6)) ++ (⟨#[32, 101, 108, 115, 101, 32]⟩ : ByteArray)).size + ((rd_impl_RecPhase l0 x11).f7).size : Nat) : Int) ≤ 9223372036854775807 then (if ((((((((⟨#[32, 119, 105, 116, 104, 105, 110, 32]⟩ : ByteArray) ++ t319) ++ (⟨#[32, 116, 104, 101, 110, 32]⟩ : ByteArray)) ++ ((rd_impl_RecPhase l0 x11).f6)) ++ (⟨#[32, 101, 108, 115, 101, 32]⟩ : ByteArray)) ++ ((rd_impl_RecPhase l0 x11).f7)).size + (⟨#[10]⟩ : ByteArray).size : Nat) : Int) ≤ 9223372036854775807 then (if ((x3_3.size + (((((((⟨#[32, 119, 105, 116, 104, 105, 110, 32]⟩ : ByteArray) ++ t319) ++ (⟨#[32, 116, 104, 101, 110, 32]⟩ : ByteArray)) ++ ((rd_impl_RecPhase l0 x11).f6)) ++ (⟨#[32, 101, 108, 115, 101, 32]⟩ : ByteArray)) ++ ((rd_impl_RecPhase l0 x11).f7)) ++ (⟨#[10]⟩ : ByteArray)).size : Nat) : Int) ≤ 9223372036854775807 then (impl_RecPrint.j0 k l0 (x3_3 ++ (((((((⟨#[32, 119, 105, 116, 104, 105, 110, 32]⟩ : ByteArray) ++ t319) ++ (⟨#[32, 116, 104, 101, 110, 32]⟩ : ByteArray)) ++ ((rd_impl_RecPhase l0 x11).f6)) ++ (⟨#[32, 101, 108, 115, 101, 32]⟩ : ByteArray)) ++ ((rd_impl_RecPhase l0 x11).f7)) ++ (⟨#[10]⟩ : ByteArray))) x11) else none) else none) else none) else none) else none) else none) else none))
def impl_RecPrint.j2 : Nat → List S_impl_RecPhase → ByteArray → Int → Option (ByteArray)
  | 0, _, _, _ => none
  | k + 1, l0, x3_2, x11 => (if ((rd_impl_RecPhase l0 x11).f4) > 0 then ((strconv_Itoa.f ((rd_impl_RecPhase l0 x11).f4)).bind fun t320 => (if (((⟨#[32]⟩ : ByteArray).size + t320.size : Nat) : Int) ≤ 9223372036854775807 then (if ((x3_2.size + ((⟨#[32]⟩ : ByteArray) ++ t320).size : Nat) : Int) ≤ 9223372036854775807 then (impl_RecPrint.j1 k l0 (x3_2 ++ ((⟨#[32]⟩ : ByteArray) ++ t320)) x11) else none) else none)) else (impl_RecPrint.j1 k l0 x3_2 x11))
def impl_RecPrint.l0 : Nat → List S_impl_RecPhase → ByteArray → Int → Option (ByteArray)
  | 0, _, _, _ => none
  | k + 1, l0, x3, x11 => (if x11 < (l0.length : Int) then (if 0 ≤ x11 then (if ((((rd_impl_RecPhase l0 x11).f0).size + (⟨#[32]⟩ : ByteArray).size : Nat) : Int) ≤ 9223372036854775807 then (if 0 ≤ ((rd_impl_RecPhase l0 x11).f1) then (if ((rd_impl_RecPhase l0 x11).f1) < (6 : Int) then (if (((((rd_impl_RecPhase l0 x11).f0) ++ (⟨#[32]⟩ : ByteArray)).size + (rdOf ByteArray.empty ([(⟨#[]⟩ : ByteArray), (⟨#[102, 105, 108, 108]⟩ : ByteArray), (⟨#[109, 111, 118, 101]⟩ : ByteArray), (⟨#[104, 111, 108, 100]⟩ : ByteArray), (⟨#[99, 108, 101, 97, 110]⟩ : ByteArray), (⟨#[116, 101, 115, 116]⟩ : ByteArray)] : List ByteArray) ((rd_impl_RecPhase l0 x11).f1)).size : Nat) : Int) ≤ 9223372036854775807 then (if ((((((rd_impl_RecPhase l0 x11).f0) ++ (⟨#[32]⟩ : ByteArray)) ++ (rdOf ByteArray.empty ([(⟨#[]⟩ : ByteArray), (⟨#[102, 105, 108, 108]⟩ : ByteArray), (⟨#[109, 111, 118, 101]⟩ : ByteArray), (⟨#[104, 111, 108, 100]⟩ : ByteArray), (⟨#[99, 108, 101, 97, 110]⟩ : ByteArray), (⟨#[116, 101, 115, 116]⟩ : ByteArray)] : List ByteArray) ((rd_impl_RecPhase l0 x11).f1))).size + (⟨#[32]⟩ : ByteArray).size : Nat) : Int) ≤ 9223372036854775807 then (if (((((((rd_impl_RecPhase l0 x11).f0) ++ (⟨#[32]⟩ : ByteArray)) ++ (rdOf ByteArray.empty ([(⟨#[]⟩ : ByteArray), (⟨#[102, 105, 108, 108]⟩ : ByteArray), (⟨#[109, 111, 118, 101]⟩ : ByteArray), (⟨#[104, 111, 108, 100]⟩ : ByteArray), (⟨#[99, 108, 101, 97, 110]⟩ : ByteArray), (⟨#[116, 101, 115, 116]⟩ : ByteArray)] : List ByteArray) ((rd_impl_RecPhase l0 x11).f1))) ++ (⟨#[32]⟩ : ByteArray)).size + ((rd_impl_RecPhase l0 x11).f2).size : Nat) : Int) ≤ 9223372036854775807 then (if ((x3.size + ((((((rd_impl_RecPhase l0 x11).f0) ++ (⟨#[32]⟩ : ByteArray)) ++ (rdOf ByteArray.empty ([(⟨#[]⟩ : ByteArray), (⟨#[102, 105, 108, 108]⟩ : ByteArray), (⟨#[109, 111, 118, 101]⟩ : ByteArray), (⟨#[104, 111, 108, 100]⟩ : ByteArray), (⟨#[99, 108, 101, 97, 110]⟩ : ByteArray), (⟨#[116, 101, 115, 116]⟩ : ByteArray)] : List ByteArray) ((rd_impl_RecPhase l0 x11).f1))) ++ (⟨#[32]⟩ : ByteArray)) ++ ((rd_impl_RecPhase l0 x11).f2)).size : Nat) : Int) ≤ 9223372036854775807 then (if ((rd_impl_RecPhase l0 x11).f3).toList = (⟨#[]⟩ : ByteArray).toList then (impl_RecPrint.j2 k l0 (x3 ++ ((((((rd_impl_RecPhase l0 x11).f0) ++ (⟨#[32]⟩ : ByteArray)) ++ (rdOf ByteArray.empty ([(⟨#[]⟩ : ByteArray), (⟨#[102, 105, 108, 108]⟩ : ByteArray), (⟨#[109, 111, 118, 101]⟩ : ByteArray), (⟨#[104, 111, 108, 100]⟩ : ByteArray), (⟨#[99, 108, 101, 97, 110]⟩ : ByteArray), (⟨#[116, 101, 115, 116]⟩ : ByteArray)] : List ByteArray) ((rd_impl_RecPhase l0 x11).f1))) ++ (⟨#[32]⟩ : ByteArray)) ++ ((rd_impl_RecPhase l0 x11).f2))) x11) else (if (((⟨#[32]⟩ : ByteArray).size + ((rd_impl_RecPhase l0 x11).f3).size : Nat) : Int) ≤ 9223372036854775807 then (if (((x3 ++ ((((((rd_impl_RecPhase l0 x11).f0) ++ (⟨#[32]⟩ : ByteArray)) ++ (rdOf ByteArray.empty ([(⟨#[]⟩ : ByteArray), (⟨#[102, 105, 108, 108]⟩ : ByteArray), (⟨#[109, 111, 118, 101]⟩ : ByteArray), (⟨#[104, 111, 108, 100]⟩ : ByteArray), (⟨#[99, 108, 101, 97, 110]⟩ : ByteArray), (⟨#[116, 101, 115, 116]⟩ : ByteArray)] : List ByteArray) ((rd_impl_RecPhase l0 x11).f1))) ++ (⟨#[32]⟩ : ByteArray)) ++ ((rd_impl_RecPhase l0 x11).f2))).size + ((⟨#[32]⟩ : ByteArray) ++ ((rd_impl_RecPhase l0 x11).f3)).size : Nat) : Int) ≤ 9223372036854775807 then (impl_RecPrint.j2 k l0 ((x3 ++ ((((((rd_impl_RecPhase l0 x11).f0) ++ (⟨#[32]⟩ : ByteArray)) ++ (rdOf ByteArray.empty ([(⟨#[]⟩ : ByteArray), (⟨#[102, 105, 108, 108]⟩ : ByteArray), (⟨#[109, 111, 118, 101]⟩ : ByteArray), (⟨#[104, 111, 108, 100]⟩ : ByteArray), (⟨#[99, 108, 101, 97, 110]⟩ : ByteArray), (⟨#[116, 101, 115, 116]⟩ : ByteArray)] : List ByteArray) ((rd_impl_RecPhase l0 x11).f1))) ++ (⟨#[32]⟩ : ByteArray)) ++ ((rd_impl_RecPhase l0 x11).f2))) ++ ((⟨#[32]⟩ : ByteArray) ++ ((rd_impl_RecPhase l0 x11).f3))) x11) else none) else none)) else none) else none) else none) else none) else none) else none) else none) else none) else (some x3))
end
def impl_RecPrint.f (k : Nat) (l0 : List S_impl_RecPhase) : Option (ByteArray) := ((impl_RecOk.f k l0).bind fun t300 => (if t300 = true then (impl_RecPrint.l0 k l0 (⟨#[]⟩ : ByteArray) 0) else (some (⟨#[]⟩ : ByteArray))))
def laws_eqRecPhase.f (a0_0 : ByteArray) (a0_1 : Int) (a0_2 : ByteArray) (a0_3 : ByteArray) (a0_4 : Int) (a0_5 : Int) (a0_6 : ByteArray) (a0_7 : ByteArray) (a1_0 : ByteArray) (a1_1 : Int) (a1_2 : ByteArray) (a1_3 : ByteArray) (a1_4 : Int) (a1_5 : Int) (a1_6 : ByteArray) (a1_7 : ByteArray) : Option (Bool) := (if a0_0.toList = a1_0.toList then (if a0_1 = a1_1 then (if a0_2.toList = a1_2.toList then (if a0_3.toList = a1_3.toList then (if a0_4 = a1_4 then (if a0_5 = a1_5 then (if a0_6.toList = a1_6.toList then (if a0_7.toList = a1_7.toList then (some true) else (some false)) else (some false)) else (some false)) else (some false)) else (some false)) else (some false)) else (some false)) else (some false))
def laws_eqRecPhaseS.l0 : Nat → List S_impl_RecPhase → List S_impl_RecPhase → Int → Option (Bool)
  | 0, _, _, _ => none
  | k + 1, l0, l1, x5 => (if x5 < (l0.length : Int) then (if 0 ≤ x5 then (if x5 < (l1.length : Int) then ((laws_eqRecPhase.f ((rd_impl_RecPhase l0 x5).f0) ((rd_impl_RecPhase l0 x5).f1) ((rd_impl_RecPhase l0 x5).f2) ((rd_impl_RecPhase l0 x5).f3) ((rd_impl_RecPhase l0 x5).f4) ((rd_impl_RecPhase l0 x5).f5) ((rd_impl_RecPhase l0 x5).f6) ((rd_impl_RecPhase l0 x5).f7) ((rd_impl_RecPhase l1 x5).f0) ((rd_impl_RecPhase l1 x5).f1) ((rd_impl_RecPhase l1 x5).f2) ((rd_impl_RecPhase l1 x5).f3) ((rd_impl_RecPhase l1 x5).f4) ((rd_impl_RecPhase l1 x5).f5) ((rd_impl_RecPhase l1 x5).f6) ((rd_impl_RecPhase l1 x5).f7)).bind fun t346 => (if t346 = true then (laws_eqRecPhaseS.l0 k l0 l1 (wrap64 (x5 + 1))) else (some false))) else none) else none) else (some true))
def laws_eqRecPhaseS.f (k : Nat) (l0 : List S_impl_RecPhase) (l1 : List S_impl_RecPhase) : Option (Bool) := (if (l0.length : Int) = (l1.length : Int) then (laws_eqRecPhaseS.l0 k l0 l1 0) else (some false))
def laws_FnExactRecPrint.f (k : Nat) (l0 : List S_laws_RecPhase) : Option (Bool) := ((laws_szRecPhaseS.f k l0 1048576).bind fun t348 => (if t348 < 0 then (some true) else ((laws_toRecPhaseS.f k l0).bind fun t351 => ((spec_RecPrint.f k t351).bind fun t352 => ((laws_toRecPhaseS.f k l0).bind fun t354 => ((impl_RecPrint.f k t354).bind fun t356 => (if t356.toList = t352.toList then ((laws_toRecPhaseS.f k l0).bind fun t361 => ((laws_eqRecPhaseS.f k t354 t361).bind fun t362 => (if t362 = true then (some true) else (some false)))) else (some false))))))))
end Go.Proofs.YteflhnpcgoijfaaDoor.RP
namespace Go.Proofs.YteflhnpcgoijfaaDoor.Pure
open Go Go.RowKit Go.Aw Go.Proofs.YteflhnpcgoijfaaDoor.RP
set_option linter.unusedVariables false
set_option linter.unusedSimpArgs false
/-! ### general words -/
theorem ev_pos {α : Type} {c : Prop} {d : Decidable c} {g f : Nat → Option α} {r : α} (h : c) (k : Ev g r) : Ev (fun n => @ite _ c d (g n) (f n)) r := Ev.congr (fun _ => if_pos h) k
theorem ev_neg {α : Type} {c : Prop} {d : Decidable c} {g f : Nat → Option α} {r : α} (h : ¬ c) (k : Ev f r) : Ev (fun n => @ite _ c d (g n) (f n)) r := Ev.congr (fun _ => if_neg h) k
theorem ev_ret {α : Type} {a r : α} (h : a = r) : Ev (fun _ => some a) r := h ▸ Ev.now a
theorem ev_let {α β : Type} {g : Option α} {a : α} {r : β} {f : Nat → α → Option β} (h : g = some a) (k : Ev (fun n => f n a) r) : Ev (fun n => g.bind (f n)) r := by
  subst h; exact k
theorem ev_eq {α : Type} {g : Nat → Option α} {a r : α} (k : Ev g a) (h : a = r) : Ev g r := h ▸ k
theorem ev_split {α : Type} {c : Prop} {d : Decidable c} {g f : Nat → Option α} {r : α} (h : c → Ev g r) (k : ¬ c → Ev f r) : Ev (fun n => @ite _ c d (g n) (f n)) r := by
  by_cases q : c
  · exact ev_pos q (h q)
  · exact ev_neg q (k q)
/-- a value that is called on -/
theorem ev_of {α β : Type} {g : Nat → Option α} {a : α} {r : β} {f : Nat → α → Option β} (h : Ev g a) (k : Ev (fun n => f n a) r) : Ev (fun n => (g n).bind (f n)) r := Ev.bind h k
theorem ex_ret {α : Type} {a : α} : ∃ q, Ev (fun _ => some a) q := ⟨a, Ev.now a⟩
theorem ex_ite {α : Type} {c : Prop} {d : Decidable c} {g f : Nat → Option α} (h : ∃ q, Ev g q) (k : ∃ q, Ev f q) : ∃ q, Ev (fun n => @ite _ c d (g n) (f n)) q := by
  by_cases q : c
  · exact h.imp fun _ e => ev_pos q e
  · exact k.imp fun _ e => ev_neg q e
theorem ex_pos {α : Type} {c : Prop} {d : Decidable c} {g f : Nat → Option α} (h : c) (k : ∃ q, Ev g q) : ∃ q, Ev (fun n => @ite _ c d (g n) (f n)) q := k.imp fun _ e => ev_pos h e
theorem ex_bind {α β : Type} {g : Nat → Option α} {f : Nat → α → Option β} (h : ∃ a, Ev g a) (k : ∀ a, ∃ q, Ev (fun n => f n a) q) : ∃ q, Ev (fun n => (g n).bind (f n)) q := by
  obtain ⟨a, h⟩ := h
  exact (k a).imp fun _ e => Ev.bind h e
theorem ex_step {α : Type} {g f : Nat → Option α} (h : ∀ k, g (k + 1) = f k) (k : ∃ q, Ev f q) : ∃ q, Ev g q := k.imp fun _ e => Ev.step h e
theorem w64 {x : Int} (h0 : -9223372036854775808 ≤ x) (h1 : x ≤ 9223372036854775807) : wrap64 x = x := by unfold wrap64; omega
theorem wsucc {i n : Nat} (h : i < n) (hn : n ≤ 9223372036854775807) : wrap64 ((i : Int) + 1) = ((i + 1 : Nat) : Int) := by unfold wrap64; omega
theorem wplus {a : Int} (h0 : 0 ≤ a) (h1 : a ≤ 4611686018427387904) : wrap64 (a + 1) = a + 1 := by unfold wrap64; omega
theorem pre64 {i : Nat} (h : ¬ i = 0) (hi : i ≤ 9223372036854775807) : wrap64 ((i : Int) - 1) = ((i - 1 : Nat) : Int) := by unfold wrap64; omega
theorem getD_eq {α : Type} (d : α) (xs : List α) (i : Nat) (h : i < xs.length) : xs.getD i d = xs[i] := by
  rw [List.getD_eq_getElem?_getD, List.getElem?_eq_getElem h]; rfl
theorem mem_getD {α : Type} (d : α) (xs : List α) (i : Nat) (h : i < xs.length) : xs.getD i d ∈ xs := by
  rw [getD_eq d xs i h]; exact List.getElem_mem h
theorem getD_set {α : Type} (d : α) (xs : List α) (i j : Nat) (v : α) (h : i < xs.length) : (xs.set i v).getD j d = if j = i then v else xs.getD j d := by
  rw [List.getD_eq_getElem?_getD, List.getD_eq_getElem?_getD, List.getElem?_set]
  by_cases e : i = j
  · subst e; simp [h]
  · rw [if_neg e, if_neg (fun q => e q.symm)]
theorem fill_end {α : Type} (d : α) (z y : List α) (hl : y.length = z.length) (h : ∀ j, j < z.length → y.getD j d = z.getD j d) : y = z := by
  apply List.ext_getElem hl
  intro j h1 h2
  have e := h j h2
  rwa [getD_eq d y j h1, getD_eq d z j h2] at e
theorem fill_step {α : Type} (d : α) (z y : List α) (i : Nat) (hl : y.length = z.length) (hi : i < z.length) (h : ∀ j, j < i → y.getD j d = z.getD j d) (v : α) (hv : v = z.getD i d) :
    (y.set i v).length = z.length ∧ ∀ j, j < i + 1 → (y.set i v).getD j d = z.getD j d := by
  refine ⟨by simpa using hl, fun j hj => ?_⟩
  rw [getD_set d y i j v (by omega)]
  by_cases e : j = i
  · rw [if_pos e, e, hv]
  · rw [if_neg e]; exact h j (by omega)
theorem rdOf_nat {α : Type} (d : α) (xs : List α) (i : Nat) : rdOf d xs (i : Int) = xs.getD i d := by simp [rdOf]
theorem rd_nat (xs : List Int) (i : Nat) : rd xs (i : Int) = xs.getD i 0 := by simp [rd]
theorem map_getD {α β : Type} (e : β) (d : α) (f : α → β) (l : List α) (i : Nat) (h : i < l.length) : (l.map f).getD i e = f (l.getD i d) := by
  rw [getD_eq e _ i (by simpa using h), getD_eq d l i h, List.getElem_map]
/-- a list told from its end: what is left from place i on -/
theorem loopL {α : Type} (d : α) (l : List α) {P : Nat → List α → Prop} (h0 : P l.length []) (hs : ∀ i x r, i < l.length → l.getD i d = x → x ∈ l → l.drop (i + 1) = r → P (i + 1) r → P i (x :: r)) : P 0 l := by
  have key : ∀ (n i : Nat), i + n = l.length → P i (l.drop i) := fun n => by
    induction n with
    | zero =>
      intro i hi
      have e : i = l.length := by omega
      subst e; rw [List.drop_length]; exact h0
    | succ n ih =>
      intro i hi
      have hlt : i < l.length := by omega
      have e : l.drop i = l.getD i d :: l.drop (i + 1) := by rw [List.drop_eq_getElem_cons hlt, getD_eq d l i hlt]
      rw [e]
      exact hs i _ _ hlt rfl (mem_getD d l i hlt) rfl (ih (i + 1) (by omega))
  simpa using key l.length 0 (by omega)
/-- the element ahead of place i -/
def ahead {α : Type} (d : α) (l : List α) (i : Nat) : Option α := if i = 0 then none else some (l.getD (i - 1) d)
theorem ahead_zero {α : Type} (d : α) (l : List α) : ahead d l 0 = none := rfl
theorem ahead_succ {α : Type} (d : α) (l : List α) (i : Nat) : ahead d l (i + 1) = some (l.getD i d) := by simp [ahead]
theorem ahead_pos {α : Type} (d : α) (l : List α) (i : Nat) (h : ¬ i = 0) : ahead d l i = some (l.getD (i - 1) d) := if_neg h
/-! ### the order of bytes -/
theorem bl_irr : ∀ x : List UInt8, Op.bytesLess x x = false
  | [] => rfl
  | a :: x => by simp [Op.bytesLess, bl_irr x]
theorem bl_asym : ∀ x y : List UInt8, Op.bytesLess x y = true → Op.bytesLess y x = false
  | [], [], _ => rfl
  | [], _ :: _, _ => rfl
  | _ :: _, [], h => by simp [Op.bytesLess] at h
  | a :: x, b :: y, h => by
    simp only [Op.bytesLess, Bool.or_eq_true, Bool.and_eq_true, decide_eq_true_eq, beq_iff_eq] at h
    simp only [Op.bytesLess, Bool.or_eq_false_iff, Bool.and_eq_false_iff, decide_eq_false_iff_not, beq_eq_false_iff_ne]
    rcases h with h | ⟨rfl, h⟩
    · exact ⟨UInt8.lt_asymm h, .inl (fun e => by subst e; exact UInt8.lt_irrefl _ h)⟩
    · exact ⟨UInt8.lt_irrefl _, .inr (bl_asym x y h)⟩
theorem bl_tri : ∀ x y : List UInt8, Op.bytesLess x y = true ∨ x = y ∨ Op.bytesLess y x = true
  | [], [] => .inr (.inl rfl)
  | [], _ :: _ => .inl rfl
  | _ :: _, [] => .inr (.inr rfl)
  | a :: x, b :: y => by
    simp only [Op.bytesLess, Bool.or_eq_true, Bool.and_eq_true, decide_eq_true_eq, beq_iff_eq, List.cons.injEq]
    rcases UInt8.lt_or_lt_of_ne (a := a) (b := b) |> fun f => (Classical.em (a = b)).imp id f with rfl | h | h
    · rcases bl_tri x y with q | rfl | q
      · exact .inl (.inr ⟨rfl, q⟩)
      · exact .inr (.inl ⟨rfl, rfl⟩)
      · exact .inr (.inr (.inr ⟨rfl, q⟩))
    · exact .inl (.inl h)
    · exact .inr (.inr (.inl h))
theorem bl_trans : ∀ x y z : List UInt8, Op.bytesLess x y = true → Op.bytesLess y z = true → Op.bytesLess x z = true
  | [], _, _ :: _, _, _ => rfl
  | [], [], [], h, _ => h
  | [], _ :: _, [], _, h => by simp [Op.bytesLess] at h
  | _ :: _, [], _, h, _ => by simp [Op.bytesLess] at h
  | _ :: _, _ :: _, [], _, h => by simp [Op.bytesLess] at h
  | a :: x, b :: y, c :: z, h, k => by
    simp only [Op.bytesLess, Bool.or_eq_true, Bool.and_eq_true, decide_eq_true_eq, beq_iff_eq] at h k ⊢
    rcases h with h | ⟨rfl, h⟩
    · rcases k with k | ⟨rfl, k⟩
      · exact .inl (UInt8.lt_trans h k)
      · exact .inl h
    · rcases k with k | ⟨rfl, k⟩
      · exact .inl k
      · exact .inr ⟨rfl, bl_trans x y z h k⟩
theorem ba_ext {a b : ByteArray} (h : a.toList = b.toList) : a = b := by
  apply ByteArray.ext
  apply Array.ext'
  simpa [ByteArray.toList_eq] using h
theorem ba_iff {a b : ByteArray} : a.toList = b.toList ↔ a = b := ⟨ba_ext, fun h => h ▸ rfl⟩
/-- a text ahead of another -/
def lt (a b : ByteArray) : Bool := Op.bytesLess a.toList b.toList
theorem lt_irr (a : ByteArray) : lt a a = false := bl_irr _
theorem lt_asym {a b : ByteArray} (h : lt a b = true) : lt b a = false := bl_asym _ _ h
theorem lt_trans {a b c : ByteArray} (h : lt a b = true) (k : lt b c = true) : lt a c = true := bl_trans _ _ _ h k
theorem lt_tri (a b : ByteArray) : lt a b = true ∨ a = b ∨ lt b a = true := (bl_tri a.toList b.toList).imp id (·.imp ba_ext id)
theorem lt_ne {a b : ByteArray} (h : lt a b = true) : a ≠ b := fun e => by rw [e, lt_irr] at h; cases h
/-- pair by pair: the first, then the second -/
def befB (a0 a1 b0 b1 : ByteArray) : Bool := lt a0 b0 || (decide (a0 = b0) && lt a1 b1)
/-! ### the laws' own words -/
theorem szRecPhase_ev (x : S_laws_RecPhase) (h : ok_laws_RecPhase x) (a : Int) : ∃ q, Ev (fun k => laws_szRecPhase.f x.f0 x.f1 x.f2 x.f3 x.f4 x.f5 x.f6 x.f7 a) q := by
  have h0 := h.1
  have h1 := h.2.1
  have h2 := h.2.2.1
  have h3 := h.2.2.2.1
  have h4 := h.2.2.2.2.1
  have h5 := h.2.2.2.2.2.1
  have h6 := h.2.2.2.2.2.2.1
  have h7 := h.2.2.2.2.2.2.2
  unfold laws_szRecPhase.f
  repeat' (first | exact ex_ret | refine ex_ite ?_ ?_ | refine ex_bind ?_ (fun t => ?_))
theorem szRecPhaseS_ev (l : List S_laws_RecPhase) (hl : l.length ≤ 140737488351232) (h : ∀ z ∈ l, ok_laws_RecPhase z) (a : Int) : ∃ q, Ev (fun k => laws_szRecPhaseS.f k l a) q := by
  have key : ∀ b, ∃ q, Ev (fun k => laws_szRecPhaseS.l0 k l b 0) q := loopL z_laws_RecPhase l (P := fun i _ => ∀ b, ∃ q, Ev (fun k => laws_szRecPhaseS.l0 k l b (i : Int)) q)
    (fun b => ex_step (fun k => by rw [laws_szRecPhaseS.l0]) ⟨_, ev_neg (by omega) (ev_ret rfl)⟩)
    (fun i x r hi hx hm _ ih b => ex_step (fun k => by rw [laws_szRecPhaseS.l0]) (ex_pos (by omega) (ex_pos (by omega) (by
      rw [wsucc hi (by omega)]
      refine ex_bind (by rw [show rd_laws_RecPhase l (i : Int) = x from by unfold rd_laws_RecPhase; simpa using hx]; exact szRecPhase_ev x (h x hm) b) (fun t => ex_ite ex_ret (ih _))))))
  unfold laws_szRecPhaseS.f
  exact ex_ite ex_ret (key _)
def cv_laws_RecPhase (x : S_laws_RecPhase) : S_impl_RecPhase := ⟨x.f0, x.f1, x.f2, x.f3, x.f4, x.f5, x.f6, x.f7⟩
theorem toRecPhase_ev (x : S_laws_RecPhase) (h : ok_laws_RecPhase x) : Ev (fun k => laws_toRecPhase.f x.f0 x.f1 x.f2 x.f3 x.f4 x.f5 x.f6 x.f7) ((cv_laws_RecPhase x).f0, (cv_laws_RecPhase x).f1, (cv_laws_RecPhase x).f2, (cv_laws_RecPhase x).f3, (cv_laws_RecPhase x).f4, (cv_laws_RecPhase x).f5, (cv_laws_RecPhase x).f6, (cv_laws_RecPhase x).f7) := by
  have h0 := h.1
  have h1 := h.2.1
  have h2 := h.2.2.1
  have h3 := h.2.2.2.1
  have h4 := h.2.2.2.2.1
  have h5 := h.2.2.2.2.2.1
  have h6 := h.2.2.2.2.2.2.1
  have h7 := h.2.2.2.2.2.2.2
  unfold laws_toRecPhase.f
  repeat' (first | exact ev_ret rfl)
theorem toRecPhaseS_ev (l : List S_laws_RecPhase) (hl : l.length ≤ 1353245080339) (h : ∀ z ∈ l, ok_laws_RecPhase z) : Ev (fun k => laws_toRecPhaseS.f k l) (l.map cv_laws_RecPhase) := by
  unfold laws_toRecPhaseS.f
  refine ev_pos (by omega) ?_
  refine loopL z_laws_RecPhase l (P := fun i _ => ∀ y : List S_impl_RecPhase, y.length = l.length → (∀ j, j < i → y.getD j z_impl_RecPhase = (l.map cv_laws_RecPhase).getD j z_impl_RecPhase) → Ev (fun k => laws_toRecPhaseS.l0 k l y (i : Int)) (l.map cv_laws_RecPhase))
    (fun y hyl hy => by
      obtain rfl := fill_end z_impl_RecPhase (l.map cv_laws_RecPhase) y (by simpa using hyl) (fun j hj => hy j (by simpa using hj))
      refine Ev.step (fun k => by rw [laws_toRecPhaseS.l0]) (ev_neg (by omega) (ev_ret rfl)))
    (fun i x r hi hx hm _ ih y hyl hy => by
      refine Ev.step (fun k => by rw [laws_toRecPhaseS.l0]) (ev_pos (by omega) (ev_pos (by omega) ?_))
      rw [wsucc hi (by omega), Int.toNat_natCast, show rd_laws_RecPhase l (i : Int) = x from by unfold rd_laws_RecPhase; simpa using hx]
      refine Ev.bind (toRecPhase_ev x (h x hm)) (ev_pos (by omega) ?_)
      obtain ⟨h1, h2⟩ := fill_step z_impl_RecPhase (l.map cv_laws_RecPhase) y i (by simpa using hyl) (by simpa using hi) hy (cv_laws_RecPhase x) (by rw [map_getD z_impl_RecPhase z_laws_RecPhase _ l i hi, hx])
      exact ih _ (by rw [h1]; simp) h2) _ (by simp) (fun j hj => absurd hj (Nat.not_lt_zero _))
def ok_impl_RecPhase (y : S_impl_RecPhase) : Prop := (y.f0.size ≤ 140737488351232) ∧ ((Lit.int .i64 y.f1).wf = true) ∧ (y.f2.size ≤ 140737488351232) ∧ (y.f3.size ≤ 140737488351232) ∧ ((Lit.int .i64 y.f4).wf = true) ∧ ((Lit.int .i64 y.f5).wf = true) ∧ (y.f6.size ≤ 140737488351232) ∧ (y.f7.size ≤ 140737488351232)
theorem eqRecPhase_ev (x : S_impl_RecPhase) (h : ok_impl_RecPhase x) : Ev (fun k => laws_eqRecPhase.f x.f0 x.f1 x.f2 x.f3 x.f4 x.f5 x.f6 x.f7 x.f0 x.f1 x.f2 x.f3 x.f4 x.f5 x.f6 x.f7) true := by
  have h0 := h.1
  have h1 := h.2.1
  have h2 := h.2.2.1
  have h3 := h.2.2.2.1
  have h4 := h.2.2.2.2.1
  have h5 := h.2.2.2.2.2.1
  have h6 := h.2.2.2.2.2.2.1
  have h7 := h.2.2.2.2.2.2.2
  unfold laws_eqRecPhase.f
  repeat' (first | exact ev_ret rfl | refine ev_pos rfl ?_ | refine ev_neg (by simp) ?_)
theorem eqRecPhaseS_ev (l : List S_impl_RecPhase) (hl : l.length ≤ 140737488351232) (h : ∀ z ∈ l, ok_impl_RecPhase z) : Ev (fun k => laws_eqRecPhaseS.f k l l) true := by
  unfold laws_eqRecPhaseS.f
  refine ev_pos rfl ?_
  refine loopL z_impl_RecPhase l (P := fun i _ => Ev (fun k => laws_eqRecPhaseS.l0 k l l (i : Int)) true)
    (Ev.step (fun k => by rw [laws_eqRecPhaseS.l0]) (ev_neg (by omega) (ev_ret rfl)))
    (fun i x r hi hx hm _ ih => Ev.step (fun k => by rw [laws_eqRecPhaseS.l0]) (ev_pos (by omega) (ev_pos (by omega) (ev_pos (by omega) (by
      rw [wsucc hi (by omega)]
      rw [show rd_impl_RecPhase l (i : Int) = x from by unfold rd_impl_RecPhase; simpa using hx]
      exact Ev.bind (eqRecPhase_ev x (h x hm)) (ev_pos rfl ih))))))
/-! ### names -/
theorem ev_b {α : Type} {b : Bool} {g f : Nat → Option α} {r : α} (h : b = true → Ev g r) (k : b = false → Ev f r) : Ev (fun n => if b = true then g n else f n) r := by
  cases b
  · exact ev_neg (by simp) (k rfl)
  · exact ev_pos rfl (h rfl)
/-- a yes or no that is asked -/
theorem ev_ask {α : Type} {o g f : Nat → Option α} {q : Nat → Option Bool} {b : Bool} {r : α} (hq : Ev q b) (h : b = true → Ev g r) (k : b = false → Ev f r) : Ev (fun n => (q n).bind fun t => if t = true then g n else f n) r := Ev.bind (f := fun n t => if t = true then g n else f n) hq (ev_b h k)
def okc (c : Int) : Bool := (decide (97 ≤ c) && decide (c ≤ 122)) || ((decide (48 ≤ c) && decide (c ≤ 57)) || decide (c = 45))
theorem okc_t {c : Int} (h : 97 ≤ c ∧ c ≤ 122 ∨ 48 ≤ c ∧ c ≤ 57 ∨ c = 45) : okc c = true := by simp [okc]; omega
theorem okc_f {c : Int} (h : ¬ (97 ≤ c ∧ c ≤ 122 ∨ 48 ≤ c ∧ c ≤ 57 ∨ c = 45)) : okc c = false := by
  rw [← Bool.not_eq_true]; intro q; apply h; simp [okc] at q; omega
def allFrom (s : ByteArray) (i : Nat) : Bool := decide (∀ j, j < s.size → i ≤ j → okc (bt s (j : Int)) = true)
theorem allFrom_step (s : ByteArray) (i : Nat) (h : i < s.size) : allFrom s i = (okc (bt s (i : Int)) && allFrom s (i + 1)) := by
  unfold allFrom
  rw [Bool.eq_iff_iff, Bool.and_eq_true, decide_eq_true_iff, decide_eq_true_iff]
  refine ⟨fun q => ⟨q i h (Nat.le_refl _), fun j hj hi => q j hj (by omega)⟩, fun q j hj hi => ?_⟩
  by_cases e : j = i
  · rw [e]; exact q.1
  · exact q.2 j hj (by omega)
theorem allFrom_end (s : ByteArray) : allFrom s s.size = true := by
  unfold allFrom
  rw [decide_eq_true_iff]
  intro j hj hi; omega
def nameB (s : ByteArray) : Bool := decide (1 ≤ s.size ∧ s.size ≤ 8) && allFrom s 0
/-- a walk over the places of a text -/
theorem loopN (n : Nat) {P : Nat → Prop} (h0 : P n) (hs : ∀ i, i < n → P (i + 1) → P i) : P 0 := by
  have key : ∀ (m i : Nat), i + m = n → P i := fun m => by
    induction m with
    | zero => intro i hi; have e : i = n := by omega
              subst e; exact h0
    | succ m ih => intro i hi; exact hs i (by omega) (ih (i + 1) (by omega))
  exact key n 0 (by omega)
/-- each before the next -/
def chainB {α : Type} (p : α → α → Bool) : Option α → List α → Bool
  | _, [] => true
  | none, x :: r => chainB p (some x) r
  | some y, x :: r => p y x && chainB p (some x) r
def namesB (l : List ByteArray) : Bool := l.all nameB && chainB lt none l
def hasB (l : List ByteArray) (s : ByteArray) : Bool := l.any fun x => decide (x = s)
theorem hasB_iff {l : List ByteArray} {s : ByteArray} : hasB l s = true ↔ s ∈ l := by
  unfold hasB
  rw [List.any_eq_true]
  exact ⟨fun ⟨x, h, e⟩ => by simp at e; exact e ▸ h, fun h => ⟨s, h, by simp⟩⟩
def inB (a b c : Int) : Bool := decide (b ≤ a ∧ a ≤ c)
theorem inB_t {a b c : Int} (h : b ≤ a ∧ a ≤ c) : inB a b c = true := decide_eq_true h
theorem inB_f {a b c : Int} (h : ¬ (b ≤ a ∧ a ≤ c)) : inB a b c = false := decide_eq_false h
/-! ### names, as the reference reads them (recipes) -/
theorem l41In_ev (a b c : Int) : Ev (fun _ => spec_l41In.f a b c) (inB a b c) := by
  unfold spec_l41In.f inB
  refine ev_split (fun h => ev_ret (decide_eq_decide.2 (by omega))) (fun h => ev_ret ?_)
  symm; apply decide_eq_false; omega
theorem l41NameOk_ev (s : ByteArray) : Ev (fun k => spec_l41NameOk.f k s) (nameB s) := by
  unfold spec_l41NameOk.f nameB
  refine Ev.bind (l41In_ev _ _ _) (ev_b (fun h => ?_) (fun h => ev_ret ?_))
  · have hs : 1 ≤ s.size ∧ s.size ≤ 8 := by have : inB _ _ _ = true := h; unfold inB at this; have := of_decide_eq_true this; omega
    rw [decide_eq_true hs, Bool.true_and]
    refine loopN s.size (P := fun i => Ev (fun k => spec_l41NameOk.l0 k s (i : Int)) (allFrom s i))
      (by refine Ev.step (fun k => by rw [spec_l41NameOk.l0]) ?_; exact ev_neg (by omega) (ev_ret (allFrom_end s).symm)) (fun i hi ih => ?_)
    refine Ev.step (fun k => by rw [spec_l41NameOk.l0]) (ev_pos (by omega) (ev_pos (by omega) ?_))
    rw [wsucc hi (by omega), allFrom_step s i hi]
    generalize bt s (i : Int) = c
    repeat' (first | (refine ev_split (fun _ => ?_) (fun _ => ?_)) | (rw [okc_t (by omega), Bool.true_and]; exact ih) | (rw [okc_f (by omega)]; exact ev_ret rfl))
  · have hs : ¬ (1 ≤ s.size ∧ s.size ≤ 8) := fun q => by have : inB _ _ _ = false := h; unfold inB at this; have := of_decide_eq_false this; omega
    rw [decide_eq_false hs]; rfl
/-! ### names, as the program reads them (no lists that rise) -/
theorem isName_ev (s : ByteArray) (hn : s.size ≤ 140737488351232) : Ev (fun k => impl_isName.f k s) (nameB s) := by
  unfold impl_isName.f nameB
  refine loopN s.size (P := fun i => Ev (fun k => impl_isName.l0 k s (i : Int)) (decide (1 ≤ s.size ∧ s.size ≤ 8) && allFrom s i))
    (by
      refine Ev.step (fun k => by rw [impl_isName.l0]) (ev_neg (by omega) ?_)
      rw [allFrom_end, Bool.and_true]
      refine ev_split (fun h => ev_ret (decide_eq_decide.2 (by omega))) (fun h => ev_ret ?_)
      symm; apply decide_eq_false; omega) (fun i hi ih => ?_)
  refine Ev.step (fun k => by rw [impl_isName.l0]) (ev_pos (by omega) (ev_pos (by omega) ?_))
  rw [wsucc hi (by omega), allFrom_step s i hi]
  generalize bt s (i : Int) = c
  repeat' (first | (refine ev_split (fun _ => ?_) (fun _ => ?_)) | (rw [okc_t (by omega), Bool.true_and]; exact ih) | (rw [okc_f (by omega), Bool.false_and, Bool.and_false]; exact ev_ret rfl))
theorem chain_none {α : Type} (p : α → α → Bool) (x : α) (r : List α) : chainB p none (x :: r) = chainB p (some x) r := rfl
/-! ### recipes -/
theorem rdRP (l : List S_impl_RecPhase) (i : Nat) : rd_impl_RecPhase l (i : Int) = l.getD i z_impl_RecPhase := by unfold rd_impl_RecPhase; rw [Int.toNat_natCast]
def endOf (a : ByteArray) : Int := if a = (⟨#[103, 111, 111, 100]⟩ : ByteArray) then 1 else if a = (⟨#[115, 97, 118, 101, 100]⟩ : ByteArray) then 2 else if a = (⟨#[115, 99, 114, 97, 112, 112, 101, 100]⟩ : ByteArray) then 3 else 0
theorem specEnd_ev (a : ByteArray) : Ev (fun _ => spec_RecEnd.f a) (endOf a) := by
  unfold spec_RecEnd.f endOf
  refine ev_split (fun c => ev_ret (by rw [if_pos (ba_iff.1 c)])) (fun c => ?_)
  rw [if_neg (fun e => c (ba_iff.2 e))]
  refine ev_split (fun c => ev_ret (by rw [if_pos (ba_iff.1 c)])) (fun c => ?_)
  rw [if_neg (fun e => c (ba_iff.2 e))]
  exact ev_split (fun c => ev_ret (by rw [if_pos (ba_iff.1 c)])) (fun c => ev_ret (by rw [if_neg (fun e => c (ba_iff.2 e))]))
theorem implEnd_ev (a : ByteArray) : Ev (fun _ => impl_RecEnd.f a) (endOf a) := by
  unfold impl_RecEnd.f endOf
  refine ev_split (fun c => ev_ret (by rw [if_pos (ba_iff.1 c)])) (fun c => ?_)
  rw [if_neg (fun e => c (ba_iff.2 e))]
  refine ev_split (fun c => ev_ret (by rw [if_pos (ba_iff.1 c)])) (fun c => ?_)
  rw [if_neg (fun e => c (ba_iff.2 e))]
  exact ev_split (fun c => ev_ret (by rw [if_pos (ba_iff.1 c)])) (fun c => ev_ret (by rw [if_neg (fun e => c (ba_iff.2 e))]))
def argsB (x : S_impl_RecPhase) : Bool :=
  if x.f1 = 1 then nameB x.f3 && inB x.f4 1 1000 else if x.f1 = 2 then nameB x.f3 && (!decide (x.f2 = x.f3) && inB x.f4 1 1000) else if x.f1 = 3 then decide (x.f3 = (⟨#[]⟩ : ByteArray)) && inB x.f4 1 x.f5 else if x.f1 = 4 ∨ x.f1 = 5 then decide (x.f3 = (⟨#[]⟩ : ByteArray)) && decide (x.f4 = 0) else false
def phaseB (x : S_impl_RecPhase) : Bool := (nameB x.f0 && decide (endOf x.f0 = 0)) && (inB x.f5 1 1000 && ((nameB x.f2 && argsB x) && (nameB x.f6 && nameB x.f7)))
theorem l41Args_ev (x : S_impl_RecPhase) : Ev (fun k => spec_l41ArgsOk.f k x.f0 x.f1 x.f2 x.f3 x.f4 x.f5 x.f6 x.f7) (nameB x.f2 && argsB x) := by
  have e2 := l41NameOk_ev x.f2
  have e3 := l41NameOk_ev x.f3
  unfold spec_l41ArgsOk.f argsB
  generalize nameB x.f2 = n2 at *
  generalize nameB x.f3 = n3 at *
  refine ev_split (fun c => ?_) (fun c => ?_)
  · rw [if_pos c]
    exact Ev.bind e2 (ev_b (fun d => Ev.bind e3 (ev_b (fun d2 => Ev.bind (l41In_ev _ _ _) (ev_ret (by rw [d, d2]; rfl))) (fun d2 => ev_ret (by rw [d2]; simp)))) (fun d => ev_ret (by rw [d]; rfl)))
  rw [if_neg c]
  refine ev_split (fun c => ?_) (fun c => ?_)
  · rw [if_pos c]
    refine Ev.bind e2 (ev_b (fun d => Ev.bind e3 (ev_b (fun d2 => ev_split (fun d3 => ev_ret ?_) (fun d3 => Ev.bind (l41In_ev _ _ _) (ev_ret ?_))) (fun d2 => ev_ret (by rw [d2]; simp)))) (fun d => ev_ret (by rw [d]; rfl)))
    · rw [decide_eq_true (ba_iff.1 d3)]; simp
    · rw [decide_eq_false (fun e => d3 (ba_iff.2 e)), d, d2]; rfl
  rw [if_neg c]
  refine ev_split (fun c => ?_) (fun c => ?_)
  · rw [if_pos c]
    refine Ev.bind e2 (ev_b (fun d => ev_split (fun d3 => Ev.bind (l41In_ev _ _ _) (ev_ret ?_)) (fun d3 => ev_ret ?_)) (fun d => ev_ret (by rw [d]; rfl)))
    · rw [decide_eq_true (ba_iff.1 d3), d]; rfl
    · rw [decide_eq_false (fun e => d3 (ba_iff.2 e))]; simp
  rw [if_neg c]
  refine ev_split (fun c => ?_) (fun c => ?_)
  · rw [if_pos (show x.f1 = 4 ∨ x.f1 = 5 from .inl c)]
    refine Ev.bind e2 (ev_b (fun d => ev_split (fun d3 => ev_ret ?_) (fun d3 => ev_ret ?_)) (fun d => ev_ret (by rw [d]; rfl)))
    · rw [decide_eq_true (ba_iff.1 d3), d]; rfl
    · rw [decide_eq_false (fun e => d3 (ba_iff.2 e))]; simp
  refine ev_split (fun c2 => ?_) (fun c2 => ?_)
  · rw [if_pos (show x.f1 = 4 ∨ x.f1 = 5 from .inr c2)]
    refine Ev.bind e2 (ev_b (fun d => ev_split (fun d3 => ev_ret ?_) (fun d3 => ev_ret ?_)) (fun d => ev_ret (by rw [d]; rfl)))
    · rw [decide_eq_true (ba_iff.1 d3), d]; rfl
    · rw [decide_eq_false (fun e => d3 (ba_iff.2 e))]; simp
  · rw [if_neg (show ¬ (x.f1 = 4 ∨ x.f1 = 5) by omega)]; exact ev_ret (by simp)
theorem specPhase_ev (x : S_impl_RecPhase) : Ev (fun k => spec_RecPhaseOk.f k x.f0 x.f1 x.f2 x.f3 x.f4 x.f5 x.f6 x.f7) (phaseB x) := by
  have eP : Ev (fun k => spec_l41PlainOk.f k x.f0) (nameB x.f0 && decide (endOf x.f0 = 0)) := by
    unfold spec_l41PlainOk.f
    exact Ev.bind (l41NameOk_ev _) (ev_b (fun c => Ev.bind (specEnd_ev _) (ev_ret (by rw [c]; rfl))) (fun c => ev_ret (by rw [c]; rfl)))
  have eA := l41Args_ev x
  unfold spec_RecPhaseOk.f phaseB
  generalize (nameB x.f0 && decide (endOf x.f0 = 0)) = b0 at *
  generalize (nameB x.f2 && argsB x) = b1 at *
  refine Ev.bind eP (ev_b (fun c0 => Ev.bind (l41In_ev _ _ _) (ev_b (fun c1 => Ev.bind eA (ev_b (fun c2 => Ev.bind (l41NameOk_ev _) (ev_b (fun c3 => Ev.bind (l41NameOk_ev _) (ev_ret ?_)) (fun c3 => ev_ret ?_))) (fun c2 => ev_ret ?_))) (fun c1 => ev_ret ?_))) (fun c0 => ev_ret ?_))
  · rw [c0, c1, c2, c3]; rfl
  · rw [c3]; simp
  · rw [c2]; simp
  · rw [c1]; simp
  · rw [c0]; rfl
structure SzR (x : S_impl_RecPhase) : Prop where
  n0 : x.f0.size ≤ 140737488351232
  n2 : x.f2.size ≤ 140737488351232
  n3 : x.f3.size ≤ 140737488351232
  n6 : x.f6.size ≤ 140737488351232
  n7 : x.f7.size ≤ 140737488351232
theorem phaseJ_ev (x : S_impl_RecPhase) (z : SzR x) (m : Int) (b : Bool) : Ev (fun k => impl_RecPhaseOk.j0 k x.f3 x.f4 m b) ((if b = true then nameB x.f3 else decide (x.f3 = (⟨#[]⟩ : ByteArray))) && (decide (x.f4 ≤ m) && (decide (1 ≤ x.f4) || (decide (m = 0) && decide (x.f4 = 0))))) := by
  have e3 := isName_ev x.f3 z.n3
  have tl : ∀ B : Bool, B = true → Ev (fun _ => if x.f4 ≤ m then (if x.f4 ≥ 1 then some true else if m = 0 then some (decide (x.f4 = 0)) else some false) else some false) (B && (decide (x.f4 ≤ m) && (decide (1 ≤ x.f4) || (decide (m = 0) && decide (x.f4 = 0))))) := fun B hB => by
    subst hB
    refine ev_split (fun c => ev_split (fun d => ev_ret ?_) (fun d => ev_split (fun d2 => ev_ret ?_) (fun d2 => ev_ret ?_))) (fun c => ev_ret ?_)
    · rw [decide_eq_true c, decide_eq_true (by omega : 1 ≤ x.f4)]; rfl
    · rw [decide_eq_true c, decide_eq_false (by omega : ¬ 1 ≤ x.f4), decide_eq_true d2]; rfl
    · rw [decide_eq_true c, decide_eq_false (by omega : ¬ 1 ≤ x.f4), decide_eq_false d2]; rfl
    · rw [decide_eq_false c]; rfl
  refine Ev.step (fun k => by rw [impl_RecPhaseOk.j0]) ?_
  cases b with
  | true =>
    refine ev_pos rfl (Ev.bind e3 (ev_b (fun c => ?_) (fun c => ev_ret (by rw [if_pos rfl, c]; rfl))))
    rw [if_pos rfl]; exact tl _ c
  | false =>
    refine ev_neg (by simp) (ev_split (fun c => ?_) (fun c => ev_ret ?_))
    · rw [if_neg Bool.false_ne_true]; exact tl _ (decide_eq_true (ba_iff.1 c))
    · rw [if_neg Bool.false_ne_true, decide_eq_false (fun e => c (ba_iff.2 e))]; rfl
theorem implPhase_ev (x : S_impl_RecPhase) (z : SzR x) : Ev (fun k => impl_RecPhaseOk.f k x.f0 x.f1 x.f2 x.f3 x.f4 x.f5 x.f6 x.f7) (phaseB x) := by
  have J := fun m b => phaseJ_ev x z m b
  unfold impl_RecPhaseOk.f phaseB argsB
  refine Ev.bind (isName_ev _ z.n0) (ev_b (fun c0 => ?_) (fun c0 => ev_ret (by rw [c0]; rfl)))
  refine Ev.bind (implEnd_ev _) (ev_split (fun c1 => ?_) (fun c1 => ev_ret (by rw [decide_eq_false c1]; simp)))
  rw [c0, decide_eq_true c1]
  refine ev_split (fun c => ev_ret (by rw [inB_f (by omega : ¬ (1 ≤ x.f5 ∧ x.f5 ≤ 1000))]; rfl)) (fun c2 => ?_)
  refine ev_split (fun c => ev_ret (by rw [inB_f (by omega : ¬ (1 ≤ x.f5 ∧ x.f5 ≤ 1000))]; rfl)) (fun c3 => ?_)
  rw [inB_t (by omega : 1 ≤ x.f5 ∧ x.f5 ≤ 1000)]
  refine Ev.bind (isName_ev _ z.n2) (ev_b (fun c4 => ?_) (fun c4 => ev_ret (by rw [c4]; rfl)))
  refine Ev.bind (isName_ev _ z.n6) (ev_b (fun c5 => ?_) (fun c5 => ev_ret (by rw [c5]; simp)))
  refine Ev.bind (isName_ev _ z.n7) (ev_b (fun c6 => ?_) (fun c6 => ev_ret (by rw [c6]; simp)))
  rw [c4, c5, c6]
  simp only [Bool.and_true, Bool.true_and]
  refine ev_split (fun c => ?_) (fun c => ?_)
  · rw [if_pos c]
    refine ev_eq (J 1000 true) ?_
    rw [if_pos rfl]; congr 1
    rw [Bool.eq_iff_iff]; unfold inB; simp only [Bool.and_eq_true, Bool.or_eq_true, decide_eq_true_eq, true_and]; omega
  rw [if_neg c]
  refine ev_split (fun c => ?_) (fun c => ?_)
  · rw [if_pos c]
    refine ev_split (fun d => ev_ret (by rw [decide_eq_true (ba_iff.1 d)]; simp)) (fun d => ev_eq (J 1000 true) ?_)
    rw [if_pos rfl, decide_eq_false (fun e => d (ba_iff.2 e))]; congr 1
    rw [Bool.eq_iff_iff]; unfold inB; simp only [Bool.not_false, Bool.true_and, Bool.and_eq_true, Bool.or_eq_true, decide_eq_true_eq]; omega
  rw [if_neg c]
  refine ev_split (fun c => ?_) (fun c => ?_)
  · rw [if_pos c]
    refine ev_eq (J x.f5 false) ?_
    rw [if_neg Bool.false_ne_true]; congr 1
    rw [Bool.eq_iff_iff]; unfold inB; simp only [Bool.and_eq_true, Bool.or_eq_true, decide_eq_true_eq, true_and]; omega
  rw [if_neg c]
  refine ev_split (fun c => ?_) (fun c => ?_)
  · rw [if_pos (show x.f1 = 4 ∨ x.f1 = 5 from .inl c)]
    refine ev_eq (J 0 false) ?_
    rw [if_neg Bool.false_ne_true]; congr 1
    rw [Bool.eq_iff_iff]; simp only [Bool.and_eq_true, Bool.or_eq_true, decide_eq_true_eq, true_and]; omega
  refine ev_split (fun c2 => ?_) (fun c2 => ?_)
  · rw [if_pos (show x.f1 = 4 ∨ x.f1 = 5 from .inr c2)]
    refine ev_eq (J 0 false) ?_
    rw [if_neg Bool.false_ne_true]; congr 1
    rw [Bool.eq_iff_iff]; simp only [Bool.and_eq_true, Bool.or_eq_true, decide_eq_true_eq, true_and]; omega
  · rw [if_neg (show ¬ (x.f1 = 4 ∨ x.f1 = 5) by omega)]; exact ev_ret rfl
/-! ### phases of a recipe -/
def phIx (a : ByteArray) : List S_impl_RecPhase → Nat → Int
  | [], _ => -1
  | y :: r, i => if y.f0 = a then (i : Int) else phIx a r (i + 1)
theorem phIx_at (l : List S_impl_RecPhase) (a : ByteArray) : ∀ (r : List S_impl_RecPhase) (i : Nat), l.drop i = r → phIx a r i = -1 ∨ ∃ j : Nat, j < l.length ∧ i ≤ j ∧ phIx a r i = (j : Int) ∧ (l.getD j z_impl_RecPhase).f0 = a
  | [], _, _ => .inl rfl
  | y :: r, i, hd => by
    have hi : i < l.length := by
      refine Nat.lt_of_not_le fun hle => ?_
      rw [List.drop_eq_nil_iff.2 hle] at hd; cases hd
    have e := List.drop_eq_getElem_cons hi
    rw [hd] at e; injection e with e1 e2
    have hy : l.getD i z_impl_RecPhase = y := by rw [getD_eq _ l i hi]; exact e1.symm
    rw [show phIx a (y :: r) i = if y.f0 = a then (i : Int) else phIx a r (i + 1) from rfl]
    by_cases c : y.f0 = a
    · exact .inr ⟨i, hi, Nat.le_refl _, by rw [if_pos c], by rw [hy]; exact c⟩
    · rw [if_neg c]
      rcases phIx_at l a r (i + 1) e2.symm with h | ⟨j, h1, h2, h3, h4⟩
      · exact .inl h
      · exact .inr ⟨j, h1, by omega, h3, h4⟩
theorem l42At_ev (l : List S_impl_RecPhase) (a : ByteArray) (hl : l.length ≤ 140737488351232) : Ev (fun k => spec_l42At.f k l a) (phIx a l 0) := by
  unfold spec_l42At.f
  refine loopL z_impl_RecPhase l (P := fun i r => Ev (fun k => spec_l42At.l0 k l a (i : Int)) (phIx a r i))
    (by refine Ev.step (fun k => by rw [spec_l42At.l0]) ?_; exact ev_neg (by omega) (ev_ret rfl)) (fun i y r hi hx hm _ ih => ?_)
  refine Ev.step (fun k => by rw [spec_l42At.l0]) (ev_pos (by omega) (ev_pos (by omega) ?_))
  rw [wsucc hi (by omega), rdRP, hx]
  unfold phIx
  exact ev_split (fun c => ev_ret (by rw [if_pos (ba_iff.1 c)])) (fun c => ev_eq ih (by rw [if_neg (fun e => c (ba_iff.2 e))]))
theorem phase_ev (l : List S_impl_RecPhase) (a : ByteArray) (hl : l.length ≤ 140737488351232) : Ev (fun k => impl_phase.f k l a) (phIx a l 0) := by
  unfold impl_phase.f
  refine loopL z_impl_RecPhase l (P := fun i r => Ev (fun k => impl_phase.l0 k l a (i : Int)) (phIx a r i))
    (by refine Ev.step (fun k => by rw [impl_phase.l0]) ?_; exact ev_neg (by omega) (ev_ret rfl)) (fun i y r hi hx hm _ ih => ?_)
  refine Ev.step (fun k => by rw [impl_phase.l0]) (ev_pos (by omega) (ev_pos (by omega) ?_))
  rw [wsucc hi (by omega), rdRP, hx]
  unfold phIx
  exact ev_split (fun c => ev_ret (by rw [if_pos (ba_iff.1 c)])) (fun c => ev_eq ih (by rw [if_neg (fun e => c (ba_iff.2 e))]))
def onB (l : List S_impl_RecPhase) (i : Nat) (a : ByteArray) : Bool := !decide (endOf a = 0) || decide ((i : Int) < phIx a l 0)
def ownB (l : List S_impl_RecPhase) (i : Nat) (x : S_impl_RecPhase) : Bool := phaseB x && decide (phIx x.f0 l 0 = (i : Int))
def recA (l : List S_impl_RecPhase) : Nat → List S_impl_RecPhase → Bool
  | _, [] => true
  | i, x :: r => ownB l i x && recA l (i + 1) r
def recN (l : List S_impl_RecPhase) : Nat → List S_impl_RecPhase → Bool
  | _, [] => true
  | i, x :: r => (onB l i x.f6 && onB l i x.f7) && recN l (i + 1) r
def recB (l : List S_impl_RecPhase) : Bool := inB (l.length : Int) 1 12 && (recA l 0 l && recN l 0 l)
theorem and4 (a b c d : Bool) : ((a && b) && (c && d)) = ((a && c) && (b && d)) := by cases a <;> cases b <;> cases c <;> cases d <;> rfl
theorem specRec_ev (l : List S_impl_RecPhase) (hl : l.length ≤ 140737488351232) : Ev (fun k => spec_RecOk.f k l) (recB l) := by
  unfold spec_RecOk.f recB
  refine Ev.bind (l41In_ev _ _ _) (ev_b (fun c => ?_) (fun c => ev_ret (by rw [c]; rfl)))
  rw [c, Bool.true_and]
  refine loopL z_impl_RecPhase l (P := fun i r => Ev (fun k => spec_RecOk.l0 k l (i : Int)) (recA l i r && recN l i r))
    (by refine Ev.step (fun k => by rw [spec_RecOk.l0]) ?_; exact ev_neg (by omega) (ev_ret rfl)) (fun i x r hi hx hm _ ih => ?_)
  refine Ev.step (fun k => by rw [spec_RecOk.l0]) (ev_pos (by omega) (ev_pos (by omega) ?_))
  rw [wsucc hi (by omega), rdRP, hx, show recA l i (x :: r) = (ownB l i x && recA l (i + 1) r) from rfl, show recN l i (x :: r) = ((onB l i x.f6 && onB l i x.f7) && recN l (i + 1) r) from rfl, and4]
  generalize (recA l (i + 1) r && recN l (i + 1) r) = R at *
  have tl : Ev (fun k => (spec_RecEnd.f x.f7).bind fun t => if t = 0 then (spec_l42At.f k l x.f7).bind fun t => if t ≤ (i : Int) then some false else spec_RecOk.l0 k l ((i + 1 : Nat) : Int) else spec_RecOk.l0 k l ((i + 1 : Nat) : Int)) (onB l i x.f7 && R) := by
    unfold onB
    refine Ev.bind (specEnd_ev _) (ev_split (fun d => Ev.bind (l42At_ev l x.f7 hl) (ev_split (fun d2 => ev_ret ?_) (fun d2 => ev_eq ih ?_))) (fun d => ev_eq ih ?_))
    · rw [decide_eq_true d, decide_eq_false (by omega : ¬ (i : Int) < phIx x.f7 l 0)]; rfl
    · rw [decide_eq_true (by omega : (i : Int) < phIx x.f7 l 0)]; simp
    · rw [decide_eq_false d]; rfl
  unfold ownB
  rw [show onB l i x.f6 = (!decide (endOf x.f6 = 0) || decide ((i : Int) < phIx x.f6 l 0)) from rfl]
  refine Ev.bind (specPhase_ev x) (ev_b (fun c1 => ?_) (fun c1 => ev_ret (by rw [c1]; rfl)))
  refine Ev.bind (l42At_ev l x.f0 hl) (ev_split (fun c2 => ?_) (fun c2 => ev_ret (by rw [decide_eq_false c2]; simp)))
  rw [c1, decide_eq_true c2]
  refine Ev.bind (specEnd_ev _) (ev_split (fun d => Ev.bind (l42At_ev l x.f6 hl) (ev_split (fun d2 => ev_ret ?_) (fun d2 => ev_eq tl ?_))) (fun d => ev_eq tl ?_))
  · rw [decide_eq_true d, decide_eq_false (by omega : ¬ (i : Int) < phIx x.f6 l 0)]; rfl
  · rw [decide_eq_true (by omega : (i : Int) < phIx x.f6 l 0)]; simp
  · rw [decide_eq_false d]; rfl
theorem implRec_ev (l : List S_impl_RecPhase) (hl : l.length ≤ 140737488351232) (hz : ∀ x ∈ l, SzR x) : Ev (fun k => impl_RecOk.f k l) (recB l) := by
  unfold impl_RecOk.f recB
  refine ev_split (fun c => ev_ret (by rw [inB_f (by omega)]; rfl)) (fun c1 => ev_split (fun c => ev_ret (by rw [inB_f (by omega)]; rfl)) (fun c2 => ?_))
  rw [inB_t (by omega), Bool.true_and]
  have L1 : Ev (fun k => impl_RecOk.l1 k l 0) (recN l 0 l) := by
    refine loopL z_impl_RecPhase l (P := fun i r => Ev (fun k => impl_RecOk.l1 k l (i : Int)) (recN l i r))
      (by refine Ev.step (fun k => by rw [impl_RecOk.l1]) ?_; exact ev_neg (by omega) (ev_ret rfl)) (fun i x r hi hx hm _ ih => ?_)
    refine Ev.step (fun k => by rw [impl_RecOk.l1]) (ev_pos (by omega) (ev_pos (by omega) ?_))
    rw [rdRP, hx, show recN l i (x :: r) = ((onB l i x.f6 && onB l i x.f7) && recN l (i + 1) r) from rfl]
    generalize recN l (i + 1) r = R at *
    have q2 : Ev (fun k => impl_RecOk.l2 k l (i : Int) [x.f6, x.f7] 2) R := by
      refine Ev.step (fun k => by rw [impl_RecOk.l2]) ?_
      rw [wsucc hi (by omega)]
      exact ev_neg (by omega) ih
    have w1 : wrap64 (1 + 1) = 2 := by unfold wrap64; omega
    have w0 : wrap64 (0 + 1) = 1 := by unfold wrap64; omega
    have q1 : Ev (fun k => impl_RecOk.l2 k l (i : Int) [x.f6, x.f7] 1) (onB l i x.f7 && R) := by
      refine Ev.step (fun k => by rw [impl_RecOk.l2]) (ev_pos (by omega) (ev_pos (by omega) (ev_pos (by simp) ?_)))
      rw [w1, show rdOf ByteArray.empty [x.f6, x.f7] 1 = x.f7 from rfl]
      unfold onB
      refine Ev.bind (implEnd_ev _) (ev_split (fun d => Ev.bind (phase_ev l x.f7 hl) (ev_split (fun d2 => ev_ret ?_) (fun d2 => ev_eq q2 ?_))) (fun d => ev_eq q2 ?_))
      · rw [decide_eq_true d, decide_eq_false (by omega : ¬ (i : Int) < phIx x.f7 l 0)]; rfl
      · rw [decide_eq_true (by omega : (i : Int) < phIx x.f7 l 0)]; simp
      · rw [decide_eq_false d]; rfl
    refine Ev.step (fun k => by rw [impl_RecOk.l2]) (ev_pos (by omega) (ev_pos (by omega) (ev_pos (by simp) ?_)))
    rw [w0, show rdOf ByteArray.empty [x.f6, x.f7] 0 = x.f6 from rfl, show onB l i x.f6 = (!decide (endOf x.f6 = 0) || decide ((i : Int) < phIx x.f6 l 0)) from rfl]
    refine Ev.bind (implEnd_ev _) (ev_split (fun d => Ev.bind (phase_ev l x.f6 hl) (ev_split (fun d2 => ev_ret ?_) (fun d2 => ev_eq q1 ?_))) (fun d => ev_eq q1 ?_))
    · rw [decide_eq_true d, decide_eq_false (by omega : ¬ (i : Int) < phIx x.f6 l 0)]; rfl
    · rw [decide_eq_true (by omega : (i : Int) < phIx x.f6 l 0)]; simp
    · rw [decide_eq_false d]; rfl
  generalize recN l 0 l = N at *
  refine loopL z_impl_RecPhase l (P := fun i r => Ev (fun k => impl_RecOk.l0 k l (i : Int)) (recA l i r && N))
    (by refine Ev.step (fun k => by rw [impl_RecOk.l0]) ?_; exact ev_neg (by omega) (ev_eq L1 rfl)) (fun i x r hi hx hm _ ih => ?_)
  refine Ev.step (fun k => by rw [impl_RecOk.l0]) (ev_pos (by omega) (ev_pos (by omega) ?_))
  rw [wsucc hi (by omega), rdRP, hx, show recA l i (x :: r) = (ownB l i x && recA l (i + 1) r) from rfl]
  unfold ownB
  refine Ev.bind (implPhase_ev x (hz x hm)) (ev_b (fun c3 => ?_) (fun c3 => ev_ret (by rw [c3]; rfl)))
  refine Ev.bind (phase_ev l x.f0 hl) (ev_split (fun c4 => ev_eq ih ?_) (fun c4 => ev_ret (by rw [decide_eq_false c4]; simp)))
  rw [c3, decide_eq_true c4]; rfl
/-! ### numbers, written -/
theorem dec_small {n : Nat} (h : n < 10) : Lib.decDigits n = [UInt8.ofNat (48 + n)] := by rw [Lib.decDigits, dif_pos h]
theorem dec_big {n : Nat} (h : ¬ n < 10) : Lib.decDigits n = Lib.decDigits (n / 10) ++ [UInt8.ofNat (48 + n % 10)] := by rw [Lib.decDigits, dif_neg h]
theorem dec_len : ∀ (m n : Nat), n ≤ m → (Lib.decDigits n).length ≤ n + 1
  | m, n, h => by
    by_cases c : n < 10
    · rw [dec_small c]; simp
    · rw [dec_big c]
      have := dec_len (n / 10) (n / 10) (Nat.le_refl _)
      simp; omega
termination_by m n => n
decreasing_by omega
def decB (n : Int) : ByteArray := ⟨(Lib.decDigits n.toNat).toArray⟩
theorem decB_size {n : Int} (h0 : 0 ≤ n) (h : n ≤ 10000) : (decB n).size ≤ 10001 := by
  have := dec_len n.toNat n.toNat (Nat.le_refl _)
  show (Lib.decDigits n.toNat).toArray.size ≤ 10001
  rw [List.size_toArray]; omega
theorem itoa_ev (n : Int) (h : 0 ≤ n) (h1 : n ≤ 10000) : Ev (fun _ => strconv_Itoa.f n) (decB n) := by
  unfold strconv_Itoa.f itoaSf
  rw [if_pos ⟨by omega, by omega⟩]
  exact ev_ret (by unfold itoaS Lib.itoa decB; rw [if_neg (by omega)])
theorem dig (d : Int) (h0 : 0 ≤ d) (h1 : d < 10) : UInt8.ofNat (IntKind.wrap .u8 (wrap64 (48 + d))).toNat = UInt8.ofNat (48 + d.toNat) := by
  have : d = 0 ∨ d = 1 ∨ d = 2 ∨ d = 3 ∨ d = 4 ∨ d = 5 ∨ d = 6 ∨ d = 7 ∨ d = 8 ∨ d = 9 := by omega
  rcases this with rfl | rfl | rfl | rfl | rfl | rfl | rfl | rfl | rfl | rfl <;> decide +kernel
theorem ba_app (a b : List UInt8) : (⟨a.toArray⟩ : ByteArray) ++ ⟨b.toArray⟩ = ⟨(a ++ b).toArray⟩ := by
  apply ByteArray.ext
  simp [ByteArray.data_append]
theorem l43Dec_ev : ∀ (m : Nat) (n : Int), 0 ≤ n → n ≤ 10000 → n.toNat ≤ m → Ev (fun k => spec_l43Dec.f k n) (decB n)
  | m, n, h0, h1, hm => by
    refine Ev.step (fun k => by rw [spec_l43Dec.f]) ?_
    by_cases c : n < 10
    · refine ev_pos c (ev_ret ?_)
      unfold decB
      rw [dec_small (by omega), dig n h0 c]
    · have e1 : wrap64 (Int.tdiv n 10) = n / 10 := by rw [Int.tdiv_eq_ediv_of_nonneg h0]; exact w64 (by omega) (by omega)
      have e2 : Int.tmod n 10 = n % 10 := Int.tmod_eq_emod_of_nonneg h0
      rw [e1, e2, dig (n % 10) (by omega) (by omega)]
      have hs := decB_size (n := n / 10) (by omega) (by omega)
      refine ev_neg c (Ev.bind (l43Dec_ev (n / 10).toNat (n / 10) (by omega) (by omega) (Nat.le_refl _)) (ev_pos ?_ (ev_ret ?_)))
      · have : (⟨#[UInt8.ofNat (48 + (n % 10).toNat)]⟩ : ByteArray).size = 1 := rfl
        rw [this]; omega
      · unfold decB
        rw [dec_big (n := n.toNat) (by omega), show (n / 10).toNat = n.toNat / 10 by omega, show (n % 10).toNat = n.toNat % 10 by omega]
        exact ba_app _ _
termination_by m n => n.toNat
decreasing_by omega
/-! ### a recipe, written -/
theorem z1 : (⟨#[32]⟩ : ByteArray).size = 1 := rfl
theorem zn : (⟨#[10]⟩ : ByteArray).size = 1 := rfl
theorem z8 : (⟨#[32, 119, 105, 116, 104, 105, 110, 32]⟩ : ByteArray).size = 8 := rfl
theorem z6 : (⟨#[32, 116, 104, 101, 110, 32]⟩ : ByteArray).size = 6 := rfl
theorem z6b : (⟨#[32, 101, 108, 115, 101, 32]⟩ : ByteArray).size = 6 := rfl
theorem z0 : (⟨#[]⟩ : ByteArray).size = 0 := rfl
def kindL : List ByteArray := ([(⟨#[]⟩ : ByteArray), (⟨#[102, 105, 108, 108]⟩ : ByteArray), (⟨#[109, 111, 118, 101]⟩ : ByteArray), (⟨#[104, 111, 108, 100]⟩ : ByteArray), (⟨#[99, 108, 101, 97, 110]⟩ : ByteArray), (⟨#[116, 101, 115, 116]⟩ : ByteArray)] : List ByteArray)
def kindW (k : Int) : ByteArray := rdOf ByteArray.empty kindL k
theorem kindW_size (k : Int) (h0 : 0 ≤ k) (h1 : k < 6) : (kindW k).size ≤ 8 := by
  have : k = 0 ∨ k = 1 ∨ k = 2 ∨ k = 3 ∨ k = 4 ∨ k = 5 := by omega
  rcases this with rfl | rfl | rfl | rfl | rfl | rfl <;> decide
theorem kind_ev (k : Int) (h0 : 0 ≤ k) (h1 : k < 6) : Ev (fun _ => spec_l43Kind.f k) (kindW k) := by
  unfold spec_l43Kind.f
  exact ev_pos h0 (ev_pos h1 (ev_ret rfl))
/-- what is asked of a phase that is written -/
structure PrOk (x : S_impl_RecPhase) : Prop where
  a0 : x.f0.size ≤ 8
  a2 : x.f2.size ≤ 8
  a3 : x.f3.size ≤ 8
  a6 : x.f6.size ≤ 8
  a7 : x.f7.size ≤ 8
  b1 : 0 ≤ x.f1 ∧ x.f1 < 6
  b4 : 0 ≤ x.f4 ∧ x.f4 ≤ 1000
  b5 : 0 ≤ x.f5 ∧ x.f5 ≤ 1000
theorem nameB_size {s : ByteArray} (h : nameB s = true) : s.size ≤ 8 := by
  unfold nameB at h
  rw [Bool.and_eq_true, decide_eq_true_iff] at h
  exact h.1.2
theorem inB_spec {a b c : Int} (h : inB a b c = true) : b ≤ a ∧ a ≤ c := of_decide_eq_true h
theorem prOk {x : S_impl_RecPhase} (h : phaseB x = true) : PrOk x := by
  unfold phaseB at h
  simp only [Bool.and_eq_true] at h
  obtain ⟨⟨h0, _⟩, h5, ⟨h2, ha⟩, h6, h7⟩ := h
  have h5' := inB_spec h5
  have key : x.f3.size ≤ 8 ∧ (0 ≤ x.f1 ∧ x.f1 < 6) ∧ (0 ≤ x.f4 ∧ x.f4 ≤ 1000) := by
    unfold argsB at ha
    split at ha
    · rename_i c
      simp only [Bool.and_eq_true] at ha
      have := inB_spec ha.2
      exact ⟨nameB_size ha.1, by omega, by omega⟩
    · split at ha
      · rename_i c
        simp only [Bool.and_eq_true] at ha
        have := inB_spec ha.2.2
        exact ⟨nameB_size ha.1, by omega, by omega⟩
      · split at ha
        · rename_i c
          simp only [Bool.and_eq_true, decide_eq_true_eq] at ha
          have := inB_spec ha.2
          exact ⟨by rw [ha.1]; decide, by omega, by omega⟩
        · split at ha
          · rename_i c
            simp only [Bool.and_eq_true, decide_eq_true_eq] at ha
            exact ⟨by rw [ha.1]; decide, by omega, by omega⟩
          · cases ha
  exact ⟨nameB_size h0, nameB_size h2, key.1, nameB_size h6, nameB_size h7, key.2.1, key.2.2, by omega⟩
theorem recB_ok {l : List S_impl_RecPhase} (h : recB l = true) : l.length ≤ 12 ∧ ∀ x ∈ l, PrOk x := by
  unfold recB at h
  simp only [Bool.and_eq_true] at h
  obtain ⟨h1, h2, _⟩ := h
  have h1' := inB_spec h1
  refine ⟨by omega, ?_⟩
  have key : ∀ (r : List S_impl_RecPhase) (i : Nat), recA l i r = true → ∀ x ∈ r, PrOk x := fun r => by
    induction r with
    | nil => intro i _ x hx; cases hx
    | cons y r ih =>
      intro i hr x hx
      simp only [recA, ownB, Bool.and_eq_true] at hr
      rcases List.mem_cons.1 hx with rfl | hx
      · exact prOk hr.1.1
      · exact ih _ hr.2 x hx
  exact key l 0 h2
def tl1 (x : S_impl_RecPhase) : ByteArray := (⟨#[32, 119, 105, 116, 104, 105, 110, 32]⟩ : ByteArray) ++ (decB x.f5 ++ ((⟨#[32, 116, 104, 101, 110, 32]⟩ : ByteArray) ++ (x.f6 ++ ((⟨#[32, 101, 108, 115, 101, 32]⟩ : ByteArray) ++ (x.f7 ++ (⟨#[10]⟩ : ByteArray))))))
def tl2 (x : S_impl_RecPhase) : ByteArray := (if x.f4 > 0 then (⟨#[32]⟩ : ByteArray) ++ (decB x.f4 ++ tl1 x) else tl1 x)
def tl3 (x : S_impl_RecPhase) : ByteArray := x.f0 ++ ((⟨#[32]⟩ : ByteArray) ++ (kindW x.f1 ++ ((⟨#[32]⟩ : ByteArray) ++ (x.f2 ++ (if x.f3.toList = (⟨#[]⟩ : ByteArray).toList then tl2 x else (⟨#[32]⟩ : ByteArray) ++ (x.f3 ++ tl2 x))))))
theorem tl1_size {x : S_impl_RecPhase} (h : PrOk x) : (tl1 x).size ≤ 11000 := by
  have h5 := decB_size h.b5.1 (by have := h.b5.2; omega)
  have := h.a6; have := h.a7
  unfold tl1
  simp only [ByteArray.size_append, z1, zn, z8, z6, z6b]; omega
theorem tl2_size {x : S_impl_RecPhase} (h : PrOk x) : (tl2 x).size ≤ 22000 := by
  have h4 := decB_size h.b4.1 (by have := h.b4.2; omega)
  have := tl1_size h
  unfold tl2
  split
  · simp only [ByteArray.size_append, z1]; omega
  · omega
theorem tl3_size {x : S_impl_RecPhase} (h : PrOk x) : (tl3 x).size ≤ 23000 := by
  have := tl2_size h
  have := h.a0; have := h.a2; have := h.a3; have := kindW_size _ h.b1.1 h.b1.2
  unfold tl3
  split
  · simp only [ByteArray.size_append, z1]; omega
  · simp only [ByteArray.size_append, z1]; omega
theorem ev_arg {α β : Type} {f : Nat → α → Option β} {a b : α} {r : β} (h : Ev (fun k => f k b) r) (e : a = b) : Ev (fun k => f k a) r := e ▸ h
section
variable (l : List S_impl_RecPhase) (i : Nat) (x : S_impl_RecPhase) (hi : i < l.length) (hl : l.length ≤ 12) (hx : l.getD i z_impl_RecPhase = x) (hp : PrOk x) (acc : ByteArray) (R : ByteArray)
include hi hl hx hp
theorem specJ1 (ha : acc.size ≤ 1000000) (h : Ev (fun k => spec_RecPrint.l0 k l (acc ++ tl1 x) ((i + 1 : Nat) : Int)) R) : Ev (fun k => spec_RecPrint.j1 k l acc (i : Int)) R := by
  have h5 := decB_size hp.b5.1 (by have := hp.b5.2; omega)
  have b5 := hp.b5; have := hp.a6; have := hp.a7
  refine Ev.step (fun k => by unfold spec_RecPrint.j1; rfl) ?_
  rw [rdRP, hx]
  refine ev_pos (by simp only [ByteArray.size_append, z1, zn, z8, z6, z6b]; omega) (Ev.bind (l43Dec_ev _ _ b5.1 (by omega) (Nat.le_refl _)) ?_)
  repeat' (first | (refine ev_pos ?hh ?_; (case hh => ((try simp only [ByteArray.size_append, z1, zn, z8, z6, z6b]); omega))) | fail)
  refine Ev.step (fun k => by rw [spec_RecPrint.j0]) ?_
  rw [wsucc hi (by omega)]
  exact ev_arg (f := fun k a => spec_RecPrint.l0 k l a ((i + 1 : Nat) : Int)) h (by simp only [tl1, ByteArray.append_assoc])
theorem specJ2 (ha : acc.size ≤ 900000) (h : Ev (fun k => spec_RecPrint.l0 k l (acc ++ tl2 x) ((i + 1 : Nat) : Int)) R) : Ev (fun k => spec_RecPrint.j2 k l acc (i : Int)) R := by
  have h4 := decB_size hp.b4.1 (by have := hp.b4.2; omega)
  have b4 := hp.b4
  refine Ev.step (fun k => by rw [spec_RecPrint.j2]) ?_
  rw [rdRP, hx]
  refine ev_split (fun c => ?_) (fun c => ?_)
  · refine ev_pos (by simp only [ByteArray.size_append, z1]; omega) (Ev.bind (l43Dec_ev _ _ b4.1 (by omega) (Nat.le_refl _)) ?_)
    refine ev_pos (by simp only [ByteArray.size_append, z1]; omega) ?_
    refine specJ1 l i x hi hl hx hp _ R (by simp only [ByteArray.size_append, z1]; omega) ?_
    exact ev_arg (f := fun k a => spec_RecPrint.l0 k l a ((i + 1 : Nat) : Int)) h (by simp only [tl2, if_pos c, ByteArray.append_assoc])
  · refine specJ1 l i x hi hl hx hp _ R (by omega) ?_
    exact ev_arg (f := fun k a => spec_RecPrint.l0 k l a ((i + 1 : Nat) : Int)) h (by simp only [tl2, if_neg c])
theorem specL (ha : acc.size ≤ 600000) (h : Ev (fun k => spec_RecPrint.l0 k l (acc ++ tl3 x) ((i + 1 : Nat) : Int)) R) : Ev (fun k => spec_RecPrint.l0 k l acc (i : Int)) R := by
  have := hp.a0; have := hp.a2; have := hp.a3; have := kindW_size _ hp.b1.1 hp.b1.2
  refine Ev.step (fun k => by rw [spec_RecPrint.l0]) (ev_pos (by omega) (ev_pos (by omega) ?_))
  rw [rdRP, hx]
  repeat' (first | (refine ev_pos ?hh ?_; (case hh => ((try simp only [ByteArray.size_append, z1]); omega))) | fail)
  refine Ev.bind (kind_ev _ hp.b1.1 hp.b1.2) ?_
  repeat' (first | (refine ev_pos ?hh ?_; (case hh => ((try simp only [ByteArray.size_append, z1]); omega))) | fail)
  refine ev_split (fun c => ?_) (fun c => ?_)
  · refine specJ2 l i x hi hl hx hp _ R (by simp only [ByteArray.size_append, z1]; omega) ?_
    exact ev_arg (f := fun k a => spec_RecPrint.l0 k l a ((i + 1 : Nat) : Int)) h (by simp only [tl3, if_pos c, ByteArray.append_assoc])
  · repeat' (first | (refine ev_pos ?hh ?_; (case hh => ((try simp only [ByteArray.size_append, z1]); omega))) | fail)
    refine specJ2 l i x hi hl hx hp _ R (by simp only [ByteArray.size_append, z1]; omega) ?_
    exact ev_arg (f := fun k a => spec_RecPrint.l0 k l a ((i + 1 : Nat) : Int)) h (by simp only [tl3, if_neg c, ByteArray.append_assoc])
theorem implJ1 (ha : acc.size ≤ 1000000) (h : Ev (fun k => impl_RecPrint.l0 k l (acc ++ tl1 x) ((i + 1 : Nat) : Int)) R) : Ev (fun k => impl_RecPrint.j1 k l acc (i : Int)) R := by
  have h5 := decB_size hp.b5.1 (by have := hp.b5.2; omega)
  have b5 := hp.b5; have := hp.a6; have := hp.a7
  refine Ev.step (fun k => by rw [impl_RecPrint.j1]) ?_
  rw [rdRP, hx]
  refine Ev.bind (itoa_ev _ b5.1 (by omega)) ?_
  repeat' (first | (refine ev_pos ?hh ?_; (case hh => ((try simp only [ByteArray.size_append, z1, zn, z8, z6, z6b]); omega))) | fail)
  refine Ev.step (fun k => by rw [impl_RecPrint.j0]) ?_
  rw [wsucc hi (by omega)]
  exact ev_arg (f := fun k a => impl_RecPrint.l0 k l a ((i + 1 : Nat) : Int)) h (by simp only [tl1, ByteArray.append_assoc])
theorem implJ2 (ha : acc.size ≤ 900000) (h : Ev (fun k => impl_RecPrint.l0 k l (acc ++ tl2 x) ((i + 1 : Nat) : Int)) R) : Ev (fun k => impl_RecPrint.j2 k l acc (i : Int)) R := by
  have h4 := decB_size hp.b4.1 (by have := hp.b4.2; omega)
  have b4 := hp.b4
  refine Ev.step (fun k => by rw [impl_RecPrint.j2]) ?_
  rw [rdRP, hx]
  refine ev_split (fun c => ?_) (fun c => ?_)
  · refine Ev.bind (itoa_ev _ b4.1 (by omega)) ?_
    repeat' (first | (refine ev_pos ?hh ?_; (case hh => ((try simp only [ByteArray.size_append, z1]); omega))) | fail)
    refine implJ1 l i x hi hl hx hp _ R (by simp only [ByteArray.size_append, z1]; omega) ?_
    exact ev_arg (f := fun k a => impl_RecPrint.l0 k l a ((i + 1 : Nat) : Int)) h (by simp only [tl2, if_pos c, ByteArray.append_assoc])
  · refine implJ1 l i x hi hl hx hp _ R (by omega) ?_
    exact ev_arg (f := fun k a => impl_RecPrint.l0 k l a ((i + 1 : Nat) : Int)) h (by simp only [tl2, if_neg c])
theorem implL (ha : acc.size ≤ 600000) (h : Ev (fun k => impl_RecPrint.l0 k l (acc ++ tl3 x) ((i + 1 : Nat) : Int)) R) : Ev (fun k => impl_RecPrint.l0 k l acc (i : Int)) R := by
  have := hp.a0; have := hp.a2; have := hp.a3; have hk := kindW_size _ hp.b1.1 hp.b1.2
  have b1 := hp.b1
  refine Ev.step (fun k => by rw [impl_RecPrint.l0]) (ev_pos (by omega) (ev_pos (by omega) ?_))
  rw [rdRP, hx]
  change Ev (fun k => if ((x.f0.size + (⟨#[32]⟩ : ByteArray).size : Nat) : Int) ≤ 9223372036854775807 then _ else none) R
  simp only [show (rdOf ByteArray.empty ([(⟨#[]⟩ : ByteArray), (⟨#[102, 105, 108, 108]⟩ : ByteArray), (⟨#[109, 111, 118, 101]⟩ : ByteArray), (⟨#[104, 111, 108, 100]⟩ : ByteArray), (⟨#[99, 108, 101, 97, 110]⟩ : ByteArray), (⟨#[116, 101, 115, 116]⟩ : ByteArray)] : List ByteArray) x.f1) = kindW x.f1 from rfl]
  repeat' (first | (refine ev_pos ?hh ?_; (case hh => (first | omega | (simp only [ByteArray.size_append, z1]; omega)))) | fail)
  refine ev_split (fun c => ?_) (fun c => ?_)
  · refine implJ2 l i x hi hl hx hp _ R (by simp only [ByteArray.size_append, z1]; omega) ?_
    exact ev_arg (f := fun k a => impl_RecPrint.l0 k l a ((i + 1 : Nat) : Int)) h (by simp only [tl3, if_pos c, ByteArray.append_assoc])
  · repeat' (first | (refine ev_pos ?hh ?_; (case hh => ((try simp only [ByteArray.size_append, z1]); omega))) | fail)
    refine implJ2 l i x hi hl hx hp _ R (by simp only [ByteArray.size_append, z1]; omega) ?_
    exact ev_arg (f := fun k a => impl_RecPrint.l0 k l a ((i + 1 : Nat) : Int)) h (by simp only [tl3, if_neg c, ByteArray.append_assoc])
end
def linesB : List S_impl_RecPhase → ByteArray → ByteArray
  | [], acc => acc
  | x :: r, acc => linesB r (acc ++ tl3 x)
theorem specLs (l : List S_impl_RecPhase) (hl : l.length ≤ 12) (hp : ∀ x ∈ l, PrOk x) : Ev (fun k => spec_RecPrint.l0 k l (⟨#[]⟩ : ByteArray) 0) (linesB l (⟨#[]⟩ : ByteArray)) := by
  have key := loopL z_impl_RecPhase l (P := fun i r => i ≤ l.length → ∀ acc : ByteArray, acc.size ≤ i * 23000 → Ev (fun k => spec_RecPrint.l0 k l acc (i : Int)) (linesB r acc))
    (fun _ acc _ => by refine Ev.step (fun k => by rw [spec_RecPrint.l0]) ?_; exact ev_neg (by omega) (ev_ret rfl)) (fun i x r hi hx hm _ ih _ acc ha => ?_)
  · exact key (by omega) _ (by rw [z0]; omega)
  have := tl3_size (hp x hm)
  exact specL l i x hi hl hx (hp x hm) acc _ (by omega) (ih (by omega) _ (by rw [ByteArray.size_append]; omega))
theorem implLs (l : List S_impl_RecPhase) (hl : l.length ≤ 12) (hp : ∀ x ∈ l, PrOk x) : Ev (fun k => impl_RecPrint.l0 k l (⟨#[]⟩ : ByteArray) 0) (linesB l (⟨#[]⟩ : ByteArray)) := by
  have key := loopL z_impl_RecPhase l (P := fun i r => i ≤ l.length → ∀ acc : ByteArray, acc.size ≤ i * 23000 → Ev (fun k => impl_RecPrint.l0 k l acc (i : Int)) (linesB r acc))
    (fun _ acc _ => by refine Ev.step (fun k => by rw [impl_RecPrint.l0]) ?_; exact ev_neg (by omega) (ev_ret rfl)) (fun i x r hi hx hm _ ih _ acc ha => ?_)
  · exact key (by omega) _ (by rw [z0]; omega)
  have := tl3_size (hp x hm)
  exact implL l i x hi hl hx (hp x hm) acc _ (by omega) (ih (by omega) _ (by rw [ByteArray.size_append]; omega))
def printB (l : List S_impl_RecPhase) : ByteArray := if recB l = true then linesB l (⟨#[]⟩ : ByteArray) else (⟨#[]⟩ : ByteArray)
theorem szR_of {x : S_laws_RecPhase} (h : ok_laws_RecPhase x) : SzR (cv_laws_RecPhase x) := by
  obtain ⟨h0, h1, h2, h3, h4, h5, h6, h7⟩ := h
  exact ⟨h0, h2, h3, h6, h7⟩
theorem FnExactRecPrint : ∀ (x0 : List S_laws_RecPhase), ((x0.length ≤ 9223372036854775807 ∧ x0.length * 104 ≤ 140737488351232) ∧ ∀ z ∈ x0, ok_laws_RecPhase z) → ∃ k, laws_FnExactRecPrint.f k x0 = some true := by
  intro x hx
  obtain ⟨⟨xl, xl2⟩, xk⟩ := hx
  obtain ⟨q, hq⟩ := szRecPhaseS_ev x (by omega) xk 1048576
  have ht := toRecPhaseS_ev x (by omega) xk
  have hk : ∀ z ∈ x.map cv_laws_RecPhase, ok_impl_RecPhase z := fun z hz => by obtain ⟨w, hw, rfl⟩ := List.mem_map.1 hz; exact xk w hw
  have hz : ∀ z ∈ x.map cv_laws_RecPhase, SzR z := fun z hz => by obtain ⟨w, hw, rfl⟩ := List.mem_map.1 hz; exact szR_of (xk w hw)
  have hll : (x.map cv_laws_RecPhase).length = x.length := List.length_map ..
  have hE := eqRecPhaseS_ev (x.map cv_laws_RecPhase) (by omega) hk
  have hS := specRec_ev (x.map cv_laws_RecPhase) (by omega)
  have hI := implRec_ev (x.map cv_laws_RecPhase) (by omega) hz
  generalize x.map cv_laws_RecPhase = l at *
  have eS : Ev (fun k => spec_RecPrint.f k l) (printB l) := by
    unfold spec_RecPrint.f printB
    refine Ev.bind hS (ev_b (fun c => ?_) (fun c => ev_ret (by rw [c]; rfl)))
    rw [if_pos c]
    exact specLs l (recB_ok c).1 (recB_ok c).2
  have eI : Ev (fun k => impl_RecPrint.f k l) (printB l) := by
    unfold impl_RecPrint.f printB
    refine Ev.bind hI (ev_b (fun c => ?_) (fun c => ev_ret (by rw [c]; rfl)))
    rw [if_pos c]
    exact implLs l (recB_ok c).1 (recB_ok c).2
  generalize printB l = R at *
  clear hS hI hz hk
  refine Ev.rounds ?_
  unfold laws_FnExactRecPrint.f
  refine Ev.bind hq (ev_split (fun _ => ev_ret rfl) (fun _ => ?_))
  repeat' (first
    | with_reducible refine Ev.bind ht ?_
    | with_reducible refine Ev.bind eS ?_
    | with_reducible refine Ev.bind eI ?_
    | with_reducible refine Ev.bind hE ?_
    | with_reducible refine ev_neg (by first | omega | (dsimp only; omega)) ?_
    | with_reducible refine ev_pos rfl ?_
    | with_reducible exact ev_ret rfl)
end Go.Proofs.YteflhnpcgoijfaaDoor.Pure
set_option linter.unusedVariables false
set_option linter.unusedSimpArgs false
namespace Go.Proofs.YteflhnpcgoijfaaDoor.RP
open Go Go.Aw Go.RowKit Go.Proofs
set_option maxRecDepth 100000
set_option maxHeartbeats 40000000
variable {G : Nat → Option Obj}
def tab : List (TypeId × TI) := [(2, ⟨1, 8, false, 0, 0, [], [.int .i64 0], some .i64, false, false, false, [], [0], []⟩),
  (3, ⟨1, 8, false, 0, 0, [], [.int .i64 0], some .i64, false, false, false, [], [0], []⟩),
  (4, ⟨1, 1, false, 0, 0, [], [.bool false], none, false, false, true, [], [0], []⟩),
  (5, ⟨1, 1, false, 0, 0, [], [.int .u8 0], some .u8, false, false, false, [], [0], []⟩),
  (6, ⟨1, 1, false, 0, 0, [], [.int .u8 0], some .u8, false, false, false, [], [0], []⟩),
  (7, ⟨4, 24, true, 0, 0, [(0, 2), (1, 3), (2, 4), (3, 6)], [.int .i64 0, .int .i64 0, .bool false, .int .u8 0], none, false, false, false, [(0, 1), (1, 1), (2, 1), (3, 1)], [0, 0, 0, 0], []⟩),
  (8, ⟨4, 24, true, 0, 0, [(0, 2), (1, 3), (2, 4), (3, 6)], [.int .i64 0, .int .i64 0, .bool false, .int .u8 0], none, false, false, false, [(0, 1), (1, 1), (2, 1), (3, 1)], [0, 0, 0, 0], []⟩),
  (9, ⟨1, 16, false, 0, 0, [], [.str ⟨#[]⟩], none, true, false, false, [], [0], []⟩),
  (10, ⟨1, 16, false, 0, 0, [], [.str ⟨#[]⟩], none, true, false, false, [], [0], []⟩),
  (11, ⟨1, 16, false, 0, 0, [], [.str ⟨#[]⟩], none, true, false, false, [], [0], []⟩),
  (12, ⟨1, 8, false, 0, 0, [], [.int .u64 0], some .u64, false, false, false, [], [0], []⟩),
  (13, ⟨2, 24, true, 0, 0, [(0, 9), (1, 12)], [.str ⟨#[]⟩, .int .u64 0], none, false, false, false, [(0, 1), (1, 1)], [0, 0], []⟩),
  (14, ⟨2, 24, true, 0, 0, [(0, 9), (1, 12)], [.str ⟨#[]⟩, .int .u64 0], none, false, false, false, [(0, 1), (1, 1)], [0, 0], []⟩),
  (21, ⟨1, 4, false, 0, 0, [], [.int .i32 0], some .i32, false, false, false, [], [0], []⟩),
  (22, ⟨1, 24, false, 9, 0, [], [.nil], none, false, true, false, [], [1], []⟩),
  (28, ⟨1, 24, false, 5, 0, [], [.nil], none, false, true, false, [], [1], []⟩),
  (31, ⟨1, 24, false, 72, 0, [], [.nil], none, false, true, false, [], [8], []⟩),
  (34, ⟨1, 24, false, 73, 0, [], [.nil], none, false, true, false, [], [8], []⟩),
  (38, ⟨1, 24, false, 112, 0, [], [.nil], none, false, true, false, [], [2], []⟩),
  (39, ⟨1, 24, false, 114, 0, [], [.nil], none, false, true, false, [], [3], []⟩),
  (40, ⟨1, 24, false, 116, 0, [], [.nil], none, false, true, false, [], [4], []⟩),
  (41, ⟨4, 96, true, 0, 0, [(0, 22), (1, 38), (2, 39), (3, 40)], [.nil, .nil, .nil, .nil], none, false, false, false, [(0, 1), (1, 1), (2, 1), (3, 1)], [1, 2, 3, 4], []⟩),
  (42, ⟨4, 96, true, 0, 0, [(0, 22), (1, 38), (2, 39), (3, 40)], [.nil, .nil, .nil, .nil], none, false, false, false, [(0, 1), (1, 1), (2, 1), (3, 1)], [1, 2, 3, 4], []⟩),
  (45, ⟨1, 24, false, 81, 0, [], [.nil], none, false, true, false, [], [2], []⟩),
  (46, ⟨1, 24, false, 83, 0, [], [.nil], none, false, true, false, [], [3], []⟩),
  (47, ⟨1, 24, false, 85, 0, [], [.nil], none, false, true, false, [], [4], []⟩),
  (48, ⟨4, 96, true, 0, 0, [(0, 22), (1, 45), (2, 46), (3, 47)], [.nil, .nil, .nil, .nil], none, false, false, false, [(0, 1), (1, 1), (2, 1), (3, 1)], [1, 2, 3, 4], []⟩),
  (49, ⟨4, 96, true, 0, 0, [(0, 22), (1, 45), (2, 46), (3, 47)], [.nil, .nil, .nil, .nil], none, false, false, false, [(0, 1), (1, 1), (2, 1), (3, 1)], [1, 2, 3, 4], []⟩),
  (53, ⟨2, 16, true, 0, 0, [(0, 3), (1, 3)], [.int .i64 0, .int .i64 0], none, false, false, false, [(0, 1), (1, 1)], [0, 0], []⟩),
  (54, ⟨2, 16, true, 0, 0, [(0, 3), (1, 3)], [.int .i64 0, .int .i64 0], none, false, false, false, [(0, 1), (1, 1)], [0, 0], [1, 1]⟩),
  (71, ⟨8, 104, true, 0, 0, [(0, 9), (1, 3), (2, 9), (3, 9), (4, 3), (5, 3), (6, 9), (7, 9)], [.str ⟨#[]⟩, .int .i64 0, .str ⟨#[]⟩, .str ⟨#[]⟩, .int .i64 0, .int .i64 0, .str ⟨#[]⟩, .str ⟨#[]⟩], none, false, false, false, [(0, 1), (1, 1), (2, 1), (3, 1), (4, 1), (5, 1), (6, 1), (7, 1)], [0, 0, 0, 0, 0, 0, 0, 0], []⟩),
  (72, ⟨8, 104, true, 0, 0, [(0, 9), (1, 3), (2, 9), (3, 9), (4, 3), (5, 3), (6, 9), (7, 9)], [.str ⟨#[]⟩, .int .i64 0, .str ⟨#[]⟩, .str ⟨#[]⟩, .int .i64 0, .int .i64 0, .str ⟨#[]⟩, .str ⟨#[]⟩], none, false, false, false, [(0, 1), (1, 1), (2, 1), (3, 1), (4, 1), (5, 1), (6, 1), (7, 1)], [0, 0, 0, 0, 0, 0, 0, 0], [2, 1, 2, 2, 1, 1, 2, 2]⟩),
  (73, ⟨8, 104, true, 0, 0, [(0, 9), (1, 3), (2, 9), (3, 9), (4, 3), (5, 3), (6, 9), (7, 9)], [.str ⟨#[]⟩, .int .i64 0, .str ⟨#[]⟩, .str ⟨#[]⟩, .int .i64 0, .int .i64 0, .str ⟨#[]⟩, .str ⟨#[]⟩], none, false, false, false, [(0, 1), (1, 1), (2, 1), (3, 1), (4, 1), (5, 1), (6, 1), (7, 1)], [0, 0, 0, 0, 0, 0, 0, 0], [2, 1, 2, 2, 1, 1, 2, 2]⟩),
  (80, ⟨2, 32, true, 0, 0, [(0, 9), (1, 9)], [.str ⟨#[]⟩, .str ⟨#[]⟩], none, false, false, false, [(0, 1), (1, 1)], [0, 0], []⟩),
  (81, ⟨2, 32, true, 0, 0, [(0, 9), (1, 9)], [.str ⟨#[]⟩, .str ⟨#[]⟩], none, false, false, false, [(0, 1), (1, 1)], [0, 0], [2, 2]⟩),
  (82, ⟨3, 40, true, 0, 0, [(0, 9), (1, 3), (2, 9)], [.str ⟨#[]⟩, .int .i64 0, .str ⟨#[]⟩], none, false, false, false, [(0, 1), (1, 1), (2, 1)], [0, 0, 0], []⟩),
  (83, ⟨3, 40, true, 0, 0, [(0, 9), (1, 3), (2, 9)], [.str ⟨#[]⟩, .int .i64 0, .str ⟨#[]⟩], none, false, false, false, [(0, 1), (1, 1), (2, 1)], [0, 0, 0], [2, 1, 2]⟩),
  (84, ⟨4, 64, true, 0, 0, [(0, 9), (1, 9), (2, 9), (3, 9)], [.str ⟨#[]⟩, .str ⟨#[]⟩, .str ⟨#[]⟩, .str ⟨#[]⟩], none, false, false, false, [(0, 1), (1, 1), (2, 1), (3, 1)], [0, 0, 0, 0], []⟩),
  (85, ⟨4, 64, true, 0, 0, [(0, 9), (1, 9), (2, 9), (3, 9)], [.str ⟨#[]⟩, .str ⟨#[]⟩, .str ⟨#[]⟩, .str ⟨#[]⟩], none, false, false, false, [(0, 1), (1, 1), (2, 1), (3, 1)], [0, 0, 0, 0], [2, 2, 2, 2]⟩),
  (94, ⟨1, 24, false, 3, 0, [], [.nil], none, false, true, false, [], [1], []⟩),
  (109, ⟨2, 32, true, 0, 0, [(0, 28), (1, 3)], [.nil, .int .i64 0], none, false, false, false, [(0, 1), (1, 1)], [1, 0], []⟩),
  (110, ⟨2, 32, true, 0, 0, [(0, 28), (1, 3)], [.nil, .int .i64 0], none, false, false, false, [(0, 1), (1, 1)], [1, 0], []⟩),
  (112, ⟨2, 32, true, 0, 0, [(0, 9), (1, 9)], [.str ⟨#[]⟩, .str ⟨#[]⟩], none, false, false, false, [(0, 1), (1, 1)], [0, 0], [2, 2]⟩),
  (114, ⟨3, 40, true, 0, 0, [(0, 9), (1, 3), (2, 9)], [.str ⟨#[]⟩, .int .i64 0, .str ⟨#[]⟩], none, false, false, false, [(0, 1), (1, 1), (2, 1)], [0, 0, 0], [2, 1, 2]⟩),
  (116, ⟨4, 64, true, 0, 0, [(0, 9), (1, 9), (2, 9), (3, 9)], [.str ⟨#[]⟩, .str ⟨#[]⟩, .str ⟨#[]⟩, .str ⟨#[]⟩], none, false, false, false, [(0, 1), (1, 1), (2, 1), (3, 1)], [0, 0, 0, 0], [2, 2, 2, 2]⟩),
  (122, ⟨1, 24, false, 139, 0, [], [.nil], none, false, true, false, [], [2], []⟩),
  (134, ⟨2, 32, true, 0, 0, [(0, 28), (1, 3)], [.nil, .int .i64 0], none, false, false, false, [(0, 1), (1, 1)], [1, 0], []⟩),
  (139, ⟨2, 32, true, 9, 2, [], [.str ⟨#[]⟩, .str ⟨#[]⟩], none, false, false, false, [(0, 1), (1, 1)], [0, 0], [2, 2]⟩),
  (145, ⟨24, 24, true, 5, 24, [], [.int .u8 0, .int .u8 0, .int .u8 0, .int .u8 0, .int .u8 0, .int .u8 0, .int .u8 0, .int .u8 0, .int .u8 0, .int .u8 0, .int .u8 0, .int .u8 0, .int .u8 0, .int .u8 0, .int .u8 0, .int .u8 0, .int .u8 0, .int .u8 0, .int .u8 0, .int .u8 0, .int .u8 0, .int .u8 0, .int .u8 0, .int .u8 0], none, false, false, false, [(0, 1), (1, 1), (2, 1), (3, 1), (4, 1), (5, 1), (6, 1), (7, 1), (8, 1), (9, 1), (10, 1), (11, 1), (12, 1), (13, 1), (14, 1), (15, 1), (16, 1), (17, 1), (18, 1), (19, 1), (20, 1), (21, 1), (22, 1), (23, 1)], [0, 0, 0, 0, 0, 0, 0, 0, 0, 0, 0, 0, 0, 0, 0, 0, 0, 0, 0, 0, 0, 0, 0, 0], [1, 1, 1, 1, 1, 1, 1, 1, 1, 1, 1, 1, 1, 1, 1, 1, 1, 1, 1, 1, 1, 1, 1, 1]⟩),
  (146, ⟨1, 8, false, 0, 0, [], [.int .u64 0], some .u64, false, false, false, [], [0], []⟩),
  (154, ⟨1, 8, false, 0, 0, [], [.int .u64 0], some .u64, false, false, false, [], [0], []⟩),
  (158, ⟨20, 160, true, 146, 20, [], [.int .u64 0, .int .u64 0, .int .u64 0, .int .u64 0, .int .u64 0, .int .u64 0, .int .u64 0, .int .u64 0, .int .u64 0, .int .u64 0, .int .u64 0, .int .u64 0, .int .u64 0, .int .u64 0, .int .u64 0, .int .u64 0, .int .u64 0, .int .u64 0, .int .u64 0, .int .u64 0], none, false, false, false, [(0, 1), (1, 1), (2, 1), (3, 1), (4, 1), (5, 1), (6, 1), (7, 1), (8, 1), (9, 1), (10, 1), (11, 1), (12, 1), (13, 1), (14, 1), (15, 1), (16, 1), (17, 1), (18, 1), (19, 1)], [0, 0, 0, 0, 0, 0, 0, 0, 0, 0, 0, 0, 0, 0, 0, 0, 0, 0, 0, 0], [1, 1, 1, 1, 1, 1, 1, 1, 1, 1, 1, 1, 1, 1, 1, 1, 1, 1, 1, 1]⟩),
  (159, ⟨1, 4, false, 0, 0, [], [.int .u32 0], some .u32, false, false, false, [], [0], []⟩),
  (160, ⟨65, 65, true, 5, 65, [], [.int .u8 0, .int .u8 0, .int .u8 0, .int .u8 0, .int .u8 0, .int .u8 0, .int .u8 0, .int .u8 0, .int .u8 0, .int .u8 0, .int .u8 0, .int .u8 0, .int .u8 0, .int .u8 0, .int .u8 0, .int .u8 0, .int .u8 0, .int .u8 0, .int .u8 0, .int .u8 0, .int .u8 0, .int .u8 0, .int .u8 0, .int .u8 0, .int .u8 0, .int .u8 0, .int .u8 0, .int .u8 0, .int .u8 0, .int .u8 0, .int .u8 0, .int .u8 0, .int .u8 0, .int .u8 0, .int .u8 0, .int .u8 0, .int .u8 0, .int .u8 0, .int .u8 0, .int .u8 0, .int .u8 0, .int .u8 0, .int .u8 0, .int .u8 0, .int .u8 0, .int .u8 0, .int .u8 0, .int .u8 0, .int .u8 0, .int .u8 0, .int .u8 0, .int .u8 0, .int .u8 0, .int .u8 0, .int .u8 0, .int .u8 0, .int .u8 0, .int .u8 0, .int .u8 0, .int .u8 0, .int .u8 0, .int .u8 0, .int .u8 0, .int .u8 0, .int .u8 0], none, false, false, false, [(0, 1), (1, 1), (2, 1), (3, 1), (4, 1), (5, 1), (6, 1), (7, 1), (8, 1), (9, 1), (10, 1), (11, 1), (12, 1), (13, 1), (14, 1), (15, 1), (16, 1), (17, 1), (18, 1), (19, 1), (20, 1), (21, 1), (22, 1), (23, 1), (24, 1), (25, 1), (26, 1), (27, 1), (28, 1), (29, 1), (30, 1), (31, 1), (32, 1), (33, 1), (34, 1), (35, 1), (36, 1), (37, 1), (38, 1), (39, 1), (40, 1), (41, 1), (42, 1), (43, 1), (44, 1), (45, 1), (46, 1), (47, 1), (48, 1), (49, 1), (50, 1), (51, 1), (52, 1), (53, 1), (54, 1), (55, 1), (56, 1), (57, 1), (58, 1), (59, 1), (60, 1), (61, 1), (62, 1), (63, 1), (64, 1)], [0, 0, 0, 0, 0, 0, 0, 0, 0, 0, 0, 0, 0, 0, 0, 0, 0, 0, 0, 0, 0, 0, 0, 0, 0, 0, 0, 0, 0, 0, 0, 0, 0, 0, 0, 0, 0, 0, 0, 0, 0, 0, 0, 0, 0, 0, 0, 0, 0, 0, 0, 0, 0, 0, 0, 0, 0, 0, 0, 0, 0, 0, 0, 0, 0], []⟩),
  (166, ⟨256, 256, true, 5, 256, [], [.int .u8 0, .int .u8 0, .int .u8 0, .int .u8 0, .int .u8 0, .int .u8 0, .int .u8 0, .int .u8 0, .int .u8 0, .int .u8 0, .int .u8 0, .int .u8 0, .int .u8 0, .int .u8 0, .int .u8 0, .int .u8 0, .int .u8 0, .int .u8 0, .int .u8 0, .int .u8 0, .int .u8 0, .int .u8 0, .int .u8 0, .int .u8 0, .int .u8 0, .int .u8 0, .int .u8 0, .int .u8 0, .int .u8 0, .int .u8 0, .int .u8 0, .int .u8 0, .int .u8 0, .int .u8 0, .int .u8 0, .int .u8 0, .int .u8 0, .int .u8 0, .int .u8 0, .int .u8 0, .int .u8 0, .int .u8 0, .int .u8 0, .int .u8 0, .int .u8 0, .int .u8 0, .int .u8 0, .int .u8 0, .int .u8 0, .int .u8 0, .int .u8 0, .int .u8 0, .int .u8 0, .int .u8 0, .int .u8 0, .int .u8 0, .int .u8 0, .int .u8 0, .int .u8 0, .int .u8 0, .int .u8 0, .int .u8 0, .int .u8 0, .int .u8 0, .int .u8 0, .int .u8 0, .int .u8 0, .int .u8 0, .int .u8 0, .int .u8 0, .int .u8 0, .int .u8 0, .int .u8 0, .int .u8 0, .int .u8 0, .int .u8 0, .int .u8 0, .int .u8 0, .int .u8 0, .int .u8 0, .int .u8 0, .int .u8 0, .int .u8 0, .int .u8 0, .int .u8 0, .int .u8 0, .int .u8 0, .int .u8 0, .int .u8 0, .int .u8 0, .int .u8 0, .int .u8 0, .int .u8 0, .int .u8 0, .int .u8 0, .int .u8 0, .int .u8 0, .int .u8 0, .int .u8 0, .int .u8 0, .int .u8 0, .int .u8 0, .int .u8 0, .int .u8 0, .int .u8 0, .int .u8 0, .int .u8 0, .int .u8 0, .int .u8 0, .int .u8 0, .int .u8 0, .int .u8 0, .int .u8 0, .int .u8 0, .int .u8 0, .int .u8 0, .int .u8 0, .int .u8 0, .int .u8 0, .int .u8 0, .int .u8 0, .int .u8 0, .int .u8 0, .int .u8 0, .int .u8 0, .int .u8 0, .int .u8 0, .int .u8 0, .int .u8 0, .int .u8 0, .int .u8 0, .int .u8 0, .int .u8 0, .int .u8 0, .int .u8 0, .int .u8 0, .int .u8 0, .int .u8 0, .int .u8 0, .int .u8 0, .int .u8 0, .int .u8 0, .int .u8 0, .int .u8 0, .int .u8 0, .int .u8 0, .int .u8 0, .int .u8 0, .int .u8 0, .int .u8 0, .int .u8 0, .int .u8 0, .int .u8 0, .int .u8 0, .int .u8 0, .int .u8 0, .int .u8 0, .int .u8 0, .int .u8 0, .int .u8 0, .int .u8 0, .int .u8 0, .int .u8 0, .int .u8 0, .int .u8 0, .int .u8 0, .int .u8 0, .int .u8 0, .int .u8 0, .int .u8 0, .int .u8 0, .int .u8 0, .int .u8 0, .int .u8 0, .int .u8 0, .int .u8 0, .int .u8 0, .int .u8 0, .int .u8 0, .int .u8 0, .int .u8 0, .int .u8 0, .int .u8 0, .int .u8 0, .int .u8 0, .int .u8 0, .int .u8 0, .int .u8 0, .int .u8 0, .int .u8 0, .int .u8 0, .int .u8 0, .int .u8 0, .int .u8 0, .int .u8 0, .int .u8 0, .int .u8 0, .int .u8 0, .int .u8 0, .int .u8 0, .int .u8 0, .int .u8 0, .int .u8 0, .int .u8 0, .int .u8 0, .int .u8 0, .int .u8 0, .int .u8 0, .int .u8 0, .int .u8 0, .int .u8 0, .int .u8 0, .int .u8 0, .int .u8 0, .int .u8 0, .int .u8 0, .int .u8 0, .int .u8 0, .int .u8 0, .int .u8 0, .int .u8 0, .int .u8 0, .int .u8 0, .int .u8 0, .int .u8 0, .int .u8 0, .int .u8 0, .int .u8 0, .int .u8 0, .int .u8 0, .int .u8 0, .int .u8 0, .int .u8 0, .int .u8 0, .int .u8 0, .int .u8 0, .int .u8 0, .int .u8 0, .int .u8 0, .int .u8 0, .int .u8 0, .int .u8 0, .int .u8 0, .int .u8 0, .int .u8 0, .int .u8 0, .int .u8 0, .int .u8 0, .int .u8 0, .int .u8 0, .int .u8 0, .int .u8 0, .int .u8 0, .int .u8 0, .int .u8 0, .int .u8 0], none, false, false, false, [(0, 1), (1, 1), (2, 1), (3, 1), (4, 1), (5, 1), (6, 1), (7, 1), (8, 1), (9, 1), (10, 1), (11, 1), (12, 1), (13, 1), (14, 1), (15, 1), (16, 1), (17, 1), (18, 1), (19, 1), (20, 1), (21, 1), (22, 1), (23, 1), (24, 1), (25, 1), (26, 1), (27, 1), (28, 1), (29, 1), (30, 1), (31, 1), (32, 1), (33, 1), (34, 1), (35, 1), (36, 1), (37, 1), (38, 1), (39, 1), (40, 1), (41, 1), (42, 1), (43, 1), (44, 1), (45, 1), (46, 1), (47, 1), (48, 1), (49, 1), (50, 1), (51, 1), (52, 1), (53, 1), (54, 1), (55, 1), (56, 1), (57, 1), (58, 1), (59, 1), (60, 1), (61, 1), (62, 1), (63, 1), (64, 1), (65, 1), (66, 1), (67, 1), (68, 1), (69, 1), (70, 1), (71, 1), (72, 1), (73, 1), (74, 1), (75, 1), (76, 1), (77, 1), (78, 1), (79, 1), (80, 1), (81, 1), (82, 1), (83, 1), (84, 1), (85, 1), (86, 1), (87, 1), (88, 1), (89, 1), (90, 1), (91, 1), (92, 1), (93, 1), (94, 1), (95, 1), (96, 1), (97, 1), (98, 1), (99, 1), (100, 1), (101, 1), (102, 1), (103, 1), (104, 1), (105, 1), (106, 1), (107, 1), (108, 1), (109, 1), (110, 1), (111, 1), (112, 1), (113, 1), (114, 1), (115, 1), (116, 1), (117, 1), (118, 1), (119, 1), (120, 1), (121, 1), (122, 1), (123, 1), (124, 1), (125, 1), (126, 1), (127, 1), (128, 1), (129, 1), (130, 1), (131, 1), (132, 1), (133, 1), (134, 1), (135, 1), (136, 1), (137, 1), (138, 1), (139, 1), (140, 1), (141, 1), (142, 1), (143, 1), (144, 1), (145, 1), (146, 1), (147, 1), (148, 1), (149, 1), (150, 1), (151, 1), (152, 1), (153, 1), (154, 1), (155, 1), (156, 1), (157, 1), (158, 1), (159, 1), (160, 1), (161, 1), (162, 1), (163, 1), (164, 1), (165, 1), (166, 1), (167, 1), (168, 1), (169, 1), (170, 1), (171, 1), (172, 1), (173, 1), (174, 1), (175, 1), (176, 1), (177, 1), (178, 1), (179, 1), (180, 1), (181, 1), (182, 1), (183, 1), (184, 1), (185, 1), (186, 1), (187, 1), (188, 1), (189, 1), (190, 1), (191, 1), (192, 1), (193, 1), (194, 1), (195, 1), (196, 1), (197, 1), (198, 1), (199, 1), (200, 1), (201, 1), (202, 1), (203, 1), (204, 1), (205, 1), (206, 1), (207, 1), (208, 1), (209, 1), (210, 1), (211, 1), (212, 1), (213, 1), (214, 1), (215, 1), (216, 1), (217, 1), (218, 1), (219, 1), (220, 1), (221, 1), (222, 1), (223, 1), (224, 1), (225, 1), (226, 1), (227, 1), (228, 1), (229, 1), (230, 1), (231, 1), (232, 1), (233, 1), (234, 1), (235, 1), (236, 1), (237, 1), (238, 1), (239, 1), (240, 1), (241, 1), (242, 1), (243, 1), (244, 1), (245, 1), (246, 1), (247, 1), (248, 1), (249, 1), (250, 1), (251, 1), (252, 1), (253, 1), (254, 1), (255, 1)], [0, 0, 0, 0, 0, 0, 0, 0, 0, 0, 0, 0, 0, 0, 0, 0, 0, 0, 0, 0, 0, 0, 0, 0, 0, 0, 0, 0, 0, 0, 0, 0, 0, 0, 0, 0, 0, 0, 0, 0, 0, 0, 0, 0, 0, 0, 0, 0, 0, 0, 0, 0, 0, 0, 0, 0, 0, 0, 0, 0, 0, 0, 0, 0, 0, 0, 0, 0, 0, 0, 0, 0, 0, 0, 0, 0, 0, 0, 0, 0, 0, 0, 0, 0, 0, 0, 0, 0, 0, 0, 0, 0, 0, 0, 0, 0, 0, 0, 0, 0, 0, 0, 0, 0, 0, 0, 0, 0, 0, 0, 0, 0, 0, 0, 0, 0, 0, 0, 0, 0, 0, 0, 0, 0, 0, 0, 0, 0, 0, 0, 0, 0, 0, 0, 0, 0, 0, 0, 0, 0, 0, 0, 0, 0, 0, 0, 0, 0, 0, 0, 0, 0, 0, 0, 0, 0, 0, 0, 0, 0, 0, 0, 0, 0, 0, 0, 0, 0, 0, 0, 0, 0, 0, 0, 0, 0, 0, 0, 0, 0, 0, 0, 0, 0, 0, 0, 0, 0, 0, 0, 0, 0, 0, 0, 0, 0, 0, 0, 0, 0, 0, 0, 0, 0, 0, 0, 0, 0, 0, 0, 0, 0, 0, 0, 0, 0, 0, 0, 0, 0, 0, 0, 0, 0, 0, 0, 0, 0, 0, 0, 0, 0, 0, 0, 0, 0, 0, 0, 0, 0, 0, 0, 0, 0, 0, 0, 0, 0, 0, 0, 0, 0, 0, 0, 0, 0], []⟩),
  (167, ⟨2, 2, true, 0, 0, [(0, 5), (1, 5)], [.int .u8 0, .int .u8 0], none, false, false, false, [(0, 1), (1, 1)], [0, 0], []⟩),
  (168, ⟨2, 2, true, 0, 0, [(0, 5), (1, 5)], [.int .u8 0, .int .u8 0], none, false, false, false, [(0, 1), (1, 1)], [0, 0], []⟩),
  (169, ⟨32, 32, true, 168, 16, [], [.int .u8 0, .int .u8 0, .int .u8 0, .int .u8 0, .int .u8 0, .int .u8 0, .int .u8 0, .int .u8 0, .int .u8 0, .int .u8 0, .int .u8 0, .int .u8 0, .int .u8 0, .int .u8 0, .int .u8 0, .int .u8 0, .int .u8 0, .int .u8 0, .int .u8 0, .int .u8 0, .int .u8 0, .int .u8 0, .int .u8 0, .int .u8 0, .int .u8 0, .int .u8 0, .int .u8 0, .int .u8 0, .int .u8 0, .int .u8 0, .int .u8 0, .int .u8 0], none, false, false, false, [(0, 2), (2, 2), (4, 2), (6, 2), (8, 2), (10, 2), (12, 2), (14, 2), (16, 2), (18, 2), (20, 2), (22, 2), (24, 2), (26, 2), (28, 2), (30, 2)], [0, 0, 0, 0, 0, 0, 0, 0, 0, 0, 0, 0, 0, 0, 0, 0, 0, 0, 0, 0, 0, 0, 0, 0, 0, 0, 0, 0, 0, 0, 0, 0], []⟩),
  (170, ⟨32, 32, true, 5, 32, [], [.int .u8 0, .int .u8 0, .int .u8 0, .int .u8 0, .int .u8 0, .int .u8 0, .int .u8 0, .int .u8 0, .int .u8 0, .int .u8 0, .int .u8 0, .int .u8 0, .int .u8 0, .int .u8 0, .int .u8 0, .int .u8 0, .int .u8 0, .int .u8 0, .int .u8 0, .int .u8 0, .int .u8 0, .int .u8 0, .int .u8 0, .int .u8 0, .int .u8 0, .int .u8 0, .int .u8 0, .int .u8 0, .int .u8 0, .int .u8 0, .int .u8 0, .int .u8 0], none, false, false, false, [(0, 1), (1, 1), (2, 1), (3, 1), (4, 1), (5, 1), (6, 1), (7, 1), (8, 1), (9, 1), (10, 1), (11, 1), (12, 1), (13, 1), (14, 1), (15, 1), (16, 1), (17, 1), (18, 1), (19, 1), (20, 1), (21, 1), (22, 1), (23, 1), (24, 1), (25, 1), (26, 1), (27, 1), (28, 1), (29, 1), (30, 1), (31, 1)], [0, 0, 0, 0, 0, 0, 0, 0, 0, 0, 0, 0, 0, 0, 0, 0, 0, 0, 0, 0, 0, 0, 0, 0, 0, 0, 0, 0, 0, 0, 0, 0], [1, 1, 1, 1, 1, 1, 1, 1, 1, 1, 1, 1, 1, 1, 1, 1, 1, 1, 1, 1, 1, 1, 1, 1, 1, 1, 1, 1, 1, 1, 1, 1]⟩),
  (171, ⟨64, 64, true, 5, 64, [], [.int .u8 0, .int .u8 0, .int .u8 0, .int .u8 0, .int .u8 0, .int .u8 0, .int .u8 0, .int .u8 0, .int .u8 0, .int .u8 0, .int .u8 0, .int .u8 0, .int .u8 0, .int .u8 0, .int .u8 0, .int .u8 0, .int .u8 0, .int .u8 0, .int .u8 0, .int .u8 0, .int .u8 0, .int .u8 0, .int .u8 0, .int .u8 0, .int .u8 0, .int .u8 0, .int .u8 0, .int .u8 0, .int .u8 0, .int .u8 0, .int .u8 0, .int .u8 0, .int .u8 0, .int .u8 0, .int .u8 0, .int .u8 0, .int .u8 0, .int .u8 0, .int .u8 0, .int .u8 0, .int .u8 0, .int .u8 0, .int .u8 0, .int .u8 0, .int .u8 0, .int .u8 0, .int .u8 0, .int .u8 0, .int .u8 0, .int .u8 0, .int .u8 0, .int .u8 0, .int .u8 0, .int .u8 0, .int .u8 0, .int .u8 0, .int .u8 0, .int .u8 0, .int .u8 0, .int .u8 0, .int .u8 0, .int .u8 0, .int .u8 0, .int .u8 0], none, false, false, false, [(0, 1), (1, 1), (2, 1), (3, 1), (4, 1), (5, 1), (6, 1), (7, 1), (8, 1), (9, 1), (10, 1), (11, 1), (12, 1), (13, 1), (14, 1), (15, 1), (16, 1), (17, 1), (18, 1), (19, 1), (20, 1), (21, 1), (22, 1), (23, 1), (24, 1), (25, 1), (26, 1), (27, 1), (28, 1), (29, 1), (30, 1), (31, 1), (32, 1), (33, 1), (34, 1), (35, 1), (36, 1), (37, 1), (38, 1), (39, 1), (40, 1), (41, 1), (42, 1), (43, 1), (44, 1), (45, 1), (46, 1), (47, 1), (48, 1), (49, 1), (50, 1), (51, 1), (52, 1), (53, 1), (54, 1), (55, 1), (56, 1), (57, 1), (58, 1), (59, 1), (60, 1), (61, 1), (62, 1), (63, 1)], [0, 0, 0, 0, 0, 0, 0, 0, 0, 0, 0, 0, 0, 0, 0, 0, 0, 0, 0, 0, 0, 0, 0, 0, 0, 0, 0, 0, 0, 0, 0, 0, 0, 0, 0, 0, 0, 0, 0, 0, 0, 0, 0, 0, 0, 0, 0, 0, 0, 0, 0, 0, 0, 0, 0, 0, 0, 0, 0, 0, 0, 0, 0, 0], []⟩),
  (178, ⟨1, 1, false, 0, 0, [], [.int .u8 0], some .u8, false, false, false, [], [0], []⟩),
  (179, ⟨1, 1, false, 0, 0, [], [.int .u8 0], some .u8, false, false, false, [], [0], []⟩),
  (182, ⟨1, 4, false, 0, 0, [], [.int .i32 0], some .i32, false, false, false, [], [0], []⟩),
  (183, ⟨1, 4, false, 0, 0, [], [.int .i32 0], some .i32, false, false, false, [], [0], []⟩)]
theorem tok : TOk Tryd.prog (lk tab) := tok_of tab (by kernel_rfl)
theorem hP : Tryd.prog.follows .mixedOrders = true := by kernel_rfl
def en_S_laws_RecPhase (x : S_laws_RecPhase) : List V := [.str x.f0, .int .i64 x.f1, .str x.f2, .str x.f3, .int .i64 x.f4, .int .i64 x.f5, .str x.f6, .str x.f7]
def sv_S_laws_RecPhase (l : List S_laws_RecPhase) : V := .sl 8 l.length (l.map en_S_laws_RecPhase)
def ob_S_laws_RecPhase (l : List S_laws_RecPhase) : Ob := .arr 72 8 (l.map en_S_laws_RecPhase)
theorem bare_en_S_laws_RecPhase (x : S_laws_RecPhase) : (en_S_laws_RecPhase x).all V.bare = true := rfl
theorem rdm_en_S_laws_RecPhase (l : List S_laws_RecPhase) (i : Int) (h0 : 0 ≤ i) (h1 : i < (l.length : Int)) : (l.map en_S_laws_RecPhase)[i.toNat]? = some (en_S_laws_RecPhase (rd_laws_RecPhase l i)) := by
  have : i.toNat < l.length := by omega
  simp [rd_laws_RecPhase, this]
def en_S_impl_RecPhase (x : S_impl_RecPhase) : List V := [.str x.f0, .int .i64 x.f1, .str x.f2, .str x.f3, .int .i64 x.f4, .int .i64 x.f5, .str x.f6, .str x.f7]
def sv_S_impl_RecPhase (l : List S_impl_RecPhase) : V := .sl 8 l.length (l.map en_S_impl_RecPhase)
def ob_S_impl_RecPhase (l : List S_impl_RecPhase) : Ob := .arr 73 8 (l.map en_S_impl_RecPhase)
theorem bare_en_S_impl_RecPhase (x : S_impl_RecPhase) : (en_S_impl_RecPhase x).all V.bare = true := rfl
theorem rdm_en_S_impl_RecPhase (l : List S_impl_RecPhase) (i : Int) (h0 : 0 ≤ i) (h1 : i < (l.length : Int)) : (l.map en_S_impl_RecPhase)[i.toNat]? = some (en_S_impl_RecPhase (rd_impl_RecPhase l i)) := by
  have : i.toNat < l.length := by omega
  simp [rd_impl_RecPhase, this]
def en_str (x : ByteArray) : List V := [.str x]
def sv_str (l : List ByteArray) : V := .sl 1 l.length (l.map en_str)
def ob_str (l : List ByteArray) : Ob := .arr 9 1 (l.map en_str)
theorem bare_en_str (x : ByteArray) : (en_str x).all V.bare = true := rfl
theorem rdm_en_str (l : List ByteArray) (i : Int) (h0 : 0 ≤ i) (h1 : i < (l.length : Int)) : (l.map en_str)[i.toNat]? = some (en_str (rdOf ByteArray.empty l i)) := by
  have : i.toNat < l.length := by omega
  simp [rdOf, this]
def en_u8 (x : Int) : List V := [.int .u8 x]
def sv_u8 (l : List Int) : V := .sl 1 l.length (l.map en_u8)
def ob_u8 (l : List Int) : Ob := .arr 5 1 (l.map en_u8)
theorem bare_en_u8 (x : Int) : (en_u8 x).all V.bare = true := rfl
theorem rdm_en_u8 (l : List Int) (i : Int) (h0 : 0 ≤ i) (h1 : i < (l.length : Int)) : (l.map en_u8)[i.toNat]? = some (en_u8 (rd l i)) := by
  have : i.toNat < l.length := by omega
  simp [rd, this]
def en_i64 (x : Int) : List V := [.int .i64 x]
def sv_i64 (l : List Int) : V := .sl 1 l.length (l.map en_i64)
def ob_i64 (l : List Int) : Ob := .arr 3 1 (l.map en_i64)
theorem bare_en_i64 (x : Int) : (en_i64 x).all V.bare = true := rfl
theorem rdm_en_i64 (l : List Int) (i : Int) (h0 : 0 ≤ i) (h1 : i < (l.length : Int)) : (l.map en_i64)[i.toNat]? = some (en_i64 (rd l i)) := by
  have : i.toNat < l.length := by omega
  simp [rd, this]
def en_L_S_laws_RecPhase (x : List S_laws_RecPhase) : List V := [(sv_S_laws_RecPhase x)]
def sv_L_S_laws_RecPhase (l : List (List S_laws_RecPhase)) : V := .sl 1 l.length (l.map en_L_S_laws_RecPhase)
def ob_L_S_laws_RecPhase (l : List (List S_laws_RecPhase)) : Ob := .arr 31 1 (l.map en_L_S_laws_RecPhase)
theorem rdm_en_L_S_laws_RecPhase (l : List (List S_laws_RecPhase)) (i : Int) (h0 : 0 ≤ i) (h1 : i < (l.length : Int)) : (l.map en_L_S_laws_RecPhase)[i.toNat]? = some (en_L_S_laws_RecPhase (rdOf ([] : List S_laws_RecPhase) l i)) := by
  have : i.toNat < l.length := by omega
  simp [rdOf, this]
attribute [local irreducible] callE Lp Sq Cut RetOk Fits

theorem laws_szRecPhase.ac {a0_0 : ByteArray} {a0_1 : Int} {a0_2 : ByteArray} {a0_3 : ByteArray} {a0_4 : Int} {a0_5 : Int} {a0_6 : ByteArray} {a0_7 : ByteArray} {a1 : Int} {r : Int} (H : laws_szRecPhase.f a0_0 a0_1 a0_2 a0_3 a0_4 a0_5 a0_6 a0_7 a1 = some r) : ACalls Tryd.prog G 44 [] [.agg [.str a0_0, .int .i64 a0_1, .str a0_2, .str a0_3, .int .i64 a0_4, .int .i64 a0_5, .str a0_6, .str a0_7], .int .i64 a1] [] (.int .i64 r) := by
  refine acalls_of tok hP Tryd.func44 rfl (by kernel_rfl) [.tmp 4] rfl (by kernel_rfl) (Nat.le_of_ble_eq_true rfl) (.l .n (.l .n (.l (.c .n .n) (.l .n (.l .n (.c .n (.l .n (.l .n (.l (.c .n .n) (.l .n (.l .n (.c .n .n)))))))))))) rfl ?_
  unfold laws_szRecPhase.f at H
  conv => whnf
  refine cut_ 80 [(1, .int .i64 (wrap64 (a1 - (a0_0.size : Int)))), (2, .bp 0 0), (11, .bool (decide ((wrap64 (a1 - (a0_0.size : Int))) < 0)))] [(0, .box [.str a0_0, .int .i64 a0_1, .str a0_2, .str a0_3, .int .i64 a0_4, .int .i64 a0_5, .str a0_6, .str a0_7])] rfl ⟨.inl rfl, ⟨.inl rfl, ⟨.inl rfl, trivial⟩⟩⟩ ⟨rfl, trivial⟩ ?_
  conv => whnf
  refine br_d H (fun c H => ?_) (fun c H => ?_)
  conv => whnf
  injection H with H; subst H
  exact ret_fz [] (rtA_eq rfl)
  conv => whnf
  refine br_d H (fun c H => ?_) (fun c H => ?_)
  conv => whnf
  injection H with H; subst H
  exact ret_fz [] (rtA_eq rfl)
  conv => whnf
  refine cut_ 192 [(1, .int .i64 (wrap64 ((wrap64 ((wrap64 (a1 - (a0_0.size : Int))) - (a0_2.size : Int))) - (a0_3.size : Int)))), (2, .bp 0 0)] [(0, .box [.str a0_0, .int .i64 a0_1, .str a0_2, .str a0_3, .int .i64 a0_4, .int .i64 a0_5, .str a0_6, .str a0_7])] rfl ⟨.inl rfl, ⟨.inl rfl, trivial⟩⟩ ⟨rfl, trivial⟩ ?_
  conv => whnf
  refine br_d H (fun c H => ?_) (fun c H => ?_)
  conv => whnf
  injection H with H; subst H
  exact ret_fz [] (rtA_eq rfl)
  conv => whnf
  refine cut_ 272 [(1, .int .i64 (wrap64 ((wrap64 ((wrap64 ((wrap64 (a1 - (a0_0.size : Int))) - (a0_2.size : Int))) - (a0_3.size : Int))) - (a0_6.size : Int)))), (2, .bp 0 0), (32, .bool (decide ((wrap64 ((wrap64 ((wrap64 ((wrap64 (a1 - (a0_0.size : Int))) - (a0_2.size : Int))) - (a0_3.size : Int))) - (a0_6.size : Int))) < 0)))] [(0, .box [.str a0_0, .int .i64 a0_1, .str a0_2, .str a0_3, .int .i64 a0_4, .int .i64 a0_5, .str a0_6, .str a0_7])] rfl ⟨.inl rfl, ⟨.inl rfl, ⟨.inl rfl, trivial⟩⟩⟩ ⟨rfl, trivial⟩ ?_
  conv => whnf
  refine br_d H (fun c H => ?_) (fun c H => ?_)
  conv => whnf
  injection H with H; subst H
  exact ret_fz [] (rtA_eq rfl)
  conv => whnf
  refine br_d H (fun c H => ?_) (fun c H => ?_)
  conv => whnf
  injection H with H; subst H
  exact ret_fz [] (rtA_eq rfl)
  conv => whnf
  refine cut_ 352 [(4, .int .i64 (wrap64 ((wrap64 ((wrap64 ((wrap64 ((wrap64 (a1 - (a0_0.size : Int))) - (a0_2.size : Int))) - (a0_3.size : Int))) - (a0_6.size : Int))) - (a0_7.size : Int))))] [] rfl ⟨.inl rfl, trivial⟩ trivial ?_
  conv => whnf
  injection H with H; subst H
  exact ret_fz [] (rtA_eq rfl)
theorem laws_szRecPhaseS.l0_lp {F : (Exit → St → Prop) → St → Prop} {hv : List Tmp} {Q : Exit → St → Prop} {σ : St} {r : Int} {k : Nat} {l0 : List S_laws_RecPhase} {x1 : Int} {x5 : Int} (H : laws_szRecPhaseS.l0 k l0 x1 x5 = some r) (rn : List (Option Nat)) (h1 : Fits σ σ [] [(1, .int .i64 x1), (5, .int .i64 x5)] [] [] rn)
    (h2 : ∀ (k0 : Nat) (x1 : Int) (x5 : Int), k0 < k + 1 → laws_szRecPhaseS.l0 k0 l0 x1 x5 = some r → headN σ hv [] [(1, .int .i64 x1), (5, .int .i64 x5)] [] [] (F (fun e σ' => match e with | .normal => ∃ (y : Nat × Int × Int) (rn : List (Option Nat)), (laws_szRecPhaseS.l0 y.1 l0 y.2.1 y.2.2 = some r ∧ y.1 < k + 1) ∧ y.1 < k0 ∧ Fits σ σ' [] [(1, .int .i64 y.2.1), (5, .int .i64 y.2.2)] [] [] rn | e => Q e σ'))) : Lp F hv Q σ := by
  unfold Lp
  refine ⟨Nat × Int × Int, fun x => laws_szRecPhaseS.l0 x.1 l0 x.2.1 x.2.2 = some r ∧ x.1 < k + 1, fun x => x.1, [], fun x => [(1, .int .i64 x.2.1), (5, .int .i64 x.2.2)], fun x => [], fun x => [], ⟨(k, x1, x5), rn, ⟨H, Nat.lt_succ_self _⟩, h1⟩, ?_⟩
  rintro ⟨k, x1, x5⟩ ⟨H, hk⟩
  exact h2 k x1 x5 hk H
theorem laws_szRecPhaseS.ac {k : Nat} {l0 : List S_laws_RecPhase} {a1 : Int} {r : Int} (H : laws_szRecPhaseS.f k l0 a1 = some r) : ACalls Tryd.prog G 16 [] [(sv_S_laws_RecPhase l0), .int .i64 a1] [] (.int .i64 r) := by
  refine acalls_of tok hP Tryd.func16 rfl (by kernel_rfl) [.tmp 4] rfl (by kernel_rfl) (Nat.le_of_ble_eq_true rfl) (.l .n (.l .n (.l .n (.l (.l .n (.l (.c .n .n) (.l (.l .n (.l .n (.l (.c .n .n) .n))) .n))) .n)))) rfl ?_
  unfold laws_szRecPhaseS.f at H
  conv => whnf
  refine br_d H (fun c H => ?_) (fun c H => ?_)
  conv => whnf
  injection H with H; subst H
  exact ret_fz [] (rtA_eq rfl)
  conv => whnf
  refine laws_szRecPhaseS.l0_lp (l0 := l0) (k := k) H [] (fits_of ⟨.inl ⟨rfl, rfl⟩, ⟨.inl ⟨rfl, rfl⟩, trivial⟩⟩ trivial fi_ trivial rfl) ?_
  intro k x1 x5 hk H; rcases k with _ | k; exact none_elim H; rw [laws_szRecPhaseS.l0] at H; conv => whnf
  refine cut_ 104 [(0, (sv_S_laws_RecPhase l0)), (1, .int .i64 x1), (5, .int .i64 x5), (15, .bool (decide (x5 < (l0.length : Int))))] [] rfl ⟨.inl rfl, ⟨.inl rfl, ⟨.inl rfl, ⟨.inl rfl, trivial⟩⟩⟩⟩ trivial ?_
  conv => whnf
  refine br_d H (fun c H => ?_) (fun c H => ?_)
  conv => whnf
  refine nd_ H (fun c H => ?_)
  conv => whnf
  refine Nd.mk nf_ ?_
  conv => whnf
  refine El.mk (rdm_en_S_laws_RecPhase _ _ nf_ nf_) ?_
  conv => whnf
  revert H; refine bind_elim (fun t4 A H => ?_)
  refine call_mk (laws_szRecPhase.ac A) (avAL_cons (avA_agg (avL_cons (av_shut' rfl) (avL_cons (av_shut' rfl) (avL_cons (av_shut' rfl) (avL_cons (av_shut' rfl) (avL_cons (av_shut' rfl) (avL_cons (av_shut' rfl) (avL_cons (av_shut' rfl) (avL_cons (av_shut' rfl) (avL_nil)))))))))) (avAL_cons (avA_shut' rfl) (avAL_nil))) (Or.inl rfl) rfl rfl (Nat.le_of_ble_eq_true rfl) ?_
  conv => whnf
  refine br_d H (fun c H => ?_) (fun c H => ?_)
  conv => whnf
  refine cut_ 184 [(4, .int .i64 (-1))] [] rfl ⟨.inl rfl, trivial⟩ trivial ?_
  conv => whnf
  injection H with H; subst H
  exact ret_fz [] (rtA_eq rfl)
  conv => whnf
  exact ⟨(k, t4, wrap64 (x5 + 1)), [], ⟨H, lt_⟩, lt_, (fits_of ⟨.inl ⟨rfl, rfl⟩, ⟨.inl ⟨rfl, rfl⟩, trivial⟩⟩ trivial fi_ trivial rfl)⟩
  conv => whnf
  injection H with H; subst H
  exact ret_fz [] (rtA_eq rfl)
theorem laws_toRecPhase.ac {a0_0 : ByteArray} {a0_1 : Int} {a0_2 : ByteArray} {a0_3 : ByteArray} {a0_4 : Int} {a0_5 : Int} {a0_6 : ByteArray} {a0_7 : ByteArray} {r : ByteArray × Int × ByteArray × ByteArray × Int × Int × ByteArray × ByteArray} (H : laws_toRecPhase.f a0_0 a0_1 a0_2 a0_3 a0_4 a0_5 a0_6 a0_7 = some r) : ACalls Tryd.prog G 47 [] [.agg [.str a0_0, .int .i64 a0_1, .str a0_2, .str a0_3, .int .i64 a0_4, .int .i64 a0_5, .str a0_6, .str a0_7]] [] (.agg [.str r.1, .int .i64 r.2.1, .str r.2.2.1, .str r.2.2.2.1, .int .i64 r.2.2.2.2.1, .int .i64 r.2.2.2.2.2.1, .str r.2.2.2.2.2.2.1, .str r.2.2.2.2.2.2.2]) := by
  refine acalls_of tok hP Tryd.func47 rfl (by kernel_rfl) [.cell 2 73] rfl (by kernel_rfl) (Nat.le_of_ble_eq_true rfl) (.l .n (.l .n (.l .n (.l .n (.c .n (.l .n (.l .n (.l .n (.c .n .n))))))))) rfl ?_
  unfold laws_toRecPhase.f at H
  conv => whnf
  refine cut_ 120 [(1, .bp 0 0), (2, .bp 8 0), (3, .bp 16 0)] [(0, .box [.str a0_0, .int .i64 a0_1, .str a0_2, .str a0_3, .int .i64 a0_4, .int .i64 a0_5, .str a0_6, .str a0_7]), (8, .box [.str (⟨#[]⟩ : ByteArray), .int .i64 0, .str (⟨#[]⟩ : ByteArray), .str (⟨#[]⟩ : ByteArray), .int .i64 0, .int .i64 0, .str (⟨#[]⟩ : ByteArray), .str (⟨#[]⟩ : ByteArray)]), (16, .box [.str a0_0, .int .i64 a0_1, .str a0_2, .str (⟨#[]⟩ : ByteArray), .int .i64 0, .int .i64 0, .str (⟨#[]⟩ : ByteArray), .str (⟨#[]⟩ : ByteArray)])] rfl ⟨.inl rfl, ⟨.inl rfl, ⟨.inl rfl, trivial⟩⟩⟩ ⟨rfl, ⟨rfl, ⟨rfl, trivial⟩⟩⟩ ?_
  conv => whnf
  refine cut_ 248 [(1, .bp 0 0), (2, .bp 8 0), (3, .bp 16 0)] [(0, .box [.str a0_0, .int .i64 a0_1, .str a0_2, .str a0_3, .int .i64 a0_4, .int .i64 a0_5, .str a0_6, .str a0_7]), (8, .box [.str (⟨#[]⟩ : ByteArray), .int .i64 0, .str (⟨#[]⟩ : ByteArray), .str (⟨#[]⟩ : ByteArray), .int .i64 0, .int .i64 0, .str (⟨#[]⟩ : ByteArray), .str (⟨#[]⟩ : ByteArray)]), (16, .box [.str a0_0, .int .i64 a0_1, .str a0_2, .str a0_3, .int .i64 a0_4, .int .i64 a0_5, .str a0_6, .str (⟨#[]⟩ : ByteArray)])] rfl ⟨.inl rfl, ⟨.inl rfl, ⟨.inl rfl, trivial⟩⟩⟩ ⟨rfl, ⟨rfl, ⟨rfl, trivial⟩⟩⟩ ?_
  conv => whnf
  injection H with H; subst H
  exact ret_fz [] (rtA_agg (rtL_cons (rt_eq rfl) (rtL_cons (rt_eq rfl) (rtL_cons (rt_eq rfl) (rtL_cons (rt_eq rfl) (rtL_cons (rt_eq rfl) (rtL_cons (rt_eq rfl) (rtL_cons (rt_eq rfl) (rtL_cons (rt_eq rfl) (rtL_nil))))))))))
theorem laws_toRecPhaseS.l0_lp {F : (Exit → St → Prop) → St → Prop} {hv : List Tmp} {Q : Exit → St → Prop} {σ : St} {r : List S_impl_RecPhase} {k : Nat} {l0 : List S_laws_RecPhase} {x3 : List S_impl_RecPhase} {x4 : Int} (H : laws_toRecPhaseS.l0 k l0 x3 x4 = some r) (rn : List (Option Nat)) (h1 : Fits σ σ [24] [(3, .own 0 x3.length), (4, .int .i64 x4)] [] [.arr 73 8 (x3.map en_S_impl_RecPhase)] rn)
    (h2 : ∀ (k0 : Nat) (x3 : List S_impl_RecPhase) (x4 : Int), k0 < k + 1 → laws_toRecPhaseS.l0 k0 l0 x3 x4 = some r → headN σ hv [24] [(3, .own 0 x3.length), (4, .int .i64 x4)] [] [.arr 73 8 (x3.map en_S_impl_RecPhase)] (F (fun e σ' => match e with | .normal => ∃ (y : Nat × (List S_impl_RecPhase) × Int) (rn : List (Option Nat)), (laws_toRecPhaseS.l0 y.1 l0 y.2.1 y.2.2 = some r ∧ y.1 < k + 1) ∧ y.1 < k0 ∧ Fits σ σ' [24] [(3, .own 0 y.2.1.length), (4, .int .i64 y.2.2)] [] [.arr 73 8 (y.2.1.map en_S_impl_RecPhase)] rn | e => Q e σ'))) : Lp F hv Q σ := by
  unfold Lp
  refine ⟨Nat × (List S_impl_RecPhase) × Int, fun x => laws_toRecPhaseS.l0 x.1 l0 x.2.1 x.2.2 = some r ∧ x.1 < k + 1, fun x => x.1, [24], fun x => [(3, .own 0 x.2.1.length), (4, .int .i64 x.2.2)], fun x => [], fun x => [.arr 73 8 (x.2.1.map en_S_impl_RecPhase)], ⟨(k, x3, x4), rn, ⟨H, Nat.lt_succ_self _⟩, h1⟩, ?_⟩
  rintro ⟨k, x3, x4⟩ ⟨H, hk⟩
  exact h2 k x3 x4 hk H
theorem laws_toRecPhaseS.ac {k : Nat} {l0 : List S_laws_RecPhase} {r : List S_impl_RecPhase} (H : laws_toRecPhaseS.f k l0 = some r) : ACalls Tryd.prog G 18 [] [(sv_S_laws_RecPhase l0)] [] ((sv_S_impl_RecPhase r)) := by
  refine acalls_of tok hP Tryd.func18 rfl (by kernel_rfl) [.tmp 2] rfl (by kernel_rfl) (Nat.le_of_ble_eq_true rfl) (.l .n (.l .n (.l (.l .n (.l (.c .n .n) .n)) .n))) rfl ?_
  unfold laws_toRecPhaseS.f at H
  conv => whnf
  refine Nd.mk (Int.natCast_nonneg _) ?_
  conv => whnf
  refine Nd.mk (Int.le_refl _) ?_
  conv => whnf
  refine nd_ H (fun c H => ?_)
  conv => whnf
  refine laws_toRecPhaseS.l0_lp (l0 := l0) (k := k) H [some 24] (fits_of ⟨mt_own lm_, ⟨.inl ⟨rfl, rfl⟩, trivial⟩⟩ ⟨fm_, trivial⟩ fi_ trivial rfl) ?_
  intro k x3 x4 hk H; rcases k with _ | k; exact none_elim H; rw [laws_toRecPhaseS.l0] at H; conv => whnf
  refine cut_ 81 [(0, (sv_S_laws_RecPhase l0)), (3, .own 48 x3.length), (4, .int .i64 x4), (11, .bool (decide (x4 < (l0.length : Int))))] [(48, .arr 73 8 (x3.map en_S_impl_RecPhase))] rfl ⟨.inl rfl, ⟨.inl rfl, ⟨.inl rfl, ⟨.inl rfl, trivial⟩⟩⟩⟩ ⟨rfl, trivial⟩ ?_
  conv => whnf
  refine br_d H (fun c H => ?_) (fun c H => ?_)
  conv => whnf
  refine nd_ H (fun c H => ?_)
  conv => whnf
  refine Nd.mk nf_ ?_
  conv => whnf
  refine El.mk (rdm_en_S_laws_RecPhase _ _ nf_ nf_) ?_
  conv => whnf
  revert H; refine bind_elim (fun t13 A H => ?_)
  refine call_mk (laws_toRecPhase.ac A) (avAL_cons (avA_agg (avL_cons (av_shut' rfl) (avL_cons (av_shut' rfl) (avL_cons (av_shut' rfl) (avL_cons (av_shut' rfl) (avL_cons (av_shut' rfl) (avL_cons (av_shut' rfl) (avL_cons (av_shut' rfl) (avL_cons (av_shut' rfl) (avL_nil)))))))))) (avAL_nil)) (Or.inl rfl) rfl rfl (Nat.le_of_ble_eq_true rfl) ?_
  conv => whnf
  refine Nd.mk nf_ ?_
  conv => whnf
  refine nd_ H (fun c H => ?_)
  conv => whnf
  refine El.mk (rdm_en_S_impl_RecPhase _ _ nf_ nf_) ?_
  conv => whnf
  exact ⟨(k, (x3.set (x4).toNat (⟨t13.1, t13.2.1, t13.2.2.1, t13.2.2.2.1, t13.2.2.2.2.1, t13.2.2.2.2.2.1, t13.2.2.2.2.2.2.1, t13.2.2.2.2.2.2.2⟩ : S_impl_RecPhase)), wrap64 (x4 + 1)), [some 48], ⟨H, lt_⟩, lt_, (fits_of ⟨mt_own lm_, ⟨.inl ⟨rfl, rfl⟩, trivial⟩⟩ ⟨fm_, trivial⟩ fi_ trivial rfl)⟩
  conv => whnf
  injection H with H; subst H
  exact ret_fz [48] (rtA_fz' rfl rfl)
theorem spec_l41In.ac {a0 : Int} {a1 : Int} {a2 : Int} {r : Bool} (H : spec_l41In.f a0 a1 a2 = some r) : ACalls Tryd.prog G 81 [] [.int .i64 a0, .int .i64 a1, .int .i64 a2] [] (.bool r) := by
  refine acalls_of tok hP Tryd.func81 rfl (by kernel_rfl) [.tmp 6] rfl (by kernel_rfl) (Nat.le_of_ble_eq_true rfl) (.l .n (.c .n .n)) rfl ?_
  unfold spec_l41In.f at H
  conv => whnf
  refine br_d H (fun c H => ?_) (fun c H => ?_)
  conv => whnf
  refine Br.t ft_ ?_
  conv => whnf
  refine Br.t ft_ ?_
  conv => whnf
  refine Br.t ft_ ?_
  conv => whnf
  refine cut_ 80 [(6, .bool (decide (a0 ≤ a2)))] [] rfl ⟨.inl rfl, trivial⟩ trivial ?_
  conv => whnf
  injection H with H; subst H
  exact ret_fz [] (rtA_eq rfl)
  conv => whnf
  refine Br.f ff_ ?_
  conv => whnf
  refine Br.f ff_ ?_
  conv => whnf
  refine Br.f ff_ ?_
  conv => whnf
  refine cut_ 80 [(6, .bool false)] [] rfl ⟨.inl rfl, trivial⟩ trivial ?_
  conv => whnf
  injection H with H; subst H
  exact ret_fz [] (rtA_eq rfl)
theorem spec_l41NameOk.l0_lp {F : (Exit → St → Prop) → St → Prop} {hv : List Tmp} {Q : Exit → St → Prop} {σ : St} {r : Bool} {k : Nat} {a0 : ByteArray} {x3 : Int} (H : spec_l41NameOk.l0 k a0 x3 = some r) (rn : List (Option Nat)) (h1 : Fits σ σ [] [(3, .int .i64 x3)] [] [] rn)
    (h2 : ∀ (k0 : Nat) (x3 : Int), k0 < k + 1 → spec_l41NameOk.l0 k0 a0 x3 = some r → headN σ hv [] [(3, .int .i64 x3)] [] [] (F (fun e σ' => match e with | .normal => ∃ (y : Nat × Int) (rn : List (Option Nat)), (spec_l41NameOk.l0 y.1 a0 y.2 = some r ∧ y.1 < k + 1) ∧ y.1 < k0 ∧ Fits σ σ' [] [(3, .int .i64 y.2)] [] [] rn | e => Q e σ'))) : Lp F hv Q σ := by
  unfold Lp
  refine ⟨Nat × Int, fun x => spec_l41NameOk.l0 x.1 a0 x.2 = some r ∧ x.1 < k + 1, fun x => x.1, [], fun x => [(3, .int .i64 x.2)], fun x => [], fun x => [], ⟨(k, x3), rn, ⟨H, Nat.lt_succ_self _⟩, h1⟩, ?_⟩
  rintro ⟨k, x3⟩ ⟨H, hk⟩
  exact h2 k x3 hk H
theorem spec_l41NameOk.ac {k : Nat} {a0 : ByteArray} {r : Bool} (H : spec_l41NameOk.f k a0 = some r) : ACalls Tryd.prog G 114 [] [.str a0] [] (.bool r) := by
  refine acalls_of tok hP Tryd.func114 rfl (by kernel_rfl) [.tmp 2] rfl (by kernel_rfl) (Nat.le_of_ble_eq_true rfl) (.l .n (.l .n (.l (.l .n (.l (.c .n .n) (.l (.l .n (.c .n .n)) .n))) .n))) rfl ?_
  unfold spec_l41NameOk.f at H
  conv => whnf
  revert H; refine bind_elim (fun t43 A H => ?_)
  refine call_mk (spec_l41In.ac A) (avAL_cons (avA_shut' rfl) (avAL_cons (avA_shut' rfl) (avAL_cons (avA_shut' rfl) (avAL_nil)))) (Or.inl rfl) rfl rfl (Nat.le_of_ble_eq_true rfl) ?_
  conv => whnf
  refine br_nt H (fun c H => ?_) (fun c H => ?_)
  conv => whnf
  refine spec_l41NameOk.l0_lp (a0 := a0) (k := k) H [] (fits_of ⟨.inl ⟨rfl, rfl⟩, trivial⟩ trivial fi_ trivial rfl) ?_
  intro k x3 hk H; rcases k with _ | k; exact none_elim H; rw [spec_l41NameOk.l0] at H; conv => whnf
  refine cut_ 80 [(0, .str a0), (3, .int .i64 x3), (12, .bool (decide (x3 < (a0.size : Int))))] [] rfl ⟨.inl rfl, ⟨.inl rfl, ⟨.inl rfl, trivial⟩⟩⟩ trivial ?_
  conv => whnf
  refine br_d H (fun c H => ?_) (fun c H => ?_)
  conv => whnf
  refine nd_ H (fun c H => ?_)
  conv => whnf
  refine Nd.mk nf_ ?_
  conv => whnf
  refine br_d H (fun c H => ?_) (fun c H => ?_)
  conv => whnf
  refine Br.t ft_ ?_
  conv => whnf
  refine Br.t ft_ ?_
  conv => whnf
  refine br_d H (fun c H => ?_) (fun c H => ?_)
  conv => whnf
  refine Br.t ft_ ?_
  conv => whnf
  refine Br.t ft_ ?_
  conv => whnf
  refine Br.t ft_ ?_
  conv => whnf
  refine Br.t ft_ ?_
  conv => whnf
  refine Br.t rfl ?_
  conv => whnf
  refine Br.t rfl ?_
  conv => whnf
  refine Br.t rfl ?_
  conv => whnf
  refine cut_ 264 [(0, .str a0), (3, .int .i64 x3), (36, .bool (!true))] [] rfl ⟨.inl rfl, ⟨.inl rfl, ⟨.inl rfl, trivial⟩⟩⟩ trivial ?_
  conv => whnf
  refine Br.f rfl ?_
  conv => whnf
  exact ⟨(k, wrap64 (x3 + 1)), [], ⟨H, lt_⟩, lt_, (fits_of ⟨.inl ⟨rfl, rfl⟩, trivial⟩ trivial fi_ trivial rfl)⟩
  conv => whnf
  refine Br.f ff_ ?_
  conv => whnf
  refine Br.f ff_ ?_
  conv => whnf
  refine br_d H (fun c H => ?_) (fun c H => ?_)
  conv => whnf
  refine Br.t ft_ ?_
  conv => whnf
  refine Br.f ff_ ?_
  conv => whnf
  refine Br.t ft_ ?_
  conv => whnf
  refine Br.f ff_ ?_
  conv => whnf
  refine br_d H (fun c H => ?_) (fun c H => ?_)
  conv => whnf
  refine Br.t ft_ ?_
  conv => whnf
  refine Br.t ft_ ?_
  conv => whnf
  refine cut_ 264 [(0, .str a0), (3, .int .i64 x3), (36, .bool (!true))] [] rfl ⟨.inl rfl, ⟨.inl rfl, ⟨.inl rfl, trivial⟩⟩⟩ trivial ?_
  conv => whnf
  refine Br.f rfl ?_
  conv => whnf
  exact ⟨(k, wrap64 (x3 + 1)), [], ⟨H, lt_⟩, lt_, (fits_of ⟨.inl ⟨rfl, rfl⟩, trivial⟩ trivial fi_ trivial rfl)⟩
  conv => whnf
  refine Br.f ff_ ?_
  conv => whnf
  refine Br.f ff_ ?_
  conv => whnf
  refine cut_ 264 [(0, .str a0), (3, .int .i64 x3), (36, .bool (!(decide ((bt a0 x3) = 45))))] [] rfl ⟨.inl rfl, ⟨.inl rfl, ⟨.inl rfl, trivial⟩⟩⟩ trivial ?_
  conv => whnf
  refine br_nd H (fun c H => ?_) (fun c H => ?_)
  conv => whnf
  exact ⟨(k, wrap64 (x3 + 1)), [], ⟨H, lt_⟩, lt_, (fits_of ⟨.inl ⟨rfl, rfl⟩, trivial⟩ trivial fi_ trivial rfl)⟩
  conv => whnf
  injection H with H; subst H
  exact ret_fz [] (rtA_eq rfl)
  conv => whnf
  refine Br.f ff_ ?_
  conv => whnf
  refine Br.f ff_ ?_
  conv => whnf
  refine Br.f ff_ ?_
  conv => whnf
  refine Br.f ff_ ?_
  conv => whnf
  refine Br.f rfl ?_
  conv => whnf
  refine Br.f rfl ?_
  conv => whnf
  refine Br.f rfl ?_
  conv => whnf
  refine cut_ 264 [(0, .str a0), (3, .int .i64 x3), (36, .bool (!(decide ((bt a0 x3) = 45))))] [] rfl ⟨.inl rfl, ⟨.inl rfl, ⟨.inl rfl, trivial⟩⟩⟩ trivial ?_
  conv => whnf
  refine br_nd H (fun c H => ?_) (fun c H => ?_)
  conv => whnf
  exact ⟨(k, wrap64 (x3 + 1)), [], ⟨H, lt_⟩, lt_, (fits_of ⟨.inl ⟨rfl, rfl⟩, trivial⟩ trivial fi_ trivial rfl)⟩
  conv => whnf
  injection H with H; subst H
  exact ret_fz [] (rtA_eq rfl)
  conv => whnf
  refine Br.f ff_ ?_
  conv => whnf
  refine Br.f ff_ ?_
  conv => whnf
  refine Br.f rfl ?_
  conv => whnf
  refine Br.f rfl ?_
  conv => whnf
  refine Br.f rfl ?_
  conv => whnf
  refine br_d H (fun c H => ?_) (fun c H => ?_)
  conv => whnf
  refine Br.t ft_ ?_
  conv => whnf
  refine Br.f rfl ?_
  conv => whnf
  refine Br.t ft_ ?_
  conv => whnf
  refine Br.f rfl ?_
  conv => whnf
  refine br_d H (fun c H => ?_) (fun c H => ?_)
  conv => whnf
  refine Br.t ft_ ?_
  conv => whnf
  refine Br.t ft_ ?_
  conv => whnf
  refine cut_ 264 [(0, .str a0), (3, .int .i64 x3), (36, .bool (!true))] [] rfl ⟨.inl rfl, ⟨.inl rfl, ⟨.inl rfl, trivial⟩⟩⟩ trivial ?_
  conv => whnf
  refine Br.f rfl ?_
  conv => whnf
  exact ⟨(k, wrap64 (x3 + 1)), [], ⟨H, lt_⟩, lt_, (fits_of ⟨.inl ⟨rfl, rfl⟩, trivial⟩ trivial fi_ trivial rfl)⟩
  conv => whnf
  refine Br.f ff_ ?_
  conv => whnf
  refine Br.f ff_ ?_
  conv => whnf
  refine cut_ 264 [(0, .str a0), (3, .int .i64 x3), (36, .bool (!(decide ((bt a0 x3) = 45))))] [] rfl ⟨.inl rfl, ⟨.inl rfl, ⟨.inl rfl, trivial⟩⟩⟩ trivial ?_
  conv => whnf
  refine br_nd H (fun c H => ?_) (fun c H => ?_)
  conv => whnf
  exact ⟨(k, wrap64 (x3 + 1)), [], ⟨H, lt_⟩, lt_, (fits_of ⟨.inl ⟨rfl, rfl⟩, trivial⟩ trivial fi_ trivial rfl)⟩
  conv => whnf
  injection H with H; subst H
  exact ret_fz [] (rtA_eq rfl)
  conv => whnf
  refine Br.f ff_ ?_
  conv => whnf
  refine Br.f rfl ?_
  conv => whnf
  refine Br.f ff_ ?_
  conv => whnf
  refine Br.f rfl ?_
  conv => whnf
  refine Br.f rfl ?_
  conv => whnf
  refine Br.f rfl ?_
  conv => whnf
  refine Br.f rfl ?_
  conv => whnf
  refine cut_ 264 [(0, .str a0), (3, .int .i64 x3), (36, .bool (!(decide ((bt a0 x3) = 45))))] [] rfl ⟨.inl rfl, ⟨.inl rfl, ⟨.inl rfl, trivial⟩⟩⟩ trivial ?_
  conv => whnf
  refine br_nd H (fun c H => ?_) (fun c H => ?_)
  conv => whnf
  exact ⟨(k, wrap64 (x3 + 1)), [], ⟨H, lt_⟩, lt_, (fits_of ⟨.inl ⟨rfl, rfl⟩, trivial⟩ trivial fi_ trivial rfl)⟩
  conv => whnf
  injection H with H; subst H
  exact ret_fz [] (rtA_eq rfl)
  conv => whnf
  injection H with H; subst H
  exact ret_fz [] (rtA_eq rfl)
  conv => whnf
  injection H with H; subst H
  exact ret_fz [] (rtA_eq rfl)
theorem spec_RecEnd.ac {a0 : ByteArray} {r : Int} (H : spec_RecEnd.f a0 = some r) : ACalls Tryd.prog G 83 [] [.str a0] [] (.int .i64 r) := by
  refine acalls_of tok hP Tryd.func83 rfl (by kernel_rfl) [.tmp 2] rfl (by kernel_rfl) (Nat.le_of_ble_eq_true rfl) .n rfl ?_
  unfold spec_RecEnd.f at H
  conv => whnf
  refine br_d H (fun c H => ?_) (fun c H => ?_)
  conv => whnf
  injection H with H; subst H
  exact ret_fz [] (rtA_eq rfl)
  conv => whnf
  refine br_d H (fun c H => ?_) (fun c H => ?_)
  conv => whnf
  injection H with H; subst H
  exact ret_fz [] (rtA_eq rfl)
  conv => whnf
  refine br_d H (fun c H => ?_) (fun c H => ?_)
  conv => whnf
  injection H with H; subst H
  exact ret_fz [] (rtA_eq rfl)
  conv => whnf
  injection H with H; subst H
  exact ret_fz [] (rtA_eq rfl)
theorem spec_l41PlainOk.ac {k : Nat} {a0 : ByteArray} {r : Bool} (H : spec_l41PlainOk.f k a0 = some r) : ACalls Tryd.prog G 112 [] [.str a0] [] (.bool r) := by
  refine acalls_of tok hP Tryd.func112 rfl (by kernel_rfl) [.tmp 2] rfl (by kernel_rfl) (Nat.le_of_ble_eq_true rfl) .n rfl ?_
  unfold spec_l41PlainOk.f at H
  conv => whnf
  revert H; refine bind_elim (fun t53 A H => ?_)
  refine call_mk (spec_l41NameOk.ac A) (avAL_cons (avA_shut' rfl) (avAL_nil)) (Or.inl rfl) rfl rfl (Nat.le_of_ble_eq_true rfl) ?_
  conv => whnf
  refine br_t H (fun c H => ?_) (fun c H => ?_)
  conv => whnf
  refine Br.t ft_ ?_
  conv => whnf
  revert H; refine bind_elim (fun t54 A H => ?_)
  refine call_mk (spec_RecEnd.ac A) (avAL_cons (avA_shut' rfl) (avAL_nil)) (Or.inl rfl) rfl rfl (Nat.le_of_ble_eq_true rfl) ?_
  conv => whnf
  refine Br.t ft_ ?_
  conv => whnf
  refine Br.t ft_ ?_
  conv => whnf
  injection H with H; subst H
  exact ret_fz [] (rtA_eq rfl)
  conv => whnf
  refine Br.f ff_ ?_
  conv => whnf
  refine Br.f ff_ ?_
  conv => whnf
  refine Br.f ff_ ?_
  conv => whnf
  injection H with H; subst H
  exact ret_fz [] (rtA_eq rfl)
theorem spec_l41ArgsOk.ac {k : Nat} {a0_0 : ByteArray} {a0_1 : Int} {a0_2 : ByteArray} {a0_3 : ByteArray} {a0_4 : Int} {a0_5 : Int} {a0_6 : ByteArray} {a0_7 : ByteArray} {r : Bool} (H : spec_l41ArgsOk.f k a0_0 a0_1 a0_2 a0_3 a0_4 a0_5 a0_6 a0_7 = some r) : ACalls Tryd.prog G 113 [] [.agg [.str a0_0, .int .i64 a0_1, .str a0_2, .str a0_3, .int .i64 a0_4, .int .i64 a0_5, .str a0_6, .str a0_7]] [] (.bool r) := by
  refine acalls_of tok hP Tryd.func113 rfl (by kernel_rfl) [.tmp 2] rfl (by kernel_rfl) (Nat.le_of_ble_eq_true rfl) (.l .n (.l (.l .n (.l .n (.l (.c .n .n) (.l .n (.l (.c .n .n) (.c .n (.l (.c .n .n) (.l .n (.l (.c .n .n) .n))))))))) .n)) rfl ?_
  unfold spec_l41ArgsOk.f at H
  conv => whnf
  refine br_d H (fun c H => ?_) (fun c H => ?_)
  conv => whnf
  revert H; refine bind_elim (fun t83 A H => ?_)
  refine call_mk (spec_l41NameOk.ac A) (avAL_cons (avA_shut' rfl) (avAL_nil)) (Or.inl rfl) rfl rfl (Nat.le_of_ble_eq_true rfl) ?_
  conv => whnf
  refine br_t H (fun c H => ?_) (fun c H => ?_)
  conv => whnf
  refine Br.t ft_ ?_
  conv => whnf
  refine Br.t ft_ ?_
  conv => whnf
  revert H; refine bind_elim (fun t84 A H => ?_)
  refine call_mk (spec_l41NameOk.ac A) (avAL_cons (avA_shut' rfl) (avAL_nil)) (Or.inl rfl) rfl rfl (Nat.le_of_ble_eq_true rfl) ?_
  conv => whnf
  refine Br.t ft_ ?_
  conv => whnf
  refine br_t H (fun c H => ?_) (fun c H => ?_)
  conv => whnf
  refine Br.t ft_ ?_
  conv => whnf
  refine Br.t ft_ ?_
  conv => whnf
  revert H; refine bind_elim (fun t85 A H => ?_)
  refine call_mk (spec_l41In.ac A) (avAL_cons (avA_shut' rfl) (avAL_cons (avA_shut' rfl) (avAL_cons (avA_shut' rfl) (avAL_nil)))) (Or.inl rfl) rfl rfl (Nat.le_of_ble_eq_true rfl) ?_
  conv => whnf
  refine Br.t ft_ ?_
  conv => whnf
  refine cut_ 160 [(2, .bool t85)] [] rfl ⟨.inl rfl, trivial⟩ trivial ?_
  conv => whnf
  injection H with H; subst H
  exact ret_fz [] (rtA_eq rfl)
  conv => whnf
  refine Br.f ff_ ?_
  conv => whnf
  refine Br.f ff_ ?_
  conv => whnf
  refine Br.f ff_ ?_
  conv => whnf
  refine cut_ 160 [(2, .bool false)] [] rfl ⟨.inl rfl, trivial⟩ trivial ?_
  conv => whnf
  injection H with H; subst H
  exact ret_fz [] (rtA_eq rfl)
  conv => whnf
  refine Br.f ff_ ?_
  conv => whnf
  refine Br.f ff_ ?_
  conv => whnf
  refine Br.f ff_ ?_
  conv => whnf
  refine Br.f rfl ?_
  conv => whnf
  refine Br.f rfl ?_
  conv => whnf
  refine Br.f rfl ?_
  conv => whnf
  refine Br.f rfl ?_
  conv => whnf
  refine cut_ 160 [(2, .bool false)] [] rfl ⟨.inl rfl, trivial⟩ trivial ?_
  conv => whnf
  injection H with H; subst H
  exact ret_fz [] (rtA_eq rfl)
  conv => whnf
  refine br_d H (fun c H => ?_) (fun c H => ?_)
  conv => whnf
  revert H; refine bind_elim (fun t86 A H => ?_)
  refine call_mk (spec_l41NameOk.ac A) (avAL_cons (avA_shut' rfl) (avAL_nil)) (Or.inl rfl) rfl rfl (Nat.le_of_ble_eq_true rfl) ?_
  conv => whnf
  refine br_t H (fun c H => ?_) (fun c H => ?_)
  conv => whnf
  refine Br.t ft_ ?_
  conv => whnf
  refine Br.t ft_ ?_
  conv => whnf
  revert H; refine bind_elim (fun t87 A H => ?_)
  refine call_mk (spec_l41NameOk.ac A) (avAL_cons (avA_shut' rfl) (avAL_nil)) (Or.inl rfl) rfl rfl (Nat.le_of_ble_eq_true rfl) ?_
  conv => whnf
  refine Br.t ft_ ?_
  conv => whnf
  refine br_t H (fun c H => ?_) (fun c H => ?_)
  conv => whnf
  refine Br.t ft_ ?_
  conv => whnf
  refine Br.t ft_ ?_
  conv => whnf
  refine Br.t ft_ ?_
  conv => whnf
  refine Br.t ft_ ?_
  conv => whnf
  refine Br.t ft_ ?_
  conv => whnf
  refine br_nd H (fun c H => ?_) (fun c H => ?_)
  conv => whnf
  refine Br.f ff_ ?_
  conv => whnf
  refine Br.f ff_ ?_
  conv => whnf
  refine Br.f ff_ ?_
  conv => whnf
  refine cut_ 232 [(2, .bool false)] [] rfl ⟨.inl rfl, trivial⟩ trivial ?_
  conv => whnf
  injection H with H; subst H
  exact ret_fz [] (rtA_eq rfl)
  conv => whnf
  refine Br.t ft_ ?_
  conv => whnf
  refine Br.t ft_ ?_
  conv => whnf
  revert H; refine bind_elim (fun t88 A H => ?_)
  refine call_mk (spec_l41In.ac A) (avAL_cons (avA_shut' rfl) (avAL_cons (avA_shut' rfl) (avAL_cons (avA_shut' rfl) (avAL_nil)))) (Or.inl rfl) rfl rfl (Nat.le_of_ble_eq_true rfl) ?_
  conv => whnf
  refine Br.t ft_ ?_
  conv => whnf
  refine cut_ 232 [(2, .bool t88)] [] rfl ⟨.inl rfl, trivial⟩ trivial ?_
  conv => whnf
  injection H with H; subst H
  exact ret_fz [] (rtA_eq rfl)
  conv => whnf
  refine Br.f ff_ ?_
  conv => whnf
  refine Br.f ff_ ?_
  conv => whnf
  refine Br.f ff_ ?_
  conv => whnf
  refine Br.f ff_ ?_
  conv => whnf
  refine Br.f ff_ ?_
  conv => whnf
  refine Br.f rfl ?_
  conv => whnf
  refine Br.f rfl ?_
  conv => whnf
  refine Br.f rfl ?_
  conv => whnf
  refine Br.f rfl ?_
  conv => whnf
  refine cut_ 232 [(2, .bool false)] [] rfl ⟨.inl rfl, trivial⟩ trivial ?_
  conv => whnf
  injection H with H; subst H
  exact ret_fz [] (rtA_eq rfl)
  conv => whnf
  refine Br.f ff_ ?_
  conv => whnf
  refine Br.f ff_ ?_
  conv => whnf
  refine Br.f ff_ ?_
  conv => whnf
  refine Br.f rfl ?_
  conv => whnf
  refine Br.f rfl ?_
  conv => whnf
  refine Br.f rfl ?_
  conv => whnf
  refine Br.f rfl ?_
  conv => whnf
  refine Br.f rfl ?_
  conv => whnf
  refine Br.f rfl ?_
  conv => whnf
  refine Br.f rfl ?_
  conv => whnf
  refine Br.f rfl ?_
  conv => whnf
  refine Br.f rfl ?_
  conv => whnf
  refine Br.f rfl ?_
  conv => whnf
  refine cut_ 232 [(2, .bool false)] [] rfl ⟨.inl rfl, trivial⟩ trivial ?_
  conv => whnf
  injection H with H; subst H
  exact ret_fz [] (rtA_eq rfl)
  conv => whnf
  refine cut_ 80 [(1, .bp 0 0), (4, .int .i64 a0_1), (42, .bool (decide (a0_1 = 3)))] [(0, .box [.str a0_0, .int .i64 a0_1, .str a0_2, .str a0_3, .int .i64 a0_4, .int .i64 a0_5, .str a0_6, .str a0_7])] rfl ⟨.inl rfl, ⟨.inl rfl, ⟨.inl rfl, trivial⟩⟩⟩ ⟨rfl, trivial⟩ ?_
  conv => whnf
  refine br_d H (fun c H => ?_) (fun c H => ?_)
  conv => whnf
  revert H; refine bind_elim (fun t89 A H => ?_)
  refine call_mk (spec_l41NameOk.ac A) (avAL_cons (avA_shut' rfl) (avAL_nil)) (Or.inl rfl) rfl rfl (Nat.le_of_ble_eq_true rfl) ?_
  conv => whnf
  refine br_t H (fun c H => ?_) (fun c H => ?_)
  conv => whnf
  refine Br.t ft_ ?_
  conv => whnf
  refine Br.t ft_ ?_
  conv => whnf
  refine Br.t ft_ ?_
  conv => whnf
  refine br_d H (fun c H => ?_) (fun c H => ?_)
  conv => whnf
  refine Br.t ft_ ?_
  conv => whnf
  refine Br.t ft_ ?_
  conv => whnf
  refine Br.t ft_ ?_
  conv => whnf
  refine Br.t ft_ ?_
  conv => whnf
  revert H; refine bind_elim (fun t90 A H => ?_)
  refine call_mk (spec_l41In.ac A) (avAL_cons (avA_shut' rfl) (avAL_cons (avA_shut' rfl) (avAL_cons (avA_shut' rfl) (avAL_nil)))) (Or.inl rfl) rfl rfl (Nat.le_of_ble_eq_true rfl) ?_
  conv => whnf
  refine Br.t ft_ ?_
  conv => whnf
  refine cut_ 208 [(2, .bool t90)] [] rfl ⟨.inl rfl, trivial⟩ trivial ?_
  conv => whnf
  injection H with H; subst H
  exact ret_fz [] (rtA_eq rfl)
  conv => whnf
  refine Br.f ff_ ?_
  conv => whnf
  refine Br.f ff_ ?_
  conv => whnf
  refine Br.f ff_ ?_
  conv => whnf
  refine Br.f ff_ ?_
  conv => whnf
  refine Br.f ff_ ?_
  conv => whnf
  refine cut_ 208 [(2, .bool false)] [] rfl ⟨.inl rfl, trivial⟩ trivial ?_
  conv => whnf
  injection H with H; subst H
  exact ret_fz [] (rtA_eq rfl)
  conv => whnf
  refine Br.f ff_ ?_
  conv => whnf
  refine Br.f ff_ ?_
  conv => whnf
  refine Br.f ff_ ?_
  conv => whnf
  refine Br.f rfl ?_
  conv => whnf
  refine Br.f rfl ?_
  conv => whnf
  refine Br.f rfl ?_
  conv => whnf
  refine Br.f rfl ?_
  conv => whnf
  refine Br.f rfl ?_
  conv => whnf
  refine Br.f rfl ?_
  conv => whnf
  refine cut_ 208 [(2, .bool false)] [] rfl ⟨.inl rfl, trivial⟩ trivial ?_
  conv => whnf
  injection H with H; subst H
  exact ret_fz [] (rtA_eq rfl)
  conv => whnf
  refine br_d H (fun c H => ?_) (fun c H => ?_)
  conv => whnf
  refine Br.t ft_ ?_
  conv => whnf
  revert H; refine bind_elim (fun t91 A H => ?_)
  refine call_mk (spec_l41NameOk.ac A) (avAL_cons (avA_shut' rfl) (avAL_nil)) (Or.inl rfl) rfl rfl (Nat.le_of_ble_eq_true rfl) ?_
  conv => whnf
  refine br_t H (fun c H => ?_) (fun c H => ?_)
  conv => whnf
  refine Br.t ft_ ?_
  conv => whnf
  refine Br.t ft_ ?_
  conv => whnf
  refine Br.t ft_ ?_
  conv => whnf
  refine br_d H (fun c H => ?_) (fun c H => ?_)
  conv => whnf
  refine Br.t ft_ ?_
  conv => whnf
  refine Br.t ft_ ?_
  conv => whnf
  refine Br.t ft_ ?_
  conv => whnf
  refine cut_ 208 [(2, .bool (decide (a0_4 = 0)))] [] rfl ⟨.inl rfl, trivial⟩ trivial ?_
  conv => whnf
  injection H with H; subst H
  exact ret_fz [] (rtA_eq rfl)
  conv => whnf
  refine Br.f ff_ ?_
  conv => whnf
  refine Br.f ff_ ?_
  conv => whnf
  refine Br.f ff_ ?_
  conv => whnf
  refine cut_ 208 [(2, .bool false)] [] rfl ⟨.inl rfl, trivial⟩ trivial ?_
  conv => whnf
  injection H with H; subst H
  exact ret_fz [] (rtA_eq rfl)
  conv => whnf
  refine Br.f ff_ ?_
  conv => whnf
  refine Br.f ff_ ?_
  conv => whnf
  refine Br.f ff_ ?_
  conv => whnf
  refine Br.f rfl ?_
  conv => whnf
  refine Br.f rfl ?_
  conv => whnf
  refine Br.f rfl ?_
  conv => whnf
  refine Br.f rfl ?_
  conv => whnf
  refine cut_ 208 [(2, .bool false)] [] rfl ⟨.inl rfl, trivial⟩ trivial ?_
  conv => whnf
  injection H with H; subst H
  exact ret_fz [] (rtA_eq rfl)
  conv => whnf
  refine br_d H (fun c H => ?_) (fun c H => ?_)
  conv => whnf
  revert H; refine bind_elim (fun t92 A H => ?_)
  refine call_mk (spec_l41NameOk.ac A) (avAL_cons (avA_shut' rfl) (avAL_nil)) (Or.inl rfl) rfl rfl (Nat.le_of_ble_eq_true rfl) ?_
  conv => whnf
  refine br_t H (fun c H => ?_) (fun c H => ?_)
  conv => whnf
  refine Br.t ft_ ?_
  conv => whnf
  refine Br.t ft_ ?_
  conv => whnf
  refine Br.t ft_ ?_
  conv => whnf
  refine br_d H (fun c H => ?_) (fun c H => ?_)
  conv => whnf
  refine Br.t ft_ ?_
  conv => whnf
  refine Br.t ft_ ?_
  conv => whnf
  refine Br.t ft_ ?_
  conv => whnf
  refine cut_ 224 [(2, .bool (decide (a0_4 = 0)))] [] rfl ⟨.inl rfl, trivial⟩ trivial ?_
  conv => whnf
  injection H with H; subst H
  exact ret_fz [] (rtA_eq rfl)
  conv => whnf
  refine Br.f ff_ ?_
  conv => whnf
  refine Br.f ff_ ?_
  conv => whnf
  refine Br.f ff_ ?_
  conv => whnf
  refine cut_ 224 [(2, .bool false)] [] rfl ⟨.inl rfl, trivial⟩ trivial ?_
  conv => whnf
  injection H with H; subst H
  exact ret_fz [] (rtA_eq rfl)
  conv => whnf
  refine Br.f ff_ ?_
  conv => whnf
  refine Br.f ff_ ?_
  conv => whnf
  refine Br.f ff_ ?_
  conv => whnf
  refine Br.f rfl ?_
  conv => whnf
  refine Br.f rfl ?_
  conv => whnf
  refine Br.f rfl ?_
  conv => whnf
  refine Br.f rfl ?_
  conv => whnf
  refine cut_ 224 [(2, .bool false)] [] rfl ⟨.inl rfl, trivial⟩ trivial ?_
  conv => whnf
  injection H with H; subst H
  exact ret_fz [] (rtA_eq rfl)
  conv => whnf
  injection H with H; subst H
  exact ret_fz [] (rtA_eq rfl)
theorem spec_RecPhaseOk.ac {k : Nat} {a0_0 : ByteArray} {a0_1 : Int} {a0_2 : ByteArray} {a0_3 : ByteArray} {a0_4 : Int} {a0_5 : Int} {a0_6 : ByteArray} {a0_7 : ByteArray} {r : Bool} (H : spec_RecPhaseOk.f k a0_0 a0_1 a0_2 a0_3 a0_4 a0_5 a0_6 a0_7 = some r) : ACalls Tryd.prog G 82 [] [.agg [.str a0_0, .int .i64 a0_1, .str a0_2, .str a0_3, .int .i64 a0_4, .int .i64 a0_5, .str a0_6, .str a0_7]] [] (.bool r) := by
  refine acalls_of tok hP Tryd.func82 rfl (by kernel_rfl) [.tmp 2] rfl (by kernel_rfl) (Nat.le_of_ble_eq_true rfl) (.l .n (.c .n .n)) rfl ?_
  unfold spec_RecPhaseOk.f at H
  conv => whnf
  revert H; refine bind_elim (fun t98 A H => ?_)
  refine call_mk (spec_l41PlainOk.ac A) (avAL_cons (avA_shut' rfl) (avAL_nil)) (Or.inl rfl) rfl rfl (Nat.le_of_ble_eq_true rfl) ?_
  conv => whnf
  refine br_t H (fun c H => ?_) (fun c H => ?_)
  conv => whnf
  refine Br.t ft_ ?_
  conv => whnf
  refine Br.t ft_ ?_
  conv => whnf
  revert H; refine bind_elim (fun t99 A H => ?_)
  refine call_mk (spec_l41In.ac A) (avAL_cons (avA_shut' rfl) (avAL_cons (avA_shut' rfl) (avAL_cons (avA_shut' rfl) (avAL_nil)))) (Or.inl rfl) rfl rfl (Nat.le_of_ble_eq_true rfl) ?_
  conv => whnf
  refine Br.t ft_ ?_
  conv => whnf
  refine br_t H (fun c H => ?_) (fun c H => ?_)
  conv => whnf
  refine Br.t ft_ ?_
  conv => whnf
  revert H; refine bind_elim (fun t100 A H => ?_)
  refine call_mk (spec_l41ArgsOk.ac A) (avAL_cons (avA_agg (avL_cons (av_shut' rfl) (avL_cons (av_shut' rfl) (avL_cons (av_shut' rfl) (avL_cons (av_shut' rfl) (avL_cons (av_shut' rfl) (avL_cons (av_shut' rfl) (avL_cons (av_shut' rfl) (avL_cons (av_shut' rfl) (avL_nil)))))))))) (avAL_nil)) (Or.inl rfl) rfl rfl (Nat.le_of_ble_eq_true rfl) ?_
  conv => whnf
  refine Br.t ft_ ?_
  conv => whnf
  refine br_t H (fun c H => ?_) (fun c H => ?_)
  conv => whnf
  refine Br.t ft_ ?_
  conv => whnf
  refine Br.t ft_ ?_
  conv => whnf
  revert H; refine bind_elim (fun t101 A H => ?_)
  refine call_mk (spec_l41NameOk.ac A) (avAL_cons (avA_shut' rfl) (avAL_nil)) (Or.inl rfl) rfl rfl (Nat.le_of_ble_eq_true rfl) ?_
  conv => whnf
  refine Br.t ft_ ?_
  conv => whnf
  refine br_t H (fun c H => ?_) (fun c H => ?_)
  conv => whnf
  refine Br.t ft_ ?_
  conv => whnf
  refine Br.t ft_ ?_
  conv => whnf
  revert H; refine bind_elim (fun t102 A H => ?_)
  refine call_mk (spec_l41NameOk.ac A) (avAL_cons (avA_shut' rfl) (avAL_nil)) (Or.inl rfl) rfl rfl (Nat.le_of_ble_eq_true rfl) ?_
  conv => whnf
  refine Br.t ft_ ?_
  conv => whnf
  refine cut_ 200 [(2, .bool t102)] [] rfl ⟨.inl rfl, trivial⟩ trivial ?_
  conv => whnf
  injection H with H; subst H
  exact ret_fz [] (rtA_eq rfl)
  conv => whnf
  refine Br.f ff_ ?_
  conv => whnf
  refine Br.f ff_ ?_
  conv => whnf
  refine Br.f ff_ ?_
  conv => whnf
  refine cut_ 200 [(2, .bool false)] [] rfl ⟨.inl rfl, trivial⟩ trivial ?_
  conv => whnf
  injection H with H; subst H
  exact ret_fz [] (rtA_eq rfl)
  conv => whnf
  refine Br.f ff_ ?_
  conv => whnf
  refine Br.f ff_ ?_
  conv => whnf
  refine Br.f ff_ ?_
  conv => whnf
  refine Br.f rfl ?_
  conv => whnf
  refine Br.f rfl ?_
  conv => whnf
  refine Br.f rfl ?_
  conv => whnf
  refine Br.f rfl ?_
  conv => whnf
  refine cut_ 200 [(2, .bool false)] [] rfl ⟨.inl rfl, trivial⟩ trivial ?_
  conv => whnf
  injection H with H; subst H
  exact ret_fz [] (rtA_eq rfl)
  conv => whnf
  refine Br.f ff_ ?_
  conv => whnf
  refine Br.f ff_ ?_
  conv => whnf
  refine Br.f rfl ?_
  conv => whnf
  refine Br.f rfl ?_
  conv => whnf
  refine Br.f rfl ?_
  conv => whnf
  refine Br.f rfl ?_
  conv => whnf
  refine Br.f rfl ?_
  conv => whnf
  refine Br.f rfl ?_
  conv => whnf
  refine Br.f rfl ?_
  conv => whnf
  refine Br.f rfl ?_
  conv => whnf
  refine cut_ 200 [(2, .bool false)] [] rfl ⟨.inl rfl, trivial⟩ trivial ?_
  conv => whnf
  injection H with H; subst H
  exact ret_fz [] (rtA_eq rfl)
  conv => whnf
  refine Br.f ff_ ?_
  conv => whnf
  refine Br.f ff_ ?_
  conv => whnf
  refine Br.f ff_ ?_
  conv => whnf
  refine Br.f rfl ?_
  conv => whnf
  refine Br.f rfl ?_
  conv => whnf
  refine Br.f rfl ?_
  conv => whnf
  refine Br.f rfl ?_
  conv => whnf
  refine Br.f rfl ?_
  conv => whnf
  refine Br.f rfl ?_
  conv => whnf
  refine Br.f rfl ?_
  conv => whnf
  refine Br.f rfl ?_
  conv => whnf
  refine Br.f rfl ?_
  conv => whnf
  refine Br.f rfl ?_
  conv => whnf
  refine Br.f rfl ?_
  conv => whnf
  refine cut_ 200 [(2, .bool false)] [] rfl ⟨.inl rfl, trivial⟩ trivial ?_
  conv => whnf
  injection H with H; subst H
  exact ret_fz [] (rtA_eq rfl)
theorem spec_l42At.l0_lp {F : (Exit → St → Prop) → St → Prop} {hv : List Tmp} {Q : Exit → St → Prop} {σ : St} {r : Int} {k : Nat} {l0 : List S_impl_RecPhase} {a1 : ByteArray} {x5 : Int} (H : spec_l42At.l0 k l0 a1 x5 = some r) (rn : List (Option Nat)) (h1 : Fits σ σ [] [(5, .int .i64 x5)] [] [] rn)
    (h2 : ∀ (k0 : Nat) (x5 : Int), k0 < k + 1 → spec_l42At.l0 k0 l0 a1 x5 = some r → headN σ hv [] [(5, .int .i64 x5)] [] [] (F (fun e σ' => match e with | .normal => ∃ (y : Nat × Int) (rn : List (Option Nat)), (spec_l42At.l0 y.1 l0 a1 y.2 = some r ∧ y.1 < k + 1) ∧ y.1 < k0 ∧ Fits σ σ' [] [(5, .int .i64 y.2)] [] [] rn | e => Q e σ'))) : Lp F hv Q σ := by
  unfold Lp
  refine ⟨Nat × Int, fun x => spec_l42At.l0 x.1 l0 a1 x.2 = some r ∧ x.1 < k + 1, fun x => x.1, [], fun x => [(5, .int .i64 x.2)], fun x => [], fun x => [], ⟨(k, x5), rn, ⟨H, Nat.lt_succ_self _⟩, h1⟩, ?_⟩
  rintro ⟨k, x5⟩ ⟨H, hk⟩
  exact h2 k x5 hk H
theorem spec_l42At.ac {k : Nat} {l0 : List S_impl_RecPhase} {a1 : ByteArray} {r : Int} (H : spec_l42At.f k l0 a1 = some r) : ACalls Tryd.prog G 67 [] [(sv_S_impl_RecPhase l0), .str a1] [] (.int .i64 r) := by
  refine acalls_of tok hP Tryd.func67 rfl (by kernel_rfl) [.tmp 4] rfl (by kernel_rfl) (Nat.le_of_ble_eq_true rfl) (.l .n (.l (.l .n (.l .n (.l (.c .n .n) .n))) .n)) rfl ?_
  unfold spec_l42At.f at H
  conv => whnf
  refine spec_l42At.l0_lp (l0 := l0) (a1 := a1) (k := k) H [] (fits_of ⟨.inl ⟨rfl, rfl⟩, trivial⟩ trivial fi_ trivial rfl) ?_
  intro k x5 hk H; rcases k with _ | k; exact none_elim H; rw [spec_l42At.l0] at H; conv => whnf
  refine br_d H (fun c H => ?_) (fun c H => ?_)
  conv => whnf
  refine nd_ H (fun c H => ?_)
  conv => whnf
  refine Nd.mk nf_ ?_
  conv => whnf
  refine El.mk (rdm_en_S_impl_RecPhase _ _ nf_ nf_) ?_
  conv => whnf
  refine cut_ 104 [(0, (sv_S_impl_RecPhase l0)), (1, .str a1), (5, .int .i64 x5), (18, .bool (decide (((rd_impl_RecPhase l0 x5).f0).toList = a1.toList)))] [] rfl ⟨.inl rfl, ⟨.inl rfl, ⟨.inl rfl, ⟨.inl rfl, trivial⟩⟩⟩⟩ trivial ?_
  conv => whnf
  refine br_d H (fun c H => ?_) (fun c H => ?_)
  conv => whnf
  injection H with H; subst H
  exact ret_fz [] (rtA_eq rfl)
  conv => whnf
  exact ⟨(k, wrap64 (x5 + 1)), [], ⟨H, lt_⟩, lt_, (fits_of ⟨.inl ⟨rfl, rfl⟩, trivial⟩ trivial fi_ trivial rfl)⟩
  conv => whnf
  injection H with H; subst H
  exact ret_fz [] (rtA_eq rfl)
theorem spec_RecOk.l0_lp {F : (Exit → St → Prop) → St → Prop} {hv : List Tmp} {Q : Exit → St → Prop} {σ : St} {r : Bool} {k : Nat} {l0 : List S_impl_RecPhase} {x3 : Int} (H : spec_RecOk.l0 k l0 x3 = some r) (rn : List (Option Nat)) (h1 : Fits σ σ [] [(3, .int .i64 x3)] [] [] rn)
    (h2 : ∀ (k0 : Nat) (x3 : Int), k0 < k + 1 → spec_RecOk.l0 k0 l0 x3 = some r → headN σ hv [] [(3, .int .i64 x3)] [] [] (F (fun e σ' => match e with | .normal => ∃ (y : Nat × Int) (rn : List (Option Nat)), (spec_RecOk.l0 y.1 l0 y.2 = some r ∧ y.1 < k + 1) ∧ y.1 < k0 ∧ Fits σ σ' [] [(3, .int .i64 y.2)] [] [] rn | e => Q e σ'))) : Lp F hv Q σ := by
  unfold Lp
  refine ⟨Nat × Int, fun x => spec_RecOk.l0 x.1 l0 x.2 = some r ∧ x.1 < k + 1, fun x => x.1, [], fun x => [(3, .int .i64 x.2)], fun x => [], fun x => [], ⟨(k, x3), rn, ⟨H, Nat.lt_succ_self _⟩, h1⟩, ?_⟩
  rintro ⟨k, x3⟩ ⟨H, hk⟩
  exact h2 k x3 hk H
theorem spec_RecOk.ac {k : Nat} {l0 : List S_impl_RecPhase} {r : Bool} (H : spec_RecOk.f k l0 = some r) : ACalls Tryd.prog G 35 [] [(sv_S_impl_RecPhase l0)] [] (.bool r) := by
  refine acalls_of tok hP Tryd.func35 rfl (by kernel_rfl) [.tmp 2] rfl (by kernel_rfl) (Nat.le_of_ble_eq_true rfl) (.l .n (.l .n (.l (.l .n (.l (.c .n .n) (.l (.l (.c .n (.l (.c .n .n) .n)) (.c .n (.l (.c .n .n) .n))) .n))) .n))) rfl ?_
  unfold spec_RecOk.f at H
  conv => whnf
  revert H; refine bind_elim (fun t112 A H => ?_)
  refine call_mk (spec_l41In.ac A) (avAL_cons (avA_shut' rfl) (avAL_cons (avA_shut' rfl) (avAL_cons (avA_shut' rfl) (avAL_nil)))) (Or.inl rfl) rfl rfl (Nat.le_of_ble_eq_true rfl) ?_
  conv => whnf
  refine br_nt H (fun c H => ?_) (fun c H => ?_)
  conv => whnf
  refine spec_RecOk.l0_lp (l0 := l0) (k := k) H [] (fits_of ⟨.inl ⟨rfl, rfl⟩, trivial⟩ trivial fi_ trivial rfl) ?_
  intro k x3 hk H; rcases k with _ | k; exact none_elim H; rw [spec_RecOk.l0] at H; conv => whnf
  refine cut_ 80 [(0, (sv_S_impl_RecPhase l0)), (3, .int .i64 x3), (11, .bool (decide (x3 < (l0.length : Int))))] [] rfl ⟨.inl rfl, ⟨.inl rfl, ⟨.inl rfl, trivial⟩⟩⟩ trivial ?_
  conv => whnf
  refine br_d H (fun c H => ?_) (fun c H => ?_)
  conv => whnf
  refine nd_ H (fun c H => ?_)
  conv => whnf
  refine Nd.mk nf_ ?_
  conv => whnf
  refine El.mk (rdm_en_S_impl_RecPhase _ _ nf_ nf_) ?_
  conv => whnf
  revert H; refine bind_elim (fun t145 A H => ?_)
  refine call_mk (spec_RecPhaseOk.ac A) (avAL_cons (avA_agg (avL_cons (av_shut' rfl) (avL_cons (av_shut' rfl) (avL_cons (av_shut' rfl) (avL_cons (av_shut' rfl) (avL_cons (av_shut' rfl) (avL_cons (av_shut' rfl) (avL_cons (av_shut' rfl) (avL_cons (av_shut' rfl) (avL_nil)))))))))) (avAL_nil)) (Or.inl rfl) rfl rfl (Nat.le_of_ble_eq_true rfl) ?_
  conv => whnf
  refine br_nt H (fun c H => ?_) (fun c H => ?_)
  conv => whnf
  refine Br.f ff_ ?_
  conv => whnf
  refine Br.f ff_ ?_
  conv => whnf
  refine Br.f ff_ ?_
  conv => whnf
  refine Nd.mk nf_ ?_
  conv => whnf
  refine Nd.mk nf_ ?_
  conv => whnf
  refine El.mk (rdm_en_S_impl_RecPhase _ _ nf_ nf_) ?_
  conv => whnf
  refine Br.f ff_ ?_
  conv => whnf
  refine Br.f ff_ ?_
  conv => whnf
  refine Br.f ff_ ?_
  conv => whnf
  revert H; refine bind_elim (fun t146 A H => ?_)
  refine call_mk (spec_l42At.ac A) (avAL_cons (avA_shut' rfl) (avAL_cons (avA_shut' rfl) (avAL_nil))) (Or.inl rfl) rfl rfl (Nat.le_of_ble_eq_true rfl) ?_
  conv => whnf
  refine Br.f ff_ ?_
  conv => whnf
  refine Br.f ff_ ?_
  conv => whnf
  refine Br.f ff_ ?_
  conv => whnf
  refine cut_ 216 [(0, (sv_S_impl_RecPhase l0)), (3, .int .i64 x3), (30, .bool (!(decide (t146 = x3))))] [] rfl ⟨.inl rfl, ⟨.inl rfl, ⟨.inl rfl, trivial⟩⟩⟩ trivial ?_
  conv => whnf
  refine br_nd H (fun c H => ?_) (fun c H => ?_)
  conv => whnf
  refine Nd.mk nf_ ?_
  conv => whnf
  refine Nd.mk nf_ ?_
  conv => whnf
  refine El.mk (rdm_en_S_impl_RecPhase _ _ nf_ nf_) ?_
  conv => whnf
  revert H; refine bind_elim (fun t147 A H => ?_)
  refine call_mk (spec_RecEnd.ac A) (avAL_cons (avA_shut' rfl) (avAL_nil)) (Or.inl rfl) rfl rfl (Nat.le_of_ble_eq_true rfl) ?_
  conv => whnf
  refine br_d H (fun c H => ?_) (fun c H => ?_)
  conv => whnf
  refine Br.t ft_ ?_
  conv => whnf
  refine Br.t ft_ ?_
  conv => whnf
  refine Br.t ft_ ?_
  conv => whnf
  refine Nd.mk nf_ ?_
  conv => whnf
  refine Nd.mk nf_ ?_
  conv => whnf
  refine El.mk (rdm_en_S_impl_RecPhase _ _ nf_ nf_) ?_
  conv => whnf
  refine Br.t ft_ ?_
  conv => whnf
  refine Br.t ft_ ?_
  conv => whnf
  refine Br.t ft_ ?_
  conv => whnf
  revert H; refine bind_elim (fun t148 A H => ?_)
  refine call_mk (spec_l42At.ac A) (avAL_cons (avA_shut' rfl) (avAL_cons (avA_shut' rfl) (avAL_nil))) (Or.inl rfl) rfl rfl (Nat.le_of_ble_eq_true rfl) ?_
  conv => whnf
  refine Br.t ft_ ?_
  conv => whnf
  refine Br.t ft_ ?_
  conv => whnf
  refine Br.t ft_ ?_
  conv => whnf
  refine br_d H (fun c H => ?_) (fun c H => ?_)
  conv => whnf
  refine Br.t ft_ ?_
  conv => whnf
  refine Br.t ft_ ?_
  conv => whnf
  refine Br.t ft_ ?_
  conv => whnf
  refine Br.t ft_ ?_
  conv => whnf
  refine Br.t ft_ ?_
  conv => whnf
  refine Br.t ft_ ?_
  conv => whnf
  refine Br.t ft_ ?_
  conv => whnf
  refine Br.t ft_ ?_
  conv => whnf
  refine Br.t ft_ ?_
  conv => whnf
  refine cut_ 520 [(0, (sv_S_impl_RecPhase l0)), (3, .int .i64 x3), (68, .bool true)] [] rfl ⟨.inl rfl, ⟨.inl rfl, ⟨.inl rfl, trivial⟩⟩⟩ trivial ?_
  conv => whnf
  refine Br.t rfl ?_
  conv => whnf
  refine cut_ 528 [(2, .bool false)] [] rfl ⟨.inl rfl, trivial⟩ trivial ?_
  conv => whnf
  injection H with H; subst H
  exact ret_fz [] (rtA_eq rfl)
  conv => whnf
  refine Br.f ff_ ?_
  conv => whnf
  refine Br.f ff_ ?_
  conv => whnf
  refine Nd.mk nf_ ?_
  conv => whnf
  refine Nd.mk nf_ ?_
  conv => whnf
  refine El.mk (rdm_en_S_impl_RecPhase _ _ nf_ nf_) ?_
  conv => whnf
  refine Br.f ff_ ?_
  conv => whnf
  refine Br.f ff_ ?_
  conv => whnf
  refine Br.f ff_ ?_
  conv => whnf
  revert H; refine bind_elim (fun t149 A H => ?_)
  refine call_mk (spec_RecEnd.ac A) (avAL_cons (avA_shut' rfl) (avAL_nil)) (Or.inl rfl) rfl rfl (Nat.le_of_ble_eq_true rfl) ?_
  conv => whnf
  refine Br.f ff_ ?_
  conv => whnf
  refine Br.f ff_ ?_
  conv => whnf
  refine br_d H (fun c H => ?_) (fun c H => ?_)
  conv => whnf
  refine Br.t ft_ ?_
  conv => whnf
  refine Br.t ft_ ?_
  conv => whnf
  refine Br.t ft_ ?_
  conv => whnf
  refine Nd.mk nf_ ?_
  conv => whnf
  refine Nd.mk nf_ ?_
  conv => whnf
  refine El.mk (rdm_en_S_impl_RecPhase _ _ nf_ nf_) ?_
  conv => whnf
  refine Br.t ft_ ?_
  conv => whnf
  refine Br.t ft_ ?_
  conv => whnf
  refine Br.t ft_ ?_
  conv => whnf
  revert H; refine bind_elim (fun t150 A H => ?_)
  refine call_mk (spec_l42At.ac A) (avAL_cons (avA_shut' rfl) (avAL_cons (avA_shut' rfl) (avAL_nil))) (Or.inl rfl) rfl rfl (Nat.le_of_ble_eq_true rfl) ?_
  conv => whnf
  refine Br.t ft_ ?_
  conv => whnf
  refine Br.t ft_ ?_
  conv => whnf
  refine Br.f ff_ ?_
  conv => whnf
  refine Br.t ft_ ?_
  conv => whnf
  refine Br.f ff_ ?_
  conv => whnf
  refine cut_ 520 [(0, (sv_S_impl_RecPhase l0)), (3, .int .i64 x3), (68, .bool (decide (t150 ≤ x3)))] [] rfl ⟨.inl rfl, ⟨.inl rfl, ⟨.inl rfl, trivial⟩⟩⟩ trivial ?_
  conv => whnf
  refine br_d H (fun c H => ?_) (fun c H => ?_)
  conv => whnf
  refine cut_ 528 [(2, .bool false)] [] rfl ⟨.inl rfl, trivial⟩ trivial ?_
  conv => whnf
  injection H with H; subst H
  exact ret_fz [] (rtA_eq rfl)
  conv => whnf
  exact ⟨(k, wrap64 (x3 + 1)), [], ⟨H, lt_⟩, lt_, (fits_of ⟨.inl ⟨rfl, rfl⟩, trivial⟩ trivial fi_ trivial rfl)⟩
  conv => whnf
  refine Br.f ff_ ?_
  conv => whnf
  refine Br.f ff_ ?_
  conv => whnf
  refine Br.f ff_ ?_
  conv => whnf
  refine Br.f ff_ ?_
  conv => whnf
  refine Br.f ff_ ?_
  conv => whnf
  refine Br.f ff_ ?_
  conv => whnf
  refine Br.f ff_ ?_
  conv => whnf
  refine Br.f ff_ ?_
  conv => whnf
  refine Br.f ff_ ?_
  conv => whnf
  refine Br.f ff_ ?_
  conv => whnf
  refine Br.f ff_ ?_
  conv => whnf
  refine cut_ 520 [(0, (sv_S_impl_RecPhase l0)), (3, .int .i64 x3), (68, .bool false)] [] rfl ⟨.inl rfl, ⟨.inl rfl, ⟨.inl rfl, trivial⟩⟩⟩ trivial ?_
  conv => whnf
  refine Br.f rfl ?_
  conv => whnf
  exact ⟨(k, wrap64 (x3 + 1)), [], ⟨H, lt_⟩, lt_, (fits_of ⟨.inl ⟨rfl, rfl⟩, trivial⟩ trivial fi_ trivial rfl)⟩
  conv => whnf
  refine Br.f ff_ ?_
  conv => whnf
  refine Br.f ff_ ?_
  conv => whnf
  refine Br.f ff_ ?_
  conv => whnf
  refine Br.f ff_ ?_
  conv => whnf
  refine Br.f ff_ ?_
  conv => whnf
  refine Br.f ff_ ?_
  conv => whnf
  refine Br.f ff_ ?_
  conv => whnf
  refine Br.f ff_ ?_
  conv => whnf
  refine Br.f ff_ ?_
  conv => whnf
  refine Br.f rfl ?_
  conv => whnf
  refine Br.f rfl ?_
  conv => whnf
  refine Br.f rfl ?_
  conv => whnf
  refine Nd.mk nf_ ?_
  conv => whnf
  refine Nd.mk nf_ ?_
  conv => whnf
  refine El.mk (rdm_en_S_impl_RecPhase _ _ nf_ nf_) ?_
  conv => whnf
  refine Br.f rfl ?_
  conv => whnf
  refine Br.f rfl ?_
  conv => whnf
  refine Br.f rfl ?_
  conv => whnf
  revert H; refine bind_elim (fun t151 A H => ?_)
  refine call_mk (spec_RecEnd.ac A) (avAL_cons (avA_shut' rfl) (avAL_nil)) (Or.inl rfl) rfl rfl (Nat.le_of_ble_eq_true rfl) ?_
  conv => whnf
  refine Br.f rfl ?_
  conv => whnf
  refine Br.f rfl ?_
  conv => whnf
  refine br_d H (fun c H => ?_) (fun c H => ?_)
  conv => whnf
  refine Br.t ft_ ?_
  conv => whnf
  refine Br.t ft_ ?_
  conv => whnf
  refine Br.t ft_ ?_
  conv => whnf
  refine Nd.mk nf_ ?_
  conv => whnf
  refine Nd.mk nf_ ?_
  conv => whnf
  refine El.mk (rdm_en_S_impl_RecPhase _ _ nf_ nf_) ?_
  conv => whnf
  refine Br.t ft_ ?_
  conv => whnf
  refine Br.t ft_ ?_
  conv => whnf
  refine Br.t ft_ ?_
  conv => whnf
  revert H; refine bind_elim (fun t152 A H => ?_)
  refine call_mk (spec_l42At.ac A) (avAL_cons (avA_shut' rfl) (avAL_cons (avA_shut' rfl) (avAL_nil))) (Or.inl rfl) rfl rfl (Nat.le_of_ble_eq_true rfl) ?_
  conv => whnf
  refine Br.t ft_ ?_
  conv => whnf
  refine Br.t ft_ ?_
  conv => whnf
  refine Br.f rfl ?_
  conv => whnf
  refine Br.t ft_ ?_
  conv => whnf
  refine Br.f rfl ?_
  conv => whnf
  refine cut_ 520 [(0, (sv_S_impl_RecPhase l0)), (3, .int .i64 x3), (68, .bool (decide (t152 ≤ x3)))] [] rfl ⟨.inl rfl, ⟨.inl rfl, ⟨.inl rfl, trivial⟩⟩⟩ trivial ?_
  conv => whnf
  refine br_d H (fun c H => ?_) (fun c H => ?_)
  conv => whnf
  refine cut_ 528 [(2, .bool false)] [] rfl ⟨.inl rfl, trivial⟩ trivial ?_
  conv => whnf
  injection H with H; subst H
  exact ret_fz [] (rtA_eq rfl)
  conv => whnf
  exact ⟨(k, wrap64 (x3 + 1)), [], ⟨H, lt_⟩, lt_, (fits_of ⟨.inl ⟨rfl, rfl⟩, trivial⟩ trivial fi_ trivial rfl)⟩
  conv => whnf
  refine Br.f ff_ ?_
  conv => whnf
  refine Br.f ff_ ?_
  conv => whnf
  refine Br.f ff_ ?_
  conv => whnf
  refine Br.f ff_ ?_
  conv => whnf
  refine Br.f ff_ ?_
  conv => whnf
  refine Br.f ff_ ?_
  conv => whnf
  refine Br.f ff_ ?_
  conv => whnf
  refine Br.f ff_ ?_
  conv => whnf
  refine Br.f rfl ?_
  conv => whnf
  refine Br.f ff_ ?_
  conv => whnf
  refine Br.f rfl ?_
  conv => whnf
  refine cut_ 520 [(0, (sv_S_impl_RecPhase l0)), (3, .int .i64 x3), (68, .bool false)] [] rfl ⟨.inl rfl, ⟨.inl rfl, ⟨.inl rfl, trivial⟩⟩⟩ trivial ?_
  conv => whnf
  refine Br.f rfl ?_
  conv => whnf
  exact ⟨(k, wrap64 (x3 + 1)), [], ⟨H, lt_⟩, lt_, (fits_of ⟨.inl ⟨rfl, rfl⟩, trivial⟩ trivial fi_ trivial rfl)⟩
  conv => whnf
  refine cut_ 224 [(2, .bool false)] [] rfl ⟨.inl rfl, trivial⟩ trivial ?_
  conv => whnf
  injection H with H; subst H
  exact ret_fz [] (rtA_eq rfl)
  conv => whnf
  refine Br.t ft_ ?_
  conv => whnf
  refine Br.t ft_ ?_
  conv => whnf
  refine Br.t ft_ ?_
  conv => whnf
  refine Br.t ft_ ?_
  conv => whnf
  refine Br.t ft_ ?_
  conv => whnf
  refine Br.t ft_ ?_
  conv => whnf
  refine Br.t ft_ ?_
  conv => whnf
  refine Br.t ft_ ?_
  conv => whnf
  refine Br.t ft_ ?_
  conv => whnf
  refine cut_ 216 [(0, (sv_S_impl_RecPhase l0)), (3, .int .i64 x3), (30, .bool true)] [] rfl ⟨.inl rfl, ⟨.inl rfl, ⟨.inl rfl, trivial⟩⟩⟩ trivial ?_
  conv => whnf
  refine Br.t rfl ?_
  conv => whnf
  refine cut_ 224 [(2, .bool false)] [] rfl ⟨.inl rfl, trivial⟩ trivial ?_
  conv => whnf
  injection H with H; subst H
  exact ret_fz [] (rtA_eq rfl)
  conv => whnf
  injection H with H; subst H
  exact ret_fz [] (rtA_eq rfl)
  conv => whnf
  injection H with H; subst H
  exact ret_fz [] (rtA_eq rfl)
theorem spec_l43Kind.ac {a0 : Int} {r : ByteArray} (H : spec_l43Kind.f a0 = some r) : ACalls Tryd.prog G 45 [] [.int .i64 a0] [] (.str r) := by
  refine acalls_of tok hP Tryd.func45 rfl (by kernel_rfl) [.tmp 2] rfl (by kernel_rfl) (Nat.le_of_ble_eq_true rfl) .n rfl ?_
  unfold spec_l43Kind.f at H
  conv => whnf
  refine Or.inl ?_
  conv => whnf
  refine nd_ H (fun c H => ?_)
  conv => whnf
  refine nd_ H (fun c H => ?_)
  conv => whnf
  refine El.mk (el_of (ys := ([(⟨#[]⟩ : ByteArray), (⟨#[102, 105, 108, 108]⟩ : ByteArray), (⟨#[109, 111, 118, 101]⟩ : ByteArray), (⟨#[104, 111, 108, 100]⟩ : ByteArray), (⟨#[99, 108, 101, 97, 110]⟩ : ByteArray), (⟨#[116, 101, 115, 116]⟩ : ByteArray)] : List ByteArray).map en_str) lm_ (rdm_en_str _ _ nf_ nf_)) ?_
  conv => whnf
  injection H with H; subst H
  exact ret_fz [] (rtA_eq rfl)
theorem spec_l43Dec.ac_ : ∀ (k : Nat) (a0 : Int) (r : ByteArray), spec_l43Dec.f k a0 = some r → ACalls Tryd.prog G 46 [] [.int .i64 a0] [] (.str r)
  | 0, _, _, H => none_elim H
  | k + 1, a0, r, H => by
    refine acalls_of tok hP Tryd.func46 rfl (by kernel_rfl) [.tmp 2] rfl (by kernel_rfl) (Nat.le_of_ble_eq_true rfl) (.l .n (.l .n (.c .n .n))) rfl ?_
    rw [spec_l43Dec.f] at H
    conv => whnf
    refine br_d H (fun c H => ?_) (fun c H => ?_)
    conv => whnf
    refine Or.inl ?_
    conv => whnf
    injection H with H; subst H
    exact ret_fz [] (rtA_eq rfl)
    conv => whnf
    refine Nd.mk (by decide) ?_
    conv => whnf
    revert H; refine bind_elim (fun t168 A H => ?_)
    refine call_mk (spec_l43Dec.ac_ _ _ _ A) (avAL_cons (avA_shut' rfl) (avAL_nil)) (Or.inl rfl) rfl rfl (Nat.le_of_ble_eq_true rfl) ?_
    conv => whnf
    refine Nd.mk (by decide) ?_
    conv => whnf
    refine Or.inl ?_
    conv => whnf
    refine nd_ H (fun c H => ?_)
    conv => whnf
    refine cut_ 112 [(2, .str (t168 ++ (⟨#[UInt8.ofNat (IntKind.wrap .u8 (wrap64 (48 + (Int.tmod a0 10)))).toNat]⟩ : ByteArray)))] [] rfl ⟨.inl rfl, trivial⟩ trivial ?_
    conv => whnf
    injection H with H; subst H
    exact ret_fz [] (rtA_eq rfl)
theorem spec_l43Dec.ac {k : Nat} {a0 : Int} {r : ByteArray} (H : spec_l43Dec.f k a0 = some r) : ACalls Tryd.prog G 46 [] [.int .i64 a0] [] (.str r) := spec_l43Dec.ac_ _ _ _ H
theorem spec_RecPrint.j0_sq {F : (Exit → St → Prop) → St → Prop} {hv : List Tmp} {K : St → Prop} {Q : Exit → St → Prop} {σ : St} {r : ByteArray} {KK : Nat} {l0 : List S_impl_RecPhase} {x4 : Int}
    (h1 : F (fun e σ' => match e with | .normal => ∃ (y : Nat × ByteArray) (rn : List (Option Nat)), (spec_RecPrint.j0 y.1 l0 y.2 x4 = some r ∧ y.1 < KK) ∧ Fits σ σ' [] [(3, .str y.2)] [] [] rn | e => Q e σ') σ)
    (h2 : ∀ (k : Nat) (x3_1 : ByteArray), k < KK → spec_RecPrint.j0 k l0 x3_1 x4 = some r → headN σ hv [] [(3, .str x3_1)] [] [] K) : Sq F hv K Q σ := by
  unfold Sq
  refine ⟨Nat × ByteArray, fun x => spec_RecPrint.j0 x.1 l0 x.2 x4 = some r ∧ x.1 < KK, [], fun x => [(3, .str x.2)], fun x => [], fun x => [], h1, ?_⟩
  rintro ⟨k, x3_1⟩ ⟨H, hk⟩
  exact h2 k x3_1 hk H
theorem spec_RecPrint.j1_sq {F : (Exit → St → Prop) → St → Prop} {hv : List Tmp} {K : St → Prop} {Q : Exit → St → Prop} {σ : St} {r : ByteArray} {KK : Nat} {l0 : List S_impl_RecPhase} {x4 : Int}
    (h1 : F (fun e σ' => match e with | .normal => ∃ (y : Nat × ByteArray) (rn : List (Option Nat)), (spec_RecPrint.j1 y.1 l0 y.2 x4 = some r ∧ y.1 < KK) ∧ Fits σ σ' [] [(3, .str y.2)] [] [] rn | e => Q e σ') σ)
    (h2 : ∀ (k : Nat) (x3_3 : ByteArray), k < KK → spec_RecPrint.j1 k l0 x3_3 x4 = some r → headN σ hv [] [(3, .str x3_3)] [] [] K) : Sq F hv K Q σ := by
  unfold Sq
  refine ⟨Nat × ByteArray, fun x => spec_RecPrint.j1 x.1 l0 x.2 x4 = some r ∧ x.1 < KK, [], fun x => [(3, .str x.2)], fun x => [], fun x => [], h1, ?_⟩
  rintro ⟨k, x3_3⟩ ⟨H, hk⟩
  exact h2 k x3_3 hk H
theorem spec_RecPrint.j2_sq {F : (Exit → St → Prop) → St → Prop} {hv : List Tmp} {K : St → Prop} {Q : Exit → St → Prop} {σ : St} {r : ByteArray} {KK : Nat} {l0 : List S_impl_RecPhase} {x4 : Int}
    (h1 : F (fun e σ' => match e with | .normal => ∃ (y : Nat × ByteArray) (rn : List (Option Nat)), (spec_RecPrint.j2 y.1 l0 y.2 x4 = some r ∧ y.1 < KK) ∧ Fits σ σ' [] [(3, .str y.2)] [] [] rn | e => Q e σ') σ)
    (h2 : ∀ (k : Nat) (x3_2 : ByteArray), k < KK → spec_RecPrint.j2 k l0 x3_2 x4 = some r → headN σ hv [] [(3, .str x3_2)] [] [] K) : Sq F hv K Q σ := by
  unfold Sq
  refine ⟨Nat × ByteArray, fun x => spec_RecPrint.j2 x.1 l0 x.2 x4 = some r ∧ x.1 < KK, [], fun x => [(3, .str x.2)], fun x => [], fun x => [], h1, ?_⟩
  rintro ⟨k, x3_2⟩ ⟨H, hk⟩
  exact h2 k x3_2 hk H
theorem spec_RecPrint.l0_lp {F : (Exit → St → Prop) → St → Prop} {hv : List Tmp} {Q : Exit → St → Prop} {σ : St} {r : ByteArray} {k : Nat} {l0 : List S_impl_RecPhase} {x3 : ByteArray} {x4 : Int} (H : spec_RecPrint.l0 k l0 x3 x4 = some r) (rn : List (Option Nat)) (h1 : Fits σ σ [] [(3, .str x3), (4, .int .i64 x4)] [] [] rn)
    (h2 : ∀ (k0 : Nat) (x3 : ByteArray) (x4 : Int), k0 < k + 1 → spec_RecPrint.l0 k0 l0 x3 x4 = some r → headN σ hv [] [(3, .str x3), (4, .int .i64 x4)] [] [] (F (fun e σ' => match e with | .normal => ∃ (y : Nat × ByteArray × Int) (rn : List (Option Nat)), (spec_RecPrint.l0 y.1 l0 y.2.1 y.2.2 = some r ∧ y.1 < k + 1) ∧ y.1 < k0 ∧ Fits σ σ' [] [(3, .str y.2.1), (4, .int .i64 y.2.2)] [] [] rn | e => Q e σ'))) : Lp F hv Q σ := by
  unfold Lp
  refine ⟨Nat × ByteArray × Int, fun x => spec_RecPrint.l0 x.1 l0 x.2.1 x.2.2 = some r ∧ x.1 < k + 1, fun x => x.1, [], fun x => [(3, .str x.2.1), (4, .int .i64 x.2.2)], fun x => [], fun x => [], ⟨(k, x3, x4), rn, ⟨H, Nat.lt_succ_self _⟩, h1⟩, ?_⟩
  rintro ⟨k, x3, x4⟩ ⟨H, hk⟩
  exact h2 k x3 x4 hk H
theorem spec_RecPrint.ac {k : Nat} {l0 : List S_impl_RecPhase} {r : ByteArray} (H : spec_RecPrint.f k l0 = some r) : ACalls Tryd.prog G 17 [] [(sv_S_impl_RecPhase l0)] [] (.str r) := by
  refine acalls_of tok hP Tryd.func17 rfl (by kernel_rfl) [.tmp 2] rfl (by kernel_rfl) (Nat.le_of_ble_eq_true rfl) (.l .n (.l .n (.l .n (.l (.l .n (.l (.c .n .n) (.j (.l .n (.c .n (.j .n (.j .n .n)))) .n))) .n)))) rfl ?_
  unfold spec_RecPrint.f at H
  conv => whnf
  revert H; refine bind_elim (fun t171 A H => ?_)
  refine call_mk (spec_RecOk.ac A) (avAL_cons (avA_shut' rfl) (avAL_nil)) (Or.inl rfl) rfl rfl (Nat.le_of_ble_eq_true rfl) ?_
  conv => whnf
  refine br_nt H (fun c H => ?_) (fun c H => ?_)
  conv => whnf
  refine spec_RecPrint.l0_lp (l0 := l0) (k := k) H [] (fits_of ⟨.inl ⟨rfl, rfl⟩, ⟨.inl ⟨rfl, rfl⟩, trivial⟩⟩ trivial fi_ trivial rfl) ?_
  intro k x3 x4 hk H; rcases k with _ | k; exact none_elim H; rw [spec_RecPrint.l0] at H; conv => whnf
  refine cut_ 80 [(0, (sv_S_impl_RecPhase l0)), (3, .str x3), (4, .int .i64 x4), (13, .bool (decide (x4 < (l0.length : Int))))] [] rfl ⟨.inl rfl, ⟨.inl rfl, ⟨.inl rfl, ⟨.inl rfl, trivial⟩⟩⟩⟩ trivial ?_
  conv => whnf
  refine br_d H (fun c H => ?_) (fun c H => ?_)
  conv => whnf
  refine spec_RecPrint.j0_sq (l0 := l0) (x4 := x4) (KK := k + 1) (r := r) ?_ ?_
  conv => whnf
  refine nd_ H (fun c H => ?_)
  conv => whnf
  refine Nd.mk nf_ ?_
  conv => whnf
  refine El.mk (rdm_en_S_impl_RecPhase _ _ nf_ nf_) ?_
  conv => whnf
  refine nd_ H (fun c H => ?_)
  conv => whnf
  refine nd_ H (fun c H => ?_)
  conv => whnf
  revert H; refine bind_elim (fun t194 A H => ?_)
  refine call_mk (spec_l43Kind.ac A) (avAL_cons (avA_shut' rfl) (avAL_nil)) (Or.inl rfl) rfl rfl (Nat.le_of_ble_eq_true rfl) ?_
  conv => whnf
  refine nd_ H (fun c H => ?_)
  conv => whnf
  refine nd_ H (fun c H => ?_)
  conv => whnf
  refine nd_ H (fun c H => ?_)
  conv => whnf
  refine cut_ 240 [(0, (sv_S_impl_RecPhase l0)), (3, .str (((((x3 ++ ((rd_impl_RecPhase l0 x4).f0)) ++ (⟨#[32]⟩ : ByteArray)) ++ t194) ++ (⟨#[32]⟩ : ByteArray)) ++ ((rd_impl_RecPhase l0 x4).f2))), (4, .int .i64 x4), (5, .bp 112 0)] [(112, .box [.str ((rd_impl_RecPhase l0 x4).f0), .int .i64 ((rd_impl_RecPhase l0 x4).f1), .str ((rd_impl_RecPhase l0 x4).f2), .str ((rd_impl_RecPhase l0 x4).f3), .int .i64 ((rd_impl_RecPhase l0 x4).f4), .int .i64 ((rd_impl_RecPhase l0 x4).f5), .str ((rd_impl_RecPhase l0 x4).f6), .str ((rd_impl_RecPhase l0 x4).f7)])] rfl ⟨.inl rfl, ⟨.inl rfl, ⟨.inl rfl, ⟨.inl rfl, trivial⟩⟩⟩⟩ ⟨rfl, trivial⟩ ?_
  conv => whnf
  refine spec_RecPrint.j2_sq (l0 := l0) (x4 := x4) (KK := k + 1) (r := r) ?_ ?_
  conv => whnf
  refine br_nd H (fun c H => ?_) (fun c H => ?_)
  conv => whnf
  exact ⟨(k, ((((x3 ++ ((rd_impl_RecPhase l0 x4).f0)) ++ (⟨#[32]⟩ : ByteArray)) ++ t194) ++ (⟨#[32]⟩ : ByteArray)) ++ ((rd_impl_RecPhase l0 x4).f2)), [], ⟨H, lt_⟩, (fits_of ⟨.inl ⟨rfl, rfl⟩, trivial⟩ trivial fi_ trivial rfl)⟩
  conv => whnf
  refine nd_ H (fun c H => ?_)
  conv => whnf
  refine nd_ H (fun c H => ?_)
  conv => whnf
  exact ⟨(k, ((((((x3 ++ ((rd_impl_RecPhase l0 x4).f0)) ++ (⟨#[32]⟩ : ByteArray)) ++ t194) ++ (⟨#[32]⟩ : ByteArray)) ++ ((rd_impl_RecPhase l0 x4).f2)) ++ (⟨#[32]⟩ : ByteArray)) ++ ((rd_impl_RecPhase l0 x4).f3)), [], ⟨H, lt_⟩, (fits_of ⟨.inl ⟨rfl, rfl⟩, trivial⟩ trivial fi_ trivial rfl)⟩
  intro k x3_2 hk H; rcases k with _ | k; exact none_elim H; rw [spec_RecPrint.j2] at H; conv => whnf
  refine spec_RecPrint.j1_sq (l0 := l0) (x4 := x4) (KK := k + 1) (r := r) ?_ ?_
  conv => whnf
  refine br_d H (fun c H => ?_) (fun c H => ?_)
  conv => whnf
  refine nd_ H (fun c H => ?_)
  conv => whnf
  revert H; refine bind_elim (fun t197 A H => ?_)
  refine call_mk (spec_l43Dec.ac A) (avAL_cons (avA_shut' rfl) (avAL_nil)) (Or.inl rfl) rfl rfl (Nat.le_of_ble_eq_true rfl) ?_
  conv => whnf
  refine nd_ H (fun c H => ?_)
  conv => whnf
  exact ⟨(k, (x3_2 ++ (⟨#[32]⟩ : ByteArray)) ++ t197), [], ⟨H, lt_⟩, (fits_of ⟨.inl ⟨rfl, rfl⟩, trivial⟩ trivial fi_ trivial rfl)⟩
  conv => whnf
  exact ⟨(k, x3_2), [], ⟨H, lt_⟩, (fits_of ⟨.inl ⟨rfl, rfl⟩, trivial⟩ trivial fi_ trivial rfl)⟩
  intro k x3_3 hk H; rcases k with _ | k; exact none_elim H; unfold spec_RecPrint.j1 at H; conv => whnf
  refine nd_ H (fun c H => ?_)
  conv => whnf
  revert H; refine bind_elim (fun t196 A H => ?_)
  refine call_mk (spec_l43Dec.ac A) (avAL_cons (avA_shut' rfl) (avAL_nil)) (Or.inl rfl) rfl rfl (Nat.le_of_ble_eq_true rfl) ?_
  conv => whnf
  refine nd_ H (fun c H => ?_)
  conv => whnf
  refine nd_ H (fun c H => ?_)
  conv => whnf
  refine nd_ H (fun c H => ?_)
  conv => whnf
  refine nd_ H (fun c H => ?_)
  conv => whnf
  refine nd_ H (fun c H => ?_)
  conv => whnf
  refine nd_ H (fun c H => ?_)
  conv => whnf
  exact ⟨(k, ((((((x3_3 ++ (⟨#[32, 119, 105, 116, 104, 105, 110, 32]⟩ : ByteArray)) ++ t196) ++ (⟨#[32, 116, 104, 101, 110, 32]⟩ : ByteArray)) ++ ((rd_impl_RecPhase l0 x4).f6)) ++ (⟨#[32, 101, 108, 115, 101, 32]⟩ : ByteArray)) ++ ((rd_impl_RecPhase l0 x4).f7)) ++ (⟨#[10]⟩ : ByteArray)), [], ⟨H, lt_⟩, (fits_of ⟨.inl ⟨rfl, rfl⟩, trivial⟩ trivial fi_ trivial rfl)⟩
  intro k x3_1 hk H; rcases k with _ | k; exact none_elim H; rw [spec_RecPrint.j0] at H; conv => whnf
  exact ⟨(k, x3_1, wrap64 (x4 + 1)), [], ⟨H, lt_⟩, lt_, (fits_of ⟨.inl ⟨rfl, rfl⟩, ⟨.inl ⟨rfl, rfl⟩, trivial⟩⟩ trivial fi_ trivial rfl)⟩
  conv => whnf
  injection H with H; subst H
  exact ret_fz [] (rtA_eq rfl)
  conv => whnf
  injection H with H; subst H
  exact ret_fz [] (rtA_eq rfl)
theorem impl_isName.l0_lp {F : (Exit → St → Prop) → St → Prop} {hv : List Tmp} {Q : Exit → St → Prop} {σ : St} {r : Bool} {k : Nat} {a0 : ByteArray} {x7 : Int} (H : impl_isName.l0 k a0 x7 = some r) (rn : List (Option Nat)) (h1 : Fits σ σ [] [(7, .int .i64 x7)] [] [] rn)
    (h2 : ∀ (k0 : Nat) (x7 : Int), k0 < k + 1 → impl_isName.l0 k0 a0 x7 = some r → headN σ hv [] [(7, .int .i64 x7)] [] [] (F (fun e σ' => match e with | .normal => ∃ (y : Nat × Int) (rn : List (Option Nat)), (impl_isName.l0 y.1 a0 y.2 = some r ∧ y.1 < k + 1) ∧ y.1 < k0 ∧ Fits σ σ' [] [(7, .int .i64 y.2)] [] [] rn | e => Q e σ'))) : Lp F hv Q σ := by
  unfold Lp
  refine ⟨Nat × Int, fun x => impl_isName.l0 x.1 a0 x.2 = some r ∧ x.1 < k + 1, fun x => x.1, [], fun x => [(7, .int .i64 x.2)], fun x => [], fun x => [], ⟨(k, x7), rn, ⟨H, Nat.lt_succ_self _⟩, h1⟩, ?_⟩
  rintro ⟨k, x7⟩ ⟨H, hk⟩
  exact h2 k x7 hk H
theorem impl_isName.ac {k : Nat} {a0 : ByteArray} {r : Bool} (H : impl_isName.f k a0 = some r) : ACalls Tryd.prog G 100 [] [.str a0] [] (.bool r) := by
  refine acalls_of tok hP Tryd.func100 rfl (by kernel_rfl) [.tmp 2] rfl (by kernel_rfl) (Nat.le_of_ble_eq_true rfl) (.l .n (.l (.l .n (.l .n (.l .n (.l (.l .n (.c .n (.c .n (.l (.c .n .n) .n)))) .n)))) (.c .n .n))) rfl ?_
  unfold impl_isName.f at H
  conv => whnf
  refine impl_isName.l0_lp (a0 := a0) (k := k) H [] (fits_of ⟨.inl ⟨rfl, rfl⟩, trivial⟩ trivial fi_ trivial rfl) ?_
  intro k x7 hk H; rcases k with _ | k; exact none_elim H; rw [impl_isName.l0] at H; conv => whnf
  refine br_d H (fun c H => ?_) (fun c H => ?_)
  conv => whnf
  refine nd_ H (fun c H => ?_)
  conv => whnf
  refine Nd.mk nf_ ?_
  conv => whnf
  refine cut_ 88 [(0, .str a0), (4, .int .u8 (bt a0 x7)), (6, .int .i64 (a0.size : Int)), (7, .int .i64 x7)] [] rfl ⟨.inl rfl, ⟨.inl rfl, ⟨.inl rfl, ⟨.inl rfl, trivial⟩⟩⟩⟩ trivial ?_
  conv => whnf
  refine br_d H (fun c H => ?_) (fun c H => ?_)
  conv => whnf
  refine Br.t ft_ ?_
  conv => whnf
  refine Br.t ft_ ?_
  conv => whnf
  refine Br.t rfl ?_
  conv => whnf
  refine Br.t rfl ?_
  conv => whnf
  refine Br.t rfl ?_
  conv => whnf
  refine br_d H (fun c H => ?_) (fun c H => ?_)
  conv => whnf
  refine Br.t ft_ ?_
  conv => whnf
  refine Br.t rfl ?_
  conv => whnf
  refine Br.t ft_ ?_
  conv => whnf
  refine Br.t rfl ?_
  conv => whnf
  refine Br.t rfl ?_
  conv => whnf
  refine Br.t rfl ?_
  conv => whnf
  refine Br.t rfl ?_
  conv => whnf
  refine cut_ 232 [(0, .str a0), (6, .int .i64 (a0.size : Int)), (7, .int .i64 x7), (30, .bool (!(decide ((bt a0 x7) = 45))))] [] rfl ⟨.inl rfl, ⟨.inl rfl, ⟨.inl rfl, ⟨.inl rfl, trivial⟩⟩⟩⟩ trivial ?_
  conv => whnf
  refine br_nd H (fun c H => ?_) (fun c H => ?_)
  conv => whnf
  exact ⟨(k, wrap64 (x7 + 1)), [], ⟨H, lt_⟩, lt_, (fits_of ⟨.inl ⟨rfl, rfl⟩, trivial⟩ trivial fi_ trivial rfl)⟩
  conv => whnf
  refine cut_ 240 [(2, .bool false)] [] rfl ⟨.inl rfl, trivial⟩ trivial ?_
  conv => whnf
  injection H with H; subst H
  exact ret_fz [] (rtA_eq rfl)
  conv => whnf
  refine Br.f ff_ ?_
  conv => whnf
  refine Br.t rfl ?_
  conv => whnf
  refine Br.f ff_ ?_
  conv => whnf
  refine Br.t rfl ?_
  conv => whnf
  refine br_d H (fun c H => ?_) (fun c H => ?_)
  conv => whnf
  refine Br.t ft_ ?_
  conv => whnf
  refine Br.t ft_ ?_
  conv => whnf
  refine cut_ 232 [(0, .str a0), (6, .int .i64 (a0.size : Int)), (7, .int .i64 x7), (30, .bool (!(decide ((bt a0 x7) = 45))))] [] rfl ⟨.inl rfl, ⟨.inl rfl, ⟨.inl rfl, ⟨.inl rfl, trivial⟩⟩⟩⟩ trivial ?_
  conv => whnf
  refine br_nd H (fun c H => ?_) (fun c H => ?_)
  conv => whnf
  exact ⟨(k, wrap64 (x7 + 1)), [], ⟨H, lt_⟩, lt_, (fits_of ⟨.inl ⟨rfl, rfl⟩, trivial⟩ trivial fi_ trivial rfl)⟩
  conv => whnf
  refine cut_ 240 [(2, .bool false)] [] rfl ⟨.inl rfl, trivial⟩ trivial ?_
  conv => whnf
  injection H with H; subst H
  exact ret_fz [] (rtA_eq rfl)
  conv => whnf
  refine Br.f ff_ ?_
  conv => whnf
  refine Br.f ff_ ?_
  conv => whnf
  refine cut_ 232 [(0, .str a0), (6, .int .i64 (a0.size : Int)), (7, .int .i64 x7), (30, .bool false)] [] rfl ⟨.inl rfl, ⟨.inl rfl, ⟨.inl rfl, ⟨.inl rfl, trivial⟩⟩⟩⟩ trivial ?_
  conv => whnf
  refine Br.f rfl ?_
  conv => whnf
  exact ⟨(k, wrap64 (x7 + 1)), [], ⟨H, lt_⟩, lt_, (fits_of ⟨.inl ⟨rfl, rfl⟩, trivial⟩ trivial fi_ trivial rfl)⟩
  conv => whnf
  refine Br.f ff_ ?_
  conv => whnf
  refine Br.f ff_ ?_
  conv => whnf
  refine br_d H (fun c H => ?_) (fun c H => ?_)
  conv => whnf
  refine Br.t ft_ ?_
  conv => whnf
  refine Br.t ft_ ?_
  conv => whnf
  refine br_d H (fun c H => ?_) (fun c H => ?_)
  conv => whnf
  refine Br.t ft_ ?_
  conv => whnf
  refine Br.t ft_ ?_
  conv => whnf
  refine Br.t ft_ ?_
  conv => whnf
  refine Br.t ft_ ?_
  conv => whnf
  refine Br.t rfl ?_
  conv => whnf
  refine Br.t rfl ?_
  conv => whnf
  refine Br.t rfl ?_
  conv => whnf
  refine cut_ 232 [(0, .str a0), (6, .int .i64 (a0.size : Int)), (7, .int .i64 x7), (30, .bool (!(decide ((bt a0 x7) = 45))))] [] rfl ⟨.inl rfl, ⟨.inl rfl, ⟨.inl rfl, ⟨.inl rfl, trivial⟩⟩⟩⟩ trivial ?_
  conv => whnf
  refine br_nd H (fun c H => ?_) (fun c H => ?_)
  conv => whnf
  exact ⟨(k, wrap64 (x7 + 1)), [], ⟨H, lt_⟩, lt_, (fits_of ⟨.inl ⟨rfl, rfl⟩, trivial⟩ trivial fi_ trivial rfl)⟩
  conv => whnf
  refine cut_ 240 [(2, .bool false)] [] rfl ⟨.inl rfl, trivial⟩ trivial ?_
  conv => whnf
  injection H with H; subst H
  exact ret_fz [] (rtA_eq rfl)
  conv => whnf
  refine Br.f ff_ ?_
  conv => whnf
  refine Br.t ft_ ?_
  conv => whnf
  refine Br.f ff_ ?_
  conv => whnf
  refine Br.t ft_ ?_
  conv => whnf
  refine br_d H (fun c H => ?_) (fun c H => ?_)
  conv => whnf
  refine Br.t ft_ ?_
  conv => whnf
  refine Br.t ft_ ?_
  conv => whnf
  refine cut_ 232 [(0, .str a0), (6, .int .i64 (a0.size : Int)), (7, .int .i64 x7), (30, .bool (!(decide ((bt a0 x7) = 45))))] [] rfl ⟨.inl rfl, ⟨.inl rfl, ⟨.inl rfl, ⟨.inl rfl, trivial⟩⟩⟩⟩ trivial ?_
  conv => whnf
  refine br_nd H (fun c H => ?_) (fun c H => ?_)
  conv => whnf
  exact ⟨(k, wrap64 (x7 + 1)), [], ⟨H, lt_⟩, lt_, (fits_of ⟨.inl ⟨rfl, rfl⟩, trivial⟩ trivial fi_ trivial rfl)⟩
  conv => whnf
  refine cut_ 240 [(2, .bool false)] [] rfl ⟨.inl rfl, trivial⟩ trivial ?_
  conv => whnf
  injection H with H; subst H
  exact ret_fz [] (rtA_eq rfl)
  conv => whnf
  refine Br.f ff_ ?_
  conv => whnf
  refine Br.f ff_ ?_
  conv => whnf
  refine cut_ 232 [(0, .str a0), (6, .int .i64 (a0.size : Int)), (7, .int .i64 x7), (30, .bool false)] [] rfl ⟨.inl rfl, ⟨.inl rfl, ⟨.inl rfl, ⟨.inl rfl, trivial⟩⟩⟩⟩ trivial ?_
  conv => whnf
  refine Br.f rfl ?_
  conv => whnf
  exact ⟨(k, wrap64 (x7 + 1)), [], ⟨H, lt_⟩, lt_, (fits_of ⟨.inl ⟨rfl, rfl⟩, trivial⟩ trivial fi_ trivial rfl)⟩
  conv => whnf
  refine Br.f ff_ ?_
  conv => whnf
  refine Br.f ff_ ?_
  conv => whnf
  refine Br.f ff_ ?_
  conv => whnf
  refine Br.f ff_ ?_
  conv => whnf
  refine Br.f rfl ?_
  conv => whnf
  refine Br.f rfl ?_
  conv => whnf
  refine Br.f rfl ?_
  conv => whnf
  refine cut_ 232 [(0, .str a0), (6, .int .i64 (a0.size : Int)), (7, .int .i64 x7), (30, .bool false)] [] rfl ⟨.inl rfl, ⟨.inl rfl, ⟨.inl rfl, ⟨.inl rfl, trivial⟩⟩⟩⟩ trivial ?_
  conv => whnf
  refine Br.f rfl ?_
  conv => whnf
  exact ⟨(k, wrap64 (x7 + 1)), [], ⟨H, lt_⟩, lt_, (fits_of ⟨.inl ⟨rfl, rfl⟩, trivial⟩ trivial fi_ trivial rfl)⟩
  conv => whnf
  refine br_d H (fun c H => ?_) (fun c H => ?_)
  conv => whnf
  refine Br.t ft_ ?_
  conv => whnf
  refine Br.t ft_ ?_
  conv => whnf
  refine Br.t ft_ ?_
  conv => whnf
  refine cut_ 112 [(2, .bool (decide ((a0.size : Int) ≤ 8)))] [] rfl ⟨.inl rfl, trivial⟩ trivial ?_
  conv => whnf
  injection H with H; subst H
  exact ret_fz [] (rtA_eq rfl)
  conv => whnf
  refine Br.f ff_ ?_
  conv => whnf
  refine Br.f ff_ ?_
  conv => whnf
  refine Br.f ff_ ?_
  conv => whnf
  refine cut_ 112 [(2, .bool false)] [] rfl ⟨.inl rfl, trivial⟩ trivial ?_
  conv => whnf
  injection H with H; subst H
  exact ret_fz [] (rtA_eq rfl)
theorem impl_RecEnd.ac {a0 : ByteArray} {r : Int} (H : impl_RecEnd.f a0 = some r) : ACalls Tryd.prog G 72 [] [.str a0] [] (.int .i64 r) := by
  refine acalls_of tok hP Tryd.func72 rfl (by kernel_rfl) [.tmp 2] rfl (by kernel_rfl) (Nat.le_of_ble_eq_true rfl) .n rfl ?_
  unfold impl_RecEnd.f at H
  conv => whnf
  refine br_d H (fun c H => ?_) (fun c H => ?_)
  conv => whnf
  injection H with H; subst H
  exact ret_fz [] (rtA_eq rfl)
  conv => whnf
  refine br_d H (fun c H => ?_) (fun c H => ?_)
  conv => whnf
  injection H with H; subst H
  exact ret_fz [] (rtA_eq rfl)
  conv => whnf
  refine br_d H (fun c H => ?_) (fun c H => ?_)
  conv => whnf
  injection H with H; subst H
  exact ret_fz [] (rtA_eq rfl)
  conv => whnf
  injection H with H; subst H
  exact ret_fz [] (rtA_eq rfl)
theorem impl_RecPhaseOk.j0_sq {F : (Exit → St → Prop) → St → Prop} {hv : List Tmp} {K : St → Prop} {Q : Exit → St → Prop} {σ : St} {r : Bool} {KK : Nat} {a0_3 : ByteArray} {a0_4 : Int}
    (h1 : F (fun e σ' => match e with | .normal => ∃ (y : Nat × Bool × Int) (rn : List (Option Nat)), (impl_RecPhaseOk.j0 y.1 a0_3 a0_4 y.2.2 y.2.1 = some r ∧ y.1 < KK) ∧ Fits σ σ' [] [(3, .int .i64 y.2.2), (4, .bool y.2.1)] [] [] rn | e => Q e σ') σ)
    (h2 : ∀ (k : Nat) (x4 : Bool) (x3 : Int), k < KK → impl_RecPhaseOk.j0 k a0_3 a0_4 x3 x4 = some r → headN σ hv [] [(3, .int .i64 x3), (4, .bool x4)] [] [] K) : Sq F hv K Q σ := by
  unfold Sq
  refine ⟨Nat × Bool × Int, fun x => impl_RecPhaseOk.j0 x.1 a0_3 a0_4 x.2.2 x.2.1 = some r ∧ x.1 < KK, [], fun x => [(3, .int .i64 x.2.2), (4, .bool x.2.1)], fun x => [], fun x => [], h1, ?_⟩
  rintro ⟨k, x4, x3⟩ ⟨H, hk⟩
  exact h2 k x4 x3 hk H
theorem impl_RecPhaseOk.ac {k : Nat} {a0_0 : ByteArray} {a0_1 : Int} {a0_2 : ByteArray} {a0_3 : ByteArray} {a0_4 : Int} {a0_5 : Int} {a0_6 : ByteArray} {a0_7 : ByteArray} {r : Bool} (H : impl_RecPhaseOk.f k a0_0 a0_1 a0_2 a0_3 a0_4 a0_5 a0_6 a0_7 = some r) : ACalls Tryd.prog G 79 [] [.agg [.str a0_0, .int .i64 a0_1, .str a0_2, .str a0_3, .int .i64 a0_4, .int .i64 a0_5, .str a0_6, .str a0_7]] [] (.bool r) := by
  refine acalls_of tok hP Tryd.func79 rfl (by kernel_rfl) [.tmp 2] rfl (by kernel_rfl) (Nat.le_of_ble_eq_true rfl) (.l .n (.l (.c .n (.l (.c .n .n) .n)) (.l .n (.j (.l .n (.l .n (.l .n (.l .n (.l (.l .n (.c .n .n)) (.c .n .n)))))) (.l (.c .n .n) (.c .n .n)))))) rfl ?_
  unfold impl_RecPhaseOk.f at H
  conv => whnf
  revert H; refine bind_elim (fun t249 A H => ?_)
  refine call_mk (impl_isName.ac A) (avAL_cons (avA_shut' rfl) (avAL_nil)) (Or.inl rfl) rfl rfl (Nat.le_of_ble_eq_true rfl) ?_
  conv => whnf
  refine br_nt H (fun c H => ?_) (fun c H => ?_)
  conv => whnf
  refine Br.f ff_ ?_
  conv => whnf
  refine Br.f ff_ ?_
  conv => whnf
  revert H; refine bind_elim (fun t250 A H => ?_)
  refine call_mk (impl_RecEnd.ac A) (avAL_cons (avA_shut' rfl) (avAL_nil)) (Or.inl rfl) rfl rfl (Nat.le_of_ble_eq_true rfl) ?_
  conv => whnf
  refine Br.f ff_ ?_
  conv => whnf
  refine Br.f ff_ ?_
  conv => whnf
  refine br_nd H (fun c H => ?_) (fun c H => ?_)
  conv => whnf
  refine Br.f ff_ ?_
  conv => whnf
  refine Br.f ff_ ?_
  conv => whnf
  refine Br.f ff_ ?_
  conv => whnf
  refine br_d H (fun c H => ?_) (fun c H => ?_)
  conv => whnf
  refine Br.t ft_ ?_
  conv => whnf
  refine Br.t ft_ ?_
  conv => whnf
  refine Br.t ft_ ?_
  conv => whnf
  refine Br.t rfl ?_
  conv => whnf
  refine Br.t rfl ?_
  conv => whnf
  refine Br.t rfl ?_
  conv => whnf
  refine Br.t rfl ?_
  conv => whnf
  refine Br.t rfl ?_
  conv => whnf
  refine Br.t rfl ?_
  conv => whnf
  refine Br.t rfl ?_
  conv => whnf
  refine Br.t rfl ?_
  conv => whnf
  refine Br.t rfl ?_
  conv => whnf
  refine Br.t rfl ?_
  conv => whnf
  refine Br.t rfl ?_
  conv => whnf
  refine Br.t rfl ?_
  conv => whnf
  refine Br.t rfl ?_
  conv => whnf
  refine Br.t rfl ?_
  conv => whnf
  refine Br.t rfl ?_
  conv => whnf
  refine cut_ 320 [(1, .bp 0 0), (42, .bool true)] [(0, .box [.str a0_0, .int .i64 a0_1, .str a0_2, .str a0_3, .int .i64 a0_4, .int .i64 a0_5, .str a0_6, .str a0_7])] rfl ⟨.inl rfl, ⟨.inl rfl, trivial⟩⟩ ⟨rfl, trivial⟩ ?_
  conv => whnf
  refine Br.t rfl ?_
  conv => whnf
  refine cut_ 328 [(2, .bool false)] [] rfl ⟨.inl rfl, trivial⟩ trivial ?_
  conv => whnf
  injection H with H; subst H
  exact ret_fz [] (rtA_eq rfl)
  conv => whnf
  refine Br.f ff_ ?_
  conv => whnf
  refine Br.f ff_ ?_
  conv => whnf
  refine Br.f ff_ ?_
  conv => whnf
  refine br_d H (fun c H => ?_) (fun c H => ?_)
  conv => whnf
  refine Br.t ft_ ?_
  conv => whnf
  refine Br.t ft_ ?_
  conv => whnf
  refine Br.t ft_ ?_
  conv => whnf
  refine Br.t ft_ ?_
  conv => whnf
  refine Br.t rfl ?_
  conv => whnf
  refine Br.t rfl ?_
  conv => whnf
  refine Br.t rfl ?_
  conv => whnf
  refine Br.t rfl ?_
  conv => whnf
  refine Br.t rfl ?_
  conv => whnf
  refine Br.t rfl ?_
  conv => whnf
  refine Br.t rfl ?_
  conv => whnf
  refine Br.t rfl ?_
  conv => whnf
  refine Br.t rfl ?_
  conv => whnf
  refine Br.t rfl ?_
  conv => whnf
  refine cut_ 320 [(1, .bp 0 0), (42, .bool true)] [(0, .box [.str a0_0, .int .i64 a0_1, .str a0_2, .str a0_3, .int .i64 a0_4, .int .i64 a0_5, .str a0_6, .str a0_7])] rfl ⟨.inl rfl, ⟨.inl rfl, trivial⟩⟩ ⟨rfl, trivial⟩ ?_
  conv => whnf
  refine Br.t rfl ?_
  conv => whnf
  refine cut_ 328 [(2, .bool false)] [] rfl ⟨.inl rfl, trivial⟩ trivial ?_
  conv => whnf
  injection H with H; subst H
  exact ret_fz [] (rtA_eq rfl)
  conv => whnf
  refine Br.f ff_ ?_
  conv => whnf
  refine Br.f ff_ ?_
  conv => whnf
  revert H; refine bind_elim (fun t251 A H => ?_)
  refine call_mk (impl_isName.ac A) (avAL_cons (avA_shut' rfl) (avAL_nil)) (Or.inl rfl) rfl rfl (Nat.le_of_ble_eq_true rfl) ?_
  conv => whnf
  refine Br.f ff_ ?_
  conv => whnf
  refine Br.f ff_ ?_
  conv => whnf
  refine br_nt H (fun c H => ?_) (fun c H => ?_)
  conv => whnf
  refine Br.f ff_ ?_
  conv => whnf
  refine Br.f ff_ ?_
  conv => whnf
  revert H; refine bind_elim (fun t252 A H => ?_)
  refine call_mk (impl_isName.ac A) (avAL_cons (avA_shut' rfl) (avAL_nil)) (Or.inl rfl) rfl rfl (Nat.le_of_ble_eq_true rfl) ?_
  conv => whnf
  refine Br.f ff_ ?_
  conv => whnf
  refine Br.f ff_ ?_
  conv => whnf
  refine br_nt H (fun c H => ?_) (fun c H => ?_)
  conv => whnf
  refine Br.f ff_ ?_
  conv => whnf
  refine Br.f ff_ ?_
  conv => whnf
  revert H; refine bind_elim (fun t253 A H => ?_)
  refine call_mk (impl_isName.ac A) (avAL_cons (avA_shut' rfl) (avAL_nil)) (Or.inl rfl) rfl rfl (Nat.le_of_ble_eq_true rfl) ?_
  conv => whnf
  refine Br.f ff_ ?_
  conv => whnf
  refine Br.f ff_ ?_
  conv => whnf
  refine cut_ 320 [(1, .bp 0 0), (42, .bool (!t253))] [(0, .box [.str a0_0, .int .i64 a0_1, .str a0_2, .str a0_3, .int .i64 a0_4, .int .i64 a0_5, .str a0_6, .str a0_7])] rfl ⟨.inl rfl, ⟨.inl rfl, trivial⟩⟩ ⟨rfl, trivial⟩ ?_
  conv => whnf
  refine br_nt H (fun c H => ?_) (fun c H => ?_)
  conv => whnf
  refine impl_RecPhaseOk.j0_sq (a0_3 := a0_3) (a0_4 := a0_4) (KK := k + 1) (r := r) ?_ ?_
  conv => whnf
  refine br_d H (fun c H => ?_) (fun c H => ?_)
  conv => whnf
  exact ⟨(k, true, 1000), [], ⟨H, lt_⟩, (fits_of ⟨.inl ⟨rfl, rfl⟩, ⟨.inl ⟨rfl, rfl⟩, trivial⟩⟩ trivial fi_ trivial rfl)⟩
  conv => whnf
  refine br_d H (fun c H => ?_) (fun c H => ?_)
  conv => whnf
  refine cut_ 432 [(1, .bp 0 0), (3, .int .i64 1000), (4, .bool true), (53, .bool (decide (a0_2.toList = a0_3.toList)))] [(0, .box [.str a0_0, .int .i64 a0_1, .str a0_2, .str a0_3, .int .i64 a0_4, .int .i64 a0_5, .str a0_6, .str a0_7])] rfl ⟨.inl rfl, ⟨.inl rfl, ⟨.inl rfl, ⟨.inl rfl, trivial⟩⟩⟩⟩ ⟨rfl, trivial⟩ ?_
  conv => whnf
  refine br_d H (fun c H => ?_) (fun c H => ?_)
  conv => whnf
  injection H with H; subst H
  exact ret_fz [] (rtA_eq rfl)
  conv => whnf
  exact ⟨(k, true, 1000), [], ⟨H, lt_⟩, (fits_of ⟨.inl ⟨rfl, rfl⟩, ⟨.inl ⟨rfl, rfl⟩, trivial⟩⟩ trivial fi_ trivial rfl)⟩
  conv => whnf
  refine cut_ 400 [(1, .bp 0 0), (4, .bool false), (44, .int .i64 a0_1), (54, .bool (decide (a0_1 = 3)))] [(0, .box [.str a0_0, .int .i64 a0_1, .str a0_2, .str a0_3, .int .i64 a0_4, .int .i64 a0_5, .str a0_6, .str a0_7])] rfl ⟨.inl rfl, ⟨.inl rfl, ⟨.inl rfl, ⟨.inl rfl, trivial⟩⟩⟩⟩ ⟨rfl, trivial⟩ ?_
  conv => whnf
  refine br_d H (fun c H => ?_) (fun c H => ?_)
  conv => whnf
  exact ⟨(k, false, a0_5), [], ⟨H, lt_⟩, (fits_of ⟨.inl ⟨rfl, rfl⟩, ⟨.inl ⟨rfl, rfl⟩, trivial⟩⟩ trivial fi_ trivial rfl)⟩
  conv => whnf
  refine br_d H (fun c H => ?_) (fun c H => ?_)
  conv => whnf
  refine Br.t ft_ ?_
  conv => whnf
  exact ⟨(k, false, 0), [], ⟨H, lt_⟩, (fits_of ⟨.inl ⟨rfl, rfl⟩, ⟨.inl ⟨rfl, rfl⟩, trivial⟩⟩ trivial fi_ trivial rfl)⟩
  conv => whnf
  refine br_d H (fun c H => ?_) (fun c H => ?_)
  conv => whnf
  exact ⟨(k, false, 0), [], ⟨H, lt_⟩, (fits_of ⟨.inl ⟨rfl, rfl⟩, ⟨.inl ⟨rfl, rfl⟩, trivial⟩⟩ trivial fi_ trivial rfl)⟩
  conv => whnf
  injection H with H; subst H
  exact ret_fz [] (rtA_eq rfl)
  intro k x4 x3 hk H; rcases k with _ | k; exact none_elim H; rw [impl_RecPhaseOk.j0] at H; conv => whnf
  refine br_t H (fun c H => ?_) (fun c H => ?_)
  conv => whnf
  refine Br.t ft_ ?_
  conv => whnf
  refine Br.t ft_ ?_
  conv => whnf
  revert H; refine bind_elim (fun t258 A H => ?_)
  refine call_mk (impl_isName.ac A) (avAL_cons (avA_shut' rfl) (avAL_nil)) (Or.inl rfl) rfl rfl (Nat.le_of_ble_eq_true rfl) ?_
  conv => whnf
  refine Br.t ft_ ?_
  conv => whnf
  refine Br.t ft_ ?_
  conv => whnf
  refine br_nt H (fun c H => ?_) (fun c H => ?_)
  conv => whnf
  refine Br.f ff_ ?_
  conv => whnf
  refine Br.f ff_ ?_
  conv => whnf
  refine Br.f ff_ ?_
  conv => whnf
  refine Br.f ff_ ?_
  conv => whnf
  refine Br.f ff_ ?_
  conv => whnf
  refine Br.f ff_ ?_
  conv => whnf
  refine Br.f ff_ ?_
  conv => whnf
  refine Br.f ff_ ?_
  conv => whnf
  refine cut_ 464 [(1, .bp 0 0), (3, .int .i64 x3), (76, .bool false)] [(0, .box [.str a0_0, .int .i64 a0_1, .str a0_2, .str a0_3, .int .i64 a0_4, .int .i64 a0_5, .str a0_6, .str a0_7])] rfl ⟨.inl rfl, ⟨.inl rfl, ⟨.inl rfl, trivial⟩⟩⟩ ⟨rfl, trivial⟩ ?_
  conv => whnf
  refine Br.f rfl ?_
  conv => whnf
  refine br_d H (fun c H => ?_) (fun c H => ?_)
  conv => whnf
  refine Br.t ft_ ?_
  conv => whnf
  refine Br.t ft_ ?_
  conv => whnf
  refine Br.t ft_ ?_
  conv => whnf
  refine br_d H (fun c H => ?_) (fun c H => ?_)
  conv => whnf
  refine Br.t ft_ ?_
  conv => whnf
  refine Br.t ft_ ?_
  conv => whnf
  refine Br.t ft_ ?_
  conv => whnf
  refine Br.t ft_ ?_
  conv => whnf
  refine Br.t ft_ ?_
  conv => whnf
  refine Br.t ft_ ?_
  conv => whnf
  refine cut_ 616 [(2, .bool true)] [] rfl ⟨.inl rfl, trivial⟩ trivial ?_
  conv => whnf
  injection H with H; subst H
  exact ret_fz [] (rtA_eq rfl)
  conv => whnf
  refine Br.f ff_ ?_
  conv => whnf
  refine Br.f ff_ ?_
  conv => whnf
  refine br_d H (fun c H => ?_) (fun c H => ?_)
  conv => whnf
  refine Br.t ft_ ?_
  conv => whnf
  refine Br.t ft_ ?_
  conv => whnf
  refine Br.f ff_ ?_
  conv => whnf
  refine Br.t ft_ ?_
  conv => whnf
  refine Br.t ft_ ?_
  conv => whnf
  refine Br.f ff_ ?_
  conv => whnf
  refine Br.t ft_ ?_
  conv => whnf
  refine cut_ 616 [(2, .bool (decide (a0_4 = 0)))] [] rfl ⟨.inl rfl, trivial⟩ trivial ?_
  conv => whnf
  injection H with H; subst H
  exact ret_fz [] (rtA_eq rfl)
  conv => whnf
  refine Br.f ff_ ?_
  conv => whnf
  refine Br.f ff_ ?_
  conv => whnf
  refine Br.f ff_ ?_
  conv => whnf
  refine Br.f ff_ ?_
  conv => whnf
  refine Br.t ft_ ?_
  conv => whnf
  refine Br.f ff_ ?_
  conv => whnf
  refine Br.t ft_ ?_
  conv => whnf
  refine cut_ 616 [(2, .bool false)] [] rfl ⟨.inl rfl, trivial⟩ trivial ?_
  conv => whnf
  injection H with H; subst H
  exact ret_fz [] (rtA_eq rfl)
  conv => whnf
  refine Br.f ff_ ?_
  conv => whnf
  refine Br.f ff_ ?_
  conv => whnf
  refine Br.f ff_ ?_
  conv => whnf
  refine Br.f ff_ ?_
  conv => whnf
  refine Br.f ff_ ?_
  conv => whnf
  refine cut_ 616 [(2, .bool false)] [] rfl ⟨.inl rfl, trivial⟩ trivial ?_
  conv => whnf
  injection H with H; subst H
  exact ret_fz [] (rtA_eq rfl)
  conv => whnf
  refine Br.t ft_ ?_
  conv => whnf
  refine Br.t ft_ ?_
  conv => whnf
  refine Br.t ft_ ?_
  conv => whnf
  refine Br.t ft_ ?_
  conv => whnf
  refine cut_ 464 [(1, .bp 0 0), (3, .int .i64 x3), (76, .bool true)] [(0, .box [.str a0_0, .int .i64 a0_1, .str a0_2, .str a0_3, .int .i64 a0_4, .int .i64 a0_5, .str a0_6, .str a0_7])] rfl ⟨.inl rfl, ⟨.inl rfl, ⟨.inl rfl, trivial⟩⟩⟩ ⟨rfl, trivial⟩ ?_
  conv => whnf
  refine Br.t rfl ?_
  conv => whnf
  injection H with H; subst H
  exact ret_fz [] (rtA_eq rfl)
  conv => whnf
  refine Br.f ff_ ?_
  conv => whnf
  refine Br.f ff_ ?_
  conv => whnf
  refine Br.f ff_ ?_
  conv => whnf
  refine Br.f ff_ ?_
  conv => whnf
  refine Br.f rfl ?_
  conv => whnf
  refine Br.f rfl ?_
  conv => whnf
  refine Br.f rfl ?_
  conv => whnf
  refine Br.t ft_ ?_
  conv => whnf
  refine Br.t ft_ ?_
  conv => whnf
  refine Br.t ft_ ?_
  conv => whnf
  refine Br.f rfl ?_
  conv => whnf
  refine Br.t ft_ ?_
  conv => whnf
  refine Br.f rfl ?_
  conv => whnf
  refine cut_ 464 [(1, .bp 0 0), (3, .int .i64 x3), (76, .bool (!(decide (a0_3.toList = (⟨#[]⟩ : ByteArray).toList))))] [(0, .box [.str a0_0, .int .i64 a0_1, .str a0_2, .str a0_3, .int .i64 a0_4, .int .i64 a0_5, .str a0_6, .str a0_7])] rfl ⟨.inl rfl, ⟨.inl rfl, ⟨.inl rfl, trivial⟩⟩⟩ ⟨rfl, trivial⟩ ?_
  conv => whnf
  refine br_nd H (fun c H => ?_) (fun c H => ?_)
  conv => whnf
  refine br_d H (fun c H => ?_) (fun c H => ?_)
  conv => whnf
  refine Br.t ft_ ?_
  conv => whnf
  refine Br.t ft_ ?_
  conv => whnf
  refine Br.t ft_ ?_
  conv => whnf
  refine br_d H (fun c H => ?_) (fun c H => ?_)
  conv => whnf
  refine Br.t ft_ ?_
  conv => whnf
  refine Br.t ft_ ?_
  conv => whnf
  refine Br.t ft_ ?_
  conv => whnf
  refine Br.t ft_ ?_
  conv => whnf
  refine Br.t ft_ ?_
  conv => whnf
  refine Br.t ft_ ?_
  conv => whnf
  refine cut_ 616 [(2, .bool true)] [] rfl ⟨.inl rfl, trivial⟩ trivial ?_
  conv => whnf
  injection H with H; subst H
  exact ret_fz [] (rtA_eq rfl)
  conv => whnf
  refine Br.f ff_ ?_
  conv => whnf
  refine Br.f ff_ ?_
  conv => whnf
  refine br_d H (fun c H => ?_) (fun c H => ?_)
  conv => whnf
  refine Br.t ft_ ?_
  conv => whnf
  refine Br.t ft_ ?_
  conv => whnf
  refine Br.f ff_ ?_
  conv => whnf
  refine Br.t ft_ ?_
  conv => whnf
  refine Br.t ft_ ?_
  conv => whnf
  refine Br.f ff_ ?_
  conv => whnf
  refine Br.t ft_ ?_
  conv => whnf
  refine cut_ 616 [(2, .bool (decide (a0_4 = 0)))] [] rfl ⟨.inl rfl, trivial⟩ trivial ?_
  conv => whnf
  injection H with H; subst H
  exact ret_fz [] (rtA_eq rfl)
  conv => whnf
  refine Br.f ff_ ?_
  conv => whnf
  refine Br.f ff_ ?_
  conv => whnf
  refine Br.f ff_ ?_
  conv => whnf
  refine Br.f ff_ ?_
  conv => whnf
  refine Br.t ft_ ?_
  conv => whnf
  refine Br.f ff_ ?_
  conv => whnf
  refine Br.t ft_ ?_
  conv => whnf
  refine cut_ 616 [(2, .bool false)] [] rfl ⟨.inl rfl, trivial⟩ trivial ?_
  conv => whnf
  injection H with H; subst H
  exact ret_fz [] (rtA_eq rfl)
  conv => whnf
  refine Br.f ff_ ?_
  conv => whnf
  refine Br.f ff_ ?_
  conv => whnf
  refine Br.f ff_ ?_
  conv => whnf
  refine Br.f ff_ ?_
  conv => whnf
  refine Br.f ff_ ?_
  conv => whnf
  refine cut_ 616 [(2, .bool false)] [] rfl ⟨.inl rfl, trivial⟩ trivial ?_
  conv => whnf
  injection H with H; subst H
  exact ret_fz [] (rtA_eq rfl)
  conv => whnf
  injection H with H; subst H
  exact ret_fz [] (rtA_eq rfl)
  conv => whnf
  refine cut_ 328 [(2, .bool false)] [] rfl ⟨.inl rfl, trivial⟩ trivial ?_
  conv => whnf
  injection H with H; subst H
  exact ret_fz [] (rtA_eq rfl)
  conv => whnf
  refine Br.t ft_ ?_
  conv => whnf
  refine Br.t ft_ ?_
  conv => whnf
  refine Br.t ft_ ?_
  conv => whnf
  refine Br.t ft_ ?_
  conv => whnf
  refine cut_ 320 [(1, .bp 0 0), (42, .bool true)] [(0, .box [.str a0_0, .int .i64 a0_1, .str a0_2, .str a0_3, .int .i64 a0_4, .int .i64 a0_5, .str a0_6, .str a0_7])] rfl ⟨.inl rfl, ⟨.inl rfl, trivial⟩⟩ ⟨rfl, trivial⟩ ?_
  conv => whnf
  refine Br.t rfl ?_
  conv => whnf
  refine cut_ 328 [(2, .bool false)] [] rfl ⟨.inl rfl, trivial⟩ trivial ?_
  conv => whnf
  injection H with H; subst H
  exact ret_fz [] (rtA_eq rfl)
  conv => whnf
  refine Br.t ft_ ?_
  conv => whnf
  refine Br.t ft_ ?_
  conv => whnf
  refine Br.t ft_ ?_
  conv => whnf
  refine Br.t ft_ ?_
  conv => whnf
  refine Br.t rfl ?_
  conv => whnf
  refine Br.t rfl ?_
  conv => whnf
  refine Br.t rfl ?_
  conv => whnf
  refine Br.t rfl ?_
  conv => whnf
  refine Br.t rfl ?_
  conv => whnf
  refine cut_ 320 [(1, .bp 0 0), (42, .bool true)] [(0, .box [.str a0_0, .int .i64 a0_1, .str a0_2, .str a0_3, .int .i64 a0_4, .int .i64 a0_5, .str a0_6, .str a0_7])] rfl ⟨.inl rfl, ⟨.inl rfl, trivial⟩⟩ ⟨rfl, trivial⟩ ?_
  conv => whnf
  refine Br.t rfl ?_
  conv => whnf
  refine cut_ 328 [(2, .bool false)] [] rfl ⟨.inl rfl, trivial⟩ trivial ?_
  conv => whnf
  injection H with H; subst H
  exact ret_fz [] (rtA_eq rfl)
  conv => whnf
  refine Br.t ft_ ?_
  conv => whnf
  refine Br.t ft_ ?_
  conv => whnf
  refine Br.t ft_ ?_
  conv => whnf
  refine Br.t rfl ?_
  conv => whnf
  refine Br.t rfl ?_
  conv => whnf
  refine Br.t rfl ?_
  conv => whnf
  refine Br.t rfl ?_
  conv => whnf
  refine Br.t rfl ?_
  conv => whnf
  refine Br.t rfl ?_
  conv => whnf
  refine Br.t rfl ?_
  conv => whnf
  refine Br.t rfl ?_
  conv => whnf
  refine Br.t rfl ?_
  conv => whnf
  refine Br.t rfl ?_
  conv => whnf
  refine Br.t rfl ?_
  conv => whnf
  refine Br.t rfl ?_
  conv => whnf
  refine Br.t rfl ?_
  conv => whnf
  refine Br.t rfl ?_
  conv => whnf
  refine Br.t rfl ?_
  conv => whnf
  refine Br.t rfl ?_
  conv => whnf
  refine Br.t rfl ?_
  conv => whnf
  refine Br.t rfl ?_
  conv => whnf
  refine Br.t rfl ?_
  conv => whnf
  refine cut_ 320 [(1, .bp 0 0), (42, .bool true)] [(0, .box [.str a0_0, .int .i64 a0_1, .str a0_2, .str a0_3, .int .i64 a0_4, .int .i64 a0_5, .str a0_6, .str a0_7])] rfl ⟨.inl rfl, ⟨.inl rfl, trivial⟩⟩ ⟨rfl, trivial⟩ ?_
  conv => whnf
  refine Br.t rfl ?_
  conv => whnf
  refine cut_ 328 [(2, .bool false)] [] rfl ⟨.inl rfl, trivial⟩ trivial ?_
  conv => whnf
  injection H with H; subst H
  exact ret_fz [] (rtA_eq rfl)
  conv => whnf
  refine Br.t ft_ ?_
  conv => whnf
  refine Br.t ft_ ?_
  conv => whnf
  refine Br.t ft_ ?_
  conv => whnf
  refine Br.t ft_ ?_
  conv => whnf
  refine Br.t rfl ?_
  conv => whnf
  refine Br.t rfl ?_
  conv => whnf
  refine Br.t rfl ?_
  conv => whnf
  refine Br.t rfl ?_
  conv => whnf
  refine Br.t rfl ?_
  conv => whnf
  refine Br.t rfl ?_
  conv => whnf
  refine Br.t rfl ?_
  conv => whnf
  refine Br.t rfl ?_
  conv => whnf
  refine Br.t rfl ?_
  conv => whnf
  refine Br.t rfl ?_
  conv => whnf
  refine Br.t rfl ?_
  conv => whnf
  refine Br.t rfl ?_
  conv => whnf
  refine Br.t rfl ?_
  conv => whnf
  refine Br.t rfl ?_
  conv => whnf
  refine Br.t rfl ?_
  conv => whnf
  refine Br.t rfl ?_
  conv => whnf
  refine Br.t rfl ?_
  conv => whnf
  refine Br.t rfl ?_
  conv => whnf
  refine Br.t rfl ?_
  conv => whnf
  refine Br.t rfl ?_
  conv => whnf
  refine Br.t rfl ?_
  conv => whnf
  refine Br.t rfl ?_
  conv => whnf
  refine Br.t rfl ?_
  conv => whnf
  refine cut_ 320 [(1, .bp 0 0), (42, .bool true)] [(0, .box [.str a0_0, .int .i64 a0_1, .str a0_2, .str a0_3, .int .i64 a0_4, .int .i64 a0_5, .str a0_6, .str a0_7])] rfl ⟨.inl rfl, ⟨.inl rfl, trivial⟩⟩ ⟨rfl, trivial⟩ ?_
  conv => whnf
  refine Br.t rfl ?_
  conv => whnf
  refine cut_ 328 [(2, .bool false)] [] rfl ⟨.inl rfl, trivial⟩ trivial ?_
  conv => whnf
  injection H with H; subst H
  exact ret_fz [] (rtA_eq rfl)
theorem impl_phase.l0_lp {F : (Exit → St → Prop) → St → Prop} {hv : List Tmp} {Q : Exit → St → Prop} {σ : St} {r : Int} {k : Nat} {l0 : List S_impl_RecPhase} {a1 : ByteArray} {x9 : Int} (H : impl_phase.l0 k l0 a1 x9 = some r) (rn : List (Option Nat)) (h1 : Fits σ σ [] [(9, .int .i64 x9)] [] [] rn)
    (h2 : ∀ (k0 : Nat) (x9 : Int), k0 < k + 1 → impl_phase.l0 k0 l0 a1 x9 = some r → headN σ hv [] [(9, .int .i64 x9)] [] [] (F (fun e σ' => match e with | .normal => ∃ (y : Nat × Int) (rn : List (Option Nat)), (impl_phase.l0 y.1 l0 a1 y.2 = some r ∧ y.1 < k + 1) ∧ y.1 < k0 ∧ Fits σ σ' [] [(9, .int .i64 y.2)] [] [] rn | e => Q e σ'))) : Lp F hv Q σ := by
  unfold Lp
  refine ⟨Nat × Int, fun x => impl_phase.l0 x.1 l0 a1 x.2 = some r ∧ x.1 < k + 1, fun x => x.1, [], fun x => [(9, .int .i64 x.2)], fun x => [], fun x => [], ⟨(k, x9), rn, ⟨H, Nat.lt_succ_self _⟩, h1⟩, ?_⟩
  rintro ⟨k, x9⟩ ⟨H, hk⟩
  exact h2 k x9 hk H
theorem impl_phase.ac {k : Nat} {l0 : List S_impl_RecPhase} {a1 : ByteArray} {r : Int} (H : impl_phase.f k l0 a1 = some r) : ACalls Tryd.prog G 71 [] [(sv_S_impl_RecPhase l0), .str a1] [] (.int .i64 r) := by
  refine acalls_of tok hP Tryd.func71 rfl (by kernel_rfl) [.tmp 4] rfl (by kernel_rfl) (Nat.le_of_ble_eq_true rfl) (.l .n (.l (.l .n (.l .n (.l .n (.l (.c .n .n) .n)))) .n)) rfl ?_
  unfold impl_phase.f at H
  conv => whnf
  refine impl_phase.l0_lp (l0 := l0) (a1 := a1) (k := k) H [] (fits_of ⟨.inl ⟨rfl, rfl⟩, trivial⟩ trivial fi_ trivial rfl) ?_
  intro k x9 hk H; rcases k with _ | k; exact none_elim H; rw [impl_phase.l0] at H; conv => whnf
  refine br_d H (fun c H => ?_) (fun c H => ?_)
  conv => whnf
  refine nd_ H (fun c H => ?_)
  conv => whnf
  refine Nd.mk nf_ ?_
  conv => whnf
  refine El.mk (rdm_en_S_impl_RecPhase _ _ nf_ nf_) ?_
  conv => whnf
  refine cut_ 88 [(1, .str a1), (5, .int .i64 x9), (6, .bp 64 0), (7, (sv_S_impl_RecPhase l0)), (8, .int .i64 (l0.length : Int)), (9, .int .i64 x9)] [(64, .box [.str ((rd_impl_RecPhase l0 x9).f0), .int .i64 ((rd_impl_RecPhase l0 x9).f1), .str ((rd_impl_RecPhase l0 x9).f2), .str ((rd_impl_RecPhase l0 x9).f3), .int .i64 ((rd_impl_RecPhase l0 x9).f4), .int .i64 ((rd_impl_RecPhase l0 x9).f5), .str ((rd_impl_RecPhase l0 x9).f6), .str ((rd_impl_RecPhase l0 x9).f7)])] rfl ⟨.inl rfl, ⟨.inl rfl, ⟨.inl rfl, ⟨.inl rfl, ⟨.inl rfl, ⟨.inl rfl, trivial⟩⟩⟩⟩⟩⟩ ⟨rfl, trivial⟩ ?_
  conv => whnf
  refine br_d H (fun c H => ?_) (fun c H => ?_)
  conv => whnf
  injection H with H; subst H
  exact ret_fz [] (rtA_eq rfl)
  conv => whnf
  exact ⟨(k, wrap64 (x9 + 1)), [], ⟨H, lt_⟩, lt_, (fits_of ⟨.inl ⟨rfl, rfl⟩, trivial⟩ trivial fi_ trivial rfl)⟩
  conv => whnf
  injection H with H; subst H
  exact ret_fz [] (rtA_eq rfl)
theorem impl_RecOk.l2_lp {F : (Exit → St → Prop) → St → Prop} {hv : List Tmp} {Q : Exit → St → Prop} {σ : St} {r : Bool} {k : Nat} {l0 : List S_impl_RecPhase} {x38 : Int} {x47 : List ByteArray} {x49 : Int} (H : impl_RecOk.l2 k l0 x38 x47 x49 = some r) (rn : List (Option Nat)) (h1 : Fits σ σ [160, 216] [(47, .own 0 x47.length), (49, .int .i64 x49)] [] [.arr 9 1 (x47.map en_str)] rn)
    (h2 : ∀ (k0 : Nat) (x47 : List ByteArray) (x49 : Int), k0 < k + 1 → impl_RecOk.l2 k0 l0 x38 x47 x49 = some r → headN σ hv [160, 216] [(47, .own 0 x47.length), (49, .int .i64 x49)] [] [.arr 9 1 (x47.map en_str)] (F (fun e σ' => match e with | .normal => ∃ (y : Nat × (List ByteArray) × Int) (rn : List (Option Nat)), (impl_RecOk.l2 y.1 l0 x38 y.2.1 y.2.2 = some r ∧ y.1 < k + 1) ∧ y.1 < k0 ∧ Fits σ σ' [160, 216] [(47, .own 0 y.2.1.length), (49, .int .i64 y.2.2)] [] [.arr 9 1 (y.2.1.map en_str)] rn | e => Q e σ'))) : Lp F hv Q σ := by
  unfold Lp
  refine ⟨Nat × (List ByteArray) × Int, fun x => impl_RecOk.l2 x.1 l0 x38 x.2.1 x.2.2 = some r ∧ x.1 < k + 1, fun x => x.1, [160, 216], fun x => [(47, .own 0 x.2.1.length), (49, .int .i64 x.2.2)], fun x => [], fun x => [.arr 9 1 (x.2.1.map en_str)], ⟨(k, x47, x49), rn, ⟨H, Nat.lt_succ_self _⟩, h1⟩, ?_⟩
  rintro ⟨k, x47, x49⟩ ⟨H, hk⟩
  exact h2 k x47 x49 hk H
theorem impl_RecOk.l1_lp {F : (Exit → St → Prop) → St → Prop} {hv : List Tmp} {Q : Exit → St → Prop} {σ : St} {r : Bool} {k : Nat} {l0 : List S_impl_RecPhase} {x38 : Int} (H : impl_RecOk.l1 k l0 x38 = some r) (rn : List (Option Nat)) (h1 : Fits σ σ [] [(38, .int .i64 x38)] [] [] rn)
    (h2 : ∀ (k0 : Nat) (x38 : Int), k0 < k + 1 → impl_RecOk.l1 k0 l0 x38 = some r → headN σ hv [] [(38, .int .i64 x38)] [] [] (F (fun e σ' => match e with | .normal => ∃ (y : Nat × Int) (rn : List (Option Nat)), (impl_RecOk.l1 y.1 l0 y.2 = some r ∧ y.1 < k + 1) ∧ y.1 < k0 ∧ Fits σ σ' [] [(38, .int .i64 y.2)] [] [] rn | e => Q e σ'))) : Lp F hv Q σ := by
  unfold Lp
  refine ⟨Nat × Int, fun x => impl_RecOk.l1 x.1 l0 x.2 = some r ∧ x.1 < k + 1, fun x => x.1, [], fun x => [(38, .int .i64 x.2)], fun x => [], fun x => [], ⟨(k, x38), rn, ⟨H, Nat.lt_succ_self _⟩, h1⟩, ?_⟩
  rintro ⟨k, x38⟩ ⟨H, hk⟩
  exact h2 k x38 hk H
theorem impl_RecOk.l0_lp {F : (Exit → St → Prop) → St → Prop} {hv : List Tmp} {Q : Exit → St → Prop} {σ : St} {r : Bool} {k : Nat} {l0 : List S_impl_RecPhase} {x19 : Int} (H : impl_RecOk.l0 k l0 x19 = some r) (rn : List (Option Nat)) (h1 : Fits σ σ [] [(19, .int .i64 x19)] [] [] rn)
    (h2 : ∀ (k0 : Nat) (x19 : Int), k0 < k + 1 → impl_RecOk.l0 k0 l0 x19 = some r → headN σ hv [] [(19, .int .i64 x19)] [] [] (F (fun e σ' => match e with | .normal => ∃ (y : Nat × Int) (rn : List (Option Nat)), (impl_RecOk.l0 y.1 l0 y.2 = some r ∧ y.1 < k + 1) ∧ y.1 < k0 ∧ Fits σ σ' [] [(19, .int .i64 y.2)] [] [] rn | e => Q e σ'))) : Lp F hv Q σ := by
  unfold Lp
  refine ⟨Nat × Int, fun x => impl_RecOk.l0 x.1 l0 x.2 = some r ∧ x.1 < k + 1, fun x => x.1, [], fun x => [(19, .int .i64 x.2)], fun x => [], fun x => [], ⟨(k, x19), rn, ⟨H, Nat.lt_succ_self _⟩, h1⟩, ?_⟩
  rintro ⟨k, x19⟩ ⟨H, hk⟩
  exact h2 k x19 hk H
theorem impl_RecOk.ac {k : Nat} {l0 : List S_impl_RecPhase} {r : Bool} (H : impl_RecOk.f k l0 = some r) : ACalls Tryd.prog G 33 [] [(sv_S_impl_RecPhase l0)] [] (.bool r) := by
  refine acalls_of tok hP Tryd.func33 rfl (by kernel_rfl) [.tmp 2] rfl (by kernel_rfl) (Nat.le_of_ble_eq_true rfl) (.l .n (.l (.l .n (.l (.c .n .n) .n)) (.l (.c .n (.l .n (.l .n (.l (.l .n (.c .n (.l (.c .n .n) .n))) .n)))) (.l (.l .n (.l .n (.l .n (.l (.c .n (.l .n (.l .n (.l .n (.l (.c .n (.c .n (.l (.c .n .n) .n))) .n))))) .n)))) .n)))) rfl ?_
  unfold impl_RecOk.f at H
  conv => whnf
  refine br_d H (fun c H => ?_) (fun c H => ?_)
  conv => whnf
  refine Br.t ft_ ?_
  conv => whnf
  refine Br.t ft_ ?_
  conv => whnf
  refine Br.t ft_ ?_
  conv => whnf
  refine Br.t rfl ?_
  conv => whnf
  refine cut_ 80 [(2, .bool false)] [] rfl ⟨.inl rfl, trivial⟩ trivial ?_
  conv => whnf
  injection H with H; subst H
  exact ret_fz [] (rtA_eq rfl)
  conv => whnf
  refine Br.f ff_ ?_
  conv => whnf
  refine Br.f ff_ ?_
  conv => whnf
  refine Br.f ff_ ?_
  conv => whnf
  refine br_d H (fun c H => ?_) (fun c H => ?_)
  conv => whnf
  refine cut_ 80 [(2, .bool false)] [] rfl ⟨.inl rfl, trivial⟩ trivial ?_
  conv => whnf
  injection H with H; subst H
  exact ret_fz [] (rtA_eq rfl)
  conv => whnf
  refine cut_ 96 [(0, (sv_S_impl_RecPhase l0)), (17, (sv_S_impl_RecPhase l0)), (18, .int .i64 (l0.length : Int)), (19, .int .i64 0)] [] rfl ⟨.inl rfl, ⟨.inl rfl, ⟨.inl rfl, ⟨.inl rfl, trivial⟩⟩⟩⟩ trivial ?_
  conv => whnf
  refine impl_RecOk.l0_lp (l0 := l0) (k := k) H [] (fits_of ⟨.inl ⟨rfl, rfl⟩, trivial⟩ trivial fi_ trivial rfl) ?_
  intro k x19 hk H; rcases k with _ | k; exact none_elim H; rw [impl_RecOk.l0] at H; conv => whnf
  refine br_d H (fun c H => ?_) (fun c H => ?_)
  conv => whnf
  refine nd_ H (fun c H => ?_)
  conv => whnf
  refine Nd.mk nf_ ?_
  conv => whnf
  refine El.mk (rdm_en_S_impl_RecPhase _ _ nf_ nf_) ?_
  conv => whnf
  revert H; refine bind_elim (fun t274 A H => ?_)
  refine call_mk (impl_RecPhaseOk.ac A) (avAL_cons (avA_agg (avL_cons (av_shut' rfl) (avL_cons (av_shut' rfl) (avL_cons (av_shut' rfl) (avL_cons (av_shut' rfl) (avL_cons (av_shut' rfl) (avL_cons (av_shut' rfl) (avL_cons (av_shut' rfl) (avL_cons (av_shut' rfl) (avL_nil)))))))))) (avAL_nil)) (Or.inl rfl) rfl rfl (Nat.le_of_ble_eq_true rfl) ?_
  conv => whnf
  refine br_nt H (fun c H => ?_) (fun c H => ?_)
  conv => whnf
  refine Br.f ff_ ?_
  conv => whnf
  refine Br.f ff_ ?_
  conv => whnf
  refine Br.f ff_ ?_
  conv => whnf
  revert H; refine bind_elim (fun t275 A H => ?_)
  refine call_mk (impl_phase.ac A) (avAL_cons (avA_shut' rfl) (avAL_cons (avA_shut' rfl) (avAL_nil))) (Or.inl rfl) rfl rfl (Nat.le_of_ble_eq_true rfl) ?_
  conv => whnf
  refine Br.f ff_ ?_
  conv => whnf
  refine Br.f ff_ ?_
  conv => whnf
  refine Br.f ff_ ?_
  conv => whnf
  refine cut_ 240 [(0, (sv_S_impl_RecPhase l0)), (17, (sv_S_impl_RecPhase l0)), (18, .int .i64 (l0.length : Int)), (19, .int .i64 x19), (34, .bool (!(decide (t275 = x19))))] [] rfl ⟨.inl rfl, ⟨.inl rfl, ⟨.inl rfl, ⟨.inl rfl, ⟨.inl rfl, trivial⟩⟩⟩⟩⟩ trivial ?_
  conv => whnf
  refine br_nd H (fun c H => ?_) (fun c H => ?_)
  conv => whnf
  exact ⟨(k, wrap64 (x19 + 1)), [], ⟨H, lt_⟩, lt_, (fits_of ⟨.inl ⟨rfl, rfl⟩, trivial⟩ trivial fi_ trivial rfl)⟩
  conv => whnf
  refine cut_ 248 [(2, .bool false)] [] rfl ⟨.inl rfl, trivial⟩ trivial ?_
  conv => whnf
  injection H with H; subst H
  exact ret_fz [] (rtA_eq rfl)
  conv => whnf
  refine Br.t ft_ ?_
  conv => whnf
  refine Br.t ft_ ?_
  conv => whnf
  refine Br.t ft_ ?_
  conv => whnf
  refine Br.t ft_ ?_
  conv => whnf
  refine Br.t ft_ ?_
  conv => whnf
  refine Br.t ft_ ?_
  conv => whnf
  refine cut_ 240 [(0, (sv_S_impl_RecPhase l0)), (17, (sv_S_impl_RecPhase l0)), (18, .int .i64 (l0.length : Int)), (19, .int .i64 x19), (34, .bool true)] [] rfl ⟨.inl rfl, ⟨.inl rfl, ⟨.inl rfl, ⟨.inl rfl, ⟨.inl rfl, trivial⟩⟩⟩⟩⟩ trivial ?_
  conv => whnf
  refine Br.t rfl ?_
  conv => whnf
  refine cut_ 248 [(2, .bool false)] [] rfl ⟨.inl rfl, trivial⟩ trivial ?_
  conv => whnf
  injection H with H; subst H
  exact ret_fz [] (rtA_eq rfl)
  conv => whnf
  refine impl_RecOk.l1_lp (l0 := l0) (k := k) H [] (fits_of ⟨.inl ⟨rfl, rfl⟩, trivial⟩ trivial fi_ trivial rfl) ?_
  intro k x38 hk H; rcases k with _ | k; exact none_elim H; rw [impl_RecOk.l1] at H; conv => whnf
  refine br_d H (fun c H => ?_) (fun c H => ?_)
  conv => whnf
  refine nd_ H (fun c H => ?_)
  conv => whnf
  refine Nd.mk nf_ ?_
  conv => whnf
  refine El.mk (rdm_en_S_impl_RecPhase _ _ nf_ nf_) ?_
  conv => whnf
  refine cut_ 184 [(0, (sv_S_impl_RecPhase l0)), (5, .int .i64 x38), (6, .bp 160 0), (36, (sv_S_impl_RecPhase l0)), (37, .int .i64 (l0.length : Int)), (38, .int .i64 x38)] [(160, .box [.str ((rd_impl_RecPhase l0 x38).f0), .int .i64 ((rd_impl_RecPhase l0 x38).f1), .str ((rd_impl_RecPhase l0 x38).f2), .str ((rd_impl_RecPhase l0 x38).f3), .int .i64 ((rd_impl_RecPhase l0 x38).f4), .int .i64 ((rd_impl_RecPhase l0 x38).f5), .str ((rd_impl_RecPhase l0 x38).f6), .str ((rd_impl_RecPhase l0 x38).f7)])] rfl ⟨.inl rfl, ⟨.inl rfl, ⟨.inl rfl, ⟨.inl rfl, ⟨.inl rfl, ⟨.inl rfl, trivial⟩⟩⟩⟩⟩⟩ ⟨rfl, trivial⟩ ?_
  conv => whnf
  refine Or.inl ?_
  conv => whnf
  refine impl_RecOk.l2_lp (l0 := l0) (x38 := x38) (k := k) H [some 216] (fits_of ⟨mt_own lm_, ⟨.inl ⟨rfl, rfl⟩, trivial⟩⟩ ⟨fm_, trivial⟩ fi_ trivial rfl) ?_
  intro k x47 x49 hk H; rcases k with _ | k; exact none_elim H; rw [impl_RecOk.l2] at H; conv => whnf
  refine br_d H (fun c H => ?_) (fun c H => ?_)
  conv => whnf
  refine nd_ H (fun c H => ?_)
  conv => whnf
  refine nd_ H (fun c H => ?_)
  conv => whnf
  refine El.mk (rdm_en_str _ _ nf_ nf_) ?_
  conv => whnf
  refine cut_ 273 [(0, (sv_S_impl_RecPhase l0)), (5, .int .i64 x38), (8, .str (rdOf ByteArray.empty x47 x49)), (36, (sv_S_impl_RecPhase l0)), (37, .int .i64 (l0.length : Int)), (38, .int .i64 x38), (47, .own 240 x47.length), (48, .int .i64 2), (49, .int .i64 x49)] [(240, .arr 9 1 (x47.map en_str))] rfl ⟨.inl rfl, ⟨.inl rfl, ⟨.inl rfl, ⟨.inl rfl, ⟨.inl rfl, ⟨.inl rfl, ⟨.inl rfl, ⟨.inl rfl, ⟨.inl rfl, trivial⟩⟩⟩⟩⟩⟩⟩⟩⟩ ⟨rfl, trivial⟩ ?_
  conv => whnf
  revert H; refine bind_elim (fun t296 A H => ?_)
  refine call_mk (impl_RecEnd.ac A) (avAL_cons (avA_shut' rfl) (avAL_nil)) (Or.inl rfl) rfl rfl (Nat.le_of_ble_eq_true rfl) ?_
  conv => whnf
  refine br_d H (fun c H => ?_) (fun c H => ?_)
  conv => whnf
  refine Br.t ft_ ?_
  conv => whnf
  refine Br.t ft_ ?_
  conv => whnf
  revert H; refine bind_elim (fun t297 A H => ?_)
  refine call_mk (impl_phase.ac A) (avAL_cons (avA_shut' rfl) (avAL_cons (avA_shut' rfl) (avAL_nil))) (Or.inl rfl) rfl rfl (Nat.le_of_ble_eq_true rfl) ?_
  conv => whnf
  refine Br.t ft_ ?_
  conv => whnf
  refine Br.t ft_ ?_
  conv => whnf
  refine Br.t ft_ ?_
  conv => whnf
  refine cut_ 353 [(0, (sv_S_impl_RecPhase l0)), (5, .int .i64 x38), (36, (sv_S_impl_RecPhase l0)), (37, .int .i64 (l0.length : Int)), (38, .int .i64 x38), (47, .own 240 x47.length), (48, .int .i64 2), (49, .int .i64 x49), (62, .bool (decide (t297 ≤ x38)))] [(240, .arr 9 1 (x47.map en_str))] rfl ⟨.inl rfl, ⟨.inl rfl, ⟨.inl rfl, ⟨.inl rfl, ⟨.inl rfl, ⟨.inl rfl, ⟨.inl rfl, ⟨.inl rfl, ⟨.inl rfl, trivial⟩⟩⟩⟩⟩⟩⟩⟩⟩ ⟨rfl, trivial⟩ ?_
  conv => whnf
  refine br_d H (fun c H => ?_) (fun c H => ?_)
  conv => whnf
  refine cut_ 361 [(2, .bool false)] [] rfl ⟨.inl rfl, trivial⟩ trivial ?_
  conv => whnf
  injection H with H; subst H
  exact ret_fz [] (rtA_eq rfl)
  conv => whnf
  exact ⟨(k, x47, wrap64 (x49 + 1)), [some 240], ⟨H, lt_⟩, lt_, (fits_of ⟨rfl, ⟨.inl ⟨rfl, rfl⟩, trivial⟩⟩ ⟨rfl, trivial⟩ fi_ trivial rfl)⟩
  conv => whnf
  refine Br.f ff_ ?_
  conv => whnf
  refine Br.f ff_ ?_
  conv => whnf
  refine Br.f ff_ ?_
  conv => whnf
  refine Br.f ff_ ?_
  conv => whnf
  refine Br.f ff_ ?_
  conv => whnf
  refine cut_ 353 [(0, (sv_S_impl_RecPhase l0)), (5, .int .i64 x38), (36, (sv_S_impl_RecPhase l0)), (37, .int .i64 (l0.length : Int)), (38, .int .i64 x38), (47, .own 240 x47.length), (48, .int .i64 2), (49, .int .i64 x49), (62, .bool false)] [(240, .arr 9 1 (x47.map en_str))] rfl ⟨.inl rfl, ⟨.inl rfl, ⟨.inl rfl, ⟨.inl rfl, ⟨.inl rfl, ⟨.inl rfl, ⟨.inl rfl, ⟨.inl rfl, ⟨.inl rfl, trivial⟩⟩⟩⟩⟩⟩⟩⟩⟩ ⟨rfl, trivial⟩ ?_
  conv => whnf
  refine Br.f rfl ?_
  conv => whnf
  exact ⟨(k, x47, wrap64 (x49 + 1)), [some 240], ⟨H, lt_⟩, lt_, (fits_of ⟨rfl, ⟨.inl ⟨rfl, rfl⟩, trivial⟩⟩ ⟨rfl, trivial⟩ fi_ trivial rfl)⟩
  conv => whnf
  exact ⟨(k, wrap64 (x38 + 1)), [], ⟨H, lt_⟩, lt_, (fits_of ⟨.inl ⟨rfl, rfl⟩, trivial⟩ trivial fi_ trivial rfl)⟩
  conv => whnf
  injection H with H; subst H
  exact ret_fz [] (rtA_eq rfl)
end Go.Proofs.YteflhnpcgoijfaaDoor.RP
namespace Go.Proofs
open Go.Shelf Go.Sort Go.RowKit in
shelf_lay LaysM.n171 Nm 171 at Tryd as Tryd.gx171
end Go.Proofs
namespace Go.Proofs.YteflhnpcgoijfaaDoor.RP
open Go Go.Aw Go.RowKit Go.Proofs
set_option maxRecDepth 100000
set_option maxHeartbeats 40000000
variable {G : Nat → Option Obj}
attribute [local irreducible] callE Lp Sq Cut RetOk Fits
/-- what the package variables hold -/
class GvOk (G : Nat → Option Obj) : Prop where
  t : GArr G 1 (Lib.pow10Tab.map fun z => Value.int .u64 z).toArray
theorem strconv_Itoa.ac [GvOk G] {x0 : Int} {r : ByteArray} (H : strconv_Itoa.f x0 = some r) : ACalls Tryd.prog G 48 [] [.int .i64 x0] [] (.str r) := by
  exact itoaS_ac Tryd.gx171 ⟨_, Tryd.func48, by kernel_rfl, by kernel_rfl⟩ GvOk.t rfl (by kernel_rfl) H
theorem impl_RecPrint.j0_sq {F : (Exit → St → Prop) → St → Prop} {hv : List Tmp} {K : St → Prop} {Q : Exit → St → Prop} {σ : St} {r : ByteArray} {KK : Nat} {l0 : List S_impl_RecPhase} {x11 : Int}
    (h1 : F (fun e σ' => match e with | .normal => ∃ (y : Nat × ByteArray) (rn : List (Option Nat)), (impl_RecPrint.j0 y.1 l0 y.2 x11 = some r ∧ y.1 < KK) ∧ Fits σ σ' [] [(3, .str y.2)] [] [] rn | e => Q e σ') σ)
    (h2 : ∀ (k : Nat) (x3_1 : ByteArray), k < KK → impl_RecPrint.j0 k l0 x3_1 x11 = some r → headN σ hv [] [(3, .str x3_1)] [] [] K) : Sq F hv K Q σ := by
  unfold Sq
  refine ⟨Nat × ByteArray, fun x => impl_RecPrint.j0 x.1 l0 x.2 x11 = some r ∧ x.1 < KK, [], fun x => [(3, .str x.2)], fun x => [], fun x => [], h1, ?_⟩
  rintro ⟨k, x3_1⟩ ⟨H, hk⟩
  exact h2 k x3_1 hk H
theorem impl_RecPrint.j1_sq {F : (Exit → St → Prop) → St → Prop} {hv : List Tmp} {K : St → Prop} {Q : Exit → St → Prop} {σ : St} {r : ByteArray} {KK : Nat} {l0 : List S_impl_RecPhase} {x11 : Int}
    (h1 : F (fun e σ' => match e with | .normal => ∃ (y : Nat × ByteArray) (rn : List (Option Nat)), (impl_RecPrint.j1 y.1 l0 y.2 x11 = some r ∧ y.1 < KK) ∧ Fits σ σ' [] [(3, .str y.2)] [] [] rn | e => Q e σ') σ)
    (h2 : ∀ (k : Nat) (x3_3 : ByteArray), k < KK → impl_RecPrint.j1 k l0 x3_3 x11 = some r → headN σ hv [] [(3, .str x3_3)] [] [] K) : Sq F hv K Q σ := by
  unfold Sq
  refine ⟨Nat × ByteArray, fun x => impl_RecPrint.j1 x.1 l0 x.2 x11 = some r ∧ x.1 < KK, [], fun x => [(3, .str x.2)], fun x => [], fun x => [], h1, ?_⟩
  rintro ⟨k, x3_3⟩ ⟨H, hk⟩
  exact h2 k x3_3 hk H
theorem impl_RecPrint.j2_sq {F : (Exit → St → Prop) → St → Prop} {hv : List Tmp} {K : St → Prop} {Q : Exit → St → Prop} {σ : St} {r : ByteArray} {KK : Nat} {l0 : List S_impl_RecPhase} {x11 : Int}
    (h1 : F (fun e σ' => match e with | .normal => ∃ (y : Nat × ByteArray) (rn : List (Option Nat)), (impl_RecPrint.j2 y.1 l0 y.2 x11 = some r ∧ y.1 < KK) ∧ Fits σ σ' [] [(3, .str y.2)] [] [] rn | e => Q e σ') σ)
    (h2 : ∀ (k : Nat) (x3_2 : ByteArray), k < KK → impl_RecPrint.j2 k l0 x3_2 x11 = some r → headN σ hv [] [(3, .str x3_2)] [] [] K) : Sq F hv K Q σ := by
  unfold Sq
  refine ⟨Nat × ByteArray, fun x => impl_RecPrint.j2 x.1 l0 x.2 x11 = some r ∧ x.1 < KK, [], fun x => [(3, .str x.2)], fun x => [], fun x => [], h1, ?_⟩
  rintro ⟨k, x3_2⟩ ⟨H, hk⟩
  exact h2 k x3_2 hk H
theorem impl_RecPrint.l0_lp {F : (Exit → St → Prop) → St → Prop} {hv : List Tmp} {Q : Exit → St → Prop} {σ : St} {r : ByteArray} {k : Nat} {l0 : List S_impl_RecPhase} {x3 : ByteArray} {x11 : Int} (H : impl_RecPrint.l0 k l0 x3 x11 = some r) (rn : List (Option Nat)) (h1 : Fits σ σ [] [(3, .str x3), (11, .int .i64 x11)] [] [] rn)
    (h2 : ∀ (k0 : Nat) (x3 : ByteArray) (x11 : Int), k0 < k + 1 → impl_RecPrint.l0 k0 l0 x3 x11 = some r → headN σ hv [] [(3, .str x3), (11, .int .i64 x11)] [] [] (F (fun e σ' => match e with | .normal => ∃ (y : Nat × ByteArray × Int) (rn : List (Option Nat)), (impl_RecPrint.l0 y.1 l0 y.2.1 y.2.2 = some r ∧ y.1 < k + 1) ∧ y.1 < k0 ∧ Fits σ σ' [] [(3, .str y.2.1), (11, .int .i64 y.2.2)] [] [] rn | e => Q e σ'))) : Lp F hv Q σ := by
  unfold Lp
  refine ⟨Nat × ByteArray × Int, fun x => impl_RecPrint.l0 x.1 l0 x.2.1 x.2.2 = some r ∧ x.1 < k + 1, fun x => x.1, [], fun x => [(3, .str x.2.1), (11, .int .i64 x.2.2)], fun x => [], fun x => [], ⟨(k, x3, x11), rn, ⟨H, Nat.lt_succ_self _⟩, h1⟩, ?_⟩
  rintro ⟨k, x3, x11⟩ ⟨H, hk⟩
  exact h2 k x3 x11 hk H
theorem impl_RecPrint.ac [GvOk G] {k : Nat} {l0 : List S_impl_RecPhase} {r : ByteArray} (H : impl_RecPrint.f k l0 = some r) : ACalls Tryd.prog G 19 [] [(sv_S_impl_RecPhase l0)] [] (.str r) := by
  refine acalls_of tok hP Tryd.func19 rfl (by kernel_rfl) [.tmp 2] rfl (by kernel_rfl) (Nat.le_of_ble_eq_true rfl) (.l .n (.l .n (.l .n (.l (.l .n (.l .n (.l .n (.j (.c .n (.c .n (.j .n (.j .n .n)))) .n)))) (.c .n .n))))) rfl ?_
  unfold impl_RecPrint.f at H
  conv => whnf
  revert H; refine bind_elim (fun t300 A H => ?_)
  refine call_mk (impl_RecOk.ac A) (avAL_cons (avA_shut' rfl) (avAL_nil)) (Or.inl rfl) rfl rfl (Nat.le_of_ble_eq_true rfl) ?_
  conv => whnf
  refine br_nt H (fun c H => ?_) (fun c H => ?_)
  conv => whnf
  refine impl_RecPrint.l0_lp (l0 := l0) (k := k) H [] (fits_of ⟨.inl ⟨rfl, rfl⟩, ⟨.inl ⟨rfl, rfl⟩, trivial⟩⟩ trivial fi_ trivial rfl) ?_
  intro k x3 x11 hk H; rcases k with _ | k; exact none_elim H; rw [impl_RecPrint.l0] at H; conv => whnf
  refine br_d H (fun c H => ?_) (fun c H => ?_)
  conv => whnf
  refine impl_RecPrint.j0_sq (l0 := l0) (x11 := x11) (KK := k + 1) (r := r) ?_ ?_
  conv => whnf
  refine nd_ H (fun c H => ?_)
  conv => whnf
  refine Nd.mk nf_ ?_
  conv => whnf
  refine El.mk (rdm_en_S_impl_RecPhase _ _ nf_ nf_) ?_
  conv => whnf
  refine cut_ 104 [(3, .str x3), (5, .bp 88 0), (9, (sv_S_impl_RecPhase l0)), (10, .int .i64 (l0.length : Int)), (11, .int .i64 x11)] [(88, .box [.str ((rd_impl_RecPhase l0 x11).f0), .int .i64 ((rd_impl_RecPhase l0 x11).f1), .str ((rd_impl_RecPhase l0 x11).f2), .str ((rd_impl_RecPhase l0 x11).f3), .int .i64 ((rd_impl_RecPhase l0 x11).f4), .int .i64 ((rd_impl_RecPhase l0 x11).f5), .str ((rd_impl_RecPhase l0 x11).f6), .str ((rd_impl_RecPhase l0 x11).f7)])] rfl ⟨.inl rfl, ⟨.inl rfl, ⟨.inl rfl, ⟨.inl rfl, ⟨.inl rfl, trivial⟩⟩⟩⟩⟩ ⟨rfl, trivial⟩ ?_
  conv => whnf
  refine nd_ H (fun c H => ?_)
  conv => whnf
  refine Or.inl ?_
  conv => whnf
  refine nd_ H (fun c H => ?_)
  conv => whnf
  refine nd_ H (fun c H => ?_)
  conv => whnf
  refine El.mk (el_of (ys := ([(⟨#[]⟩ : ByteArray), (⟨#[102, 105, 108, 108]⟩ : ByteArray), (⟨#[109, 111, 118, 101]⟩ : ByteArray), (⟨#[104, 111, 108, 100]⟩ : ByteArray), (⟨#[99, 108, 101, 97, 110]⟩ : ByteArray), (⟨#[116, 101, 115, 116]⟩ : ByteArray)] : List ByteArray).map en_str) lm_ (rdm_en_str _ _ nf_ nf_)) ?_
  conv => whnf
  refine nd_ H (fun c H => ?_)
  conv => whnf
  refine nd_ H (fun c H => ?_)
  conv => whnf
  refine nd_ H (fun c H => ?_)
  conv => whnf
  refine nd_ H (fun c H => ?_)
  conv => whnf
  refine cut_ 232 [(3, .str (x3 ++ ((((((rd_impl_RecPhase l0 x11).f0) ++ (⟨#[32]⟩ : ByteArray)) ++ (rdOf ByteArray.empty ([(⟨#[]⟩ : ByteArray), (⟨#[102, 105, 108, 108]⟩ : ByteArray), (⟨#[109, 111, 118, 101]⟩ : ByteArray), (⟨#[104, 111, 108, 100]⟩ : ByteArray), (⟨#[99, 108, 101, 97, 110]⟩ : ByteArray), (⟨#[116, 101, 115, 116]⟩ : ByteArray)] : List ByteArray) ((rd_impl_RecPhase l0 x11).f1))) ++ (⟨#[32]⟩ : ByteArray)) ++ ((rd_impl_RecPhase l0 x11).f2)))), (5, .bp 88 0), (9, (sv_S_impl_RecPhase l0)), (10, .int .i64 (l0.length : Int)), (11, .int .i64 x11)] [(88, .box [.str ((rd_impl_RecPhase l0 x11).f0), .int .i64 ((rd_impl_RecPhase l0 x11).f1), .str ((rd_impl_RecPhase l0 x11).f2), .str ((rd_impl_RecPhase l0 x11).f3), .int .i64 ((rd_impl_RecPhase l0 x11).f4), .int .i64 ((rd_impl_RecPhase l0 x11).f5), .str ((rd_impl_RecPhase l0 x11).f6), .str ((rd_impl_RecPhase l0 x11).f7)])] rfl ⟨.inl rfl, ⟨.inl rfl, ⟨.inl rfl, ⟨.inl rfl, ⟨.inl rfl, trivial⟩⟩⟩⟩⟩ ⟨rfl, trivial⟩ ?_
  conv => whnf
  refine impl_RecPrint.j2_sq (l0 := l0) (x11 := x11) (KK := k + 1) (r := r) ?_ ?_
  conv => whnf
  refine br_nd H (fun c H => ?_) (fun c H => ?_)
  conv => whnf
  exact ⟨(k, x3 ++ ((((((rd_impl_RecPhase l0 x11).f0) ++ (⟨#[32]⟩ : ByteArray)) ++ (rdOf ByteArray.empty ([(⟨#[]⟩ : ByteArray), (⟨#[102, 105, 108, 108]⟩ : ByteArray), (⟨#[109, 111, 118, 101]⟩ : ByteArray), (⟨#[104, 111, 108, 100]⟩ : ByteArray), (⟨#[99, 108, 101, 97, 110]⟩ : ByteArray), (⟨#[116, 101, 115, 116]⟩ : ByteArray)] : List ByteArray) ((rd_impl_RecPhase l0 x11).f1))) ++ (⟨#[32]⟩ : ByteArray)) ++ ((rd_impl_RecPhase l0 x11).f2))), [], ⟨H, lt_⟩, (fits_of ⟨.inl ⟨rfl, rfl⟩, trivial⟩ trivial fi_ trivial rfl)⟩
  conv => whnf
  refine nd_ H (fun c H => ?_)
  conv => whnf
  refine nd_ H (fun c H => ?_)
  conv => whnf
  exact ⟨(k, (x3 ++ ((((((rd_impl_RecPhase l0 x11).f0) ++ (⟨#[32]⟩ : ByteArray)) ++ (rdOf ByteArray.empty ([(⟨#[]⟩ : ByteArray), (⟨#[102, 105, 108, 108]⟩ : ByteArray), (⟨#[109, 111, 118, 101]⟩ : ByteArray), (⟨#[104, 111, 108, 100]⟩ : ByteArray), (⟨#[99, 108, 101, 97, 110]⟩ : ByteArray), (⟨#[116, 101, 115, 116]⟩ : ByteArray)] : List ByteArray) ((rd_impl_RecPhase l0 x11).f1))) ++ (⟨#[32]⟩ : ByteArray)) ++ ((rd_impl_RecPhase l0 x11).f2))) ++ ((⟨#[32]⟩ : ByteArray) ++ ((rd_impl_RecPhase l0 x11).f3))), [], ⟨H, lt_⟩, (fits_of ⟨.inl ⟨rfl, rfl⟩, trivial⟩ trivial fi_ trivial rfl)⟩
  intro k x3_2 hk H; rcases k with _ | k; exact none_elim H; rw [impl_RecPrint.j2] at H; conv => whnf
  refine impl_RecPrint.j1_sq (l0 := l0) (x11 := x11) (KK := k + 1) (r := r) ?_ ?_
  conv => whnf
  refine br_d H (fun c H => ?_) (fun c H => ?_)
  conv => whnf
  revert H; refine bind_elim (fun t320 A H => ?_)
  refine call_mk (strconv_Itoa.ac A) (avAL_cons (avA_shut' rfl) (avAL_nil)) (Or.inl rfl) rfl rfl (Nat.le_of_ble_eq_true rfl) ?_
  conv => whnf
  refine nd_ H (fun c H => ?_)
  conv => whnf
  refine nd_ H (fun c H => ?_)
  conv => whnf
  exact ⟨(k, x3_2 ++ ((⟨#[32]⟩ : ByteArray) ++ t320)), [], ⟨H, lt_⟩, (fits_of ⟨.inl ⟨rfl, rfl⟩, trivial⟩ trivial fi_ trivial rfl)⟩
  conv => whnf
  exact ⟨(k, x3_2), [], ⟨H, lt_⟩, (fits_of ⟨.inl ⟨rfl, rfl⟩, trivial⟩ trivial fi_ trivial rfl)⟩
  intro k x3_3 hk H; rcases k with _ | k; exact none_elim H; rw [impl_RecPrint.j1] at H; conv => whnf
  revert H; refine bind_elim (fun t319 A H => ?_)
  refine call_mk (strconv_Itoa.ac A) (avAL_cons (avA_shut' rfl) (avAL_nil)) (Or.inl rfl) rfl rfl (Nat.le_of_ble_eq_true rfl) ?_
  conv => whnf
  refine nd_ H (fun c H => ?_)
  conv => whnf
  refine nd_ H (fun c H => ?_)
  conv => whnf
  refine nd_ H (fun c H => ?_)
  conv => whnf
  refine nd_ H (fun c H => ?_)
  conv => whnf
  refine nd_ H (fun c H => ?_)
  conv => whnf
  refine nd_ H (fun c H => ?_)
  conv => whnf
  refine nd_ H (fun c H => ?_)
  conv => whnf
  exact ⟨(k, x3_3 ++ (((((((⟨#[32, 119, 105, 116, 104, 105, 110, 32]⟩ : ByteArray) ++ t319) ++ (⟨#[32, 116, 104, 101, 110, 32]⟩ : ByteArray)) ++ ((rd_impl_RecPhase l0 x11).f6)) ++ (⟨#[32, 101, 108, 115, 101, 32]⟩ : ByteArray)) ++ ((rd_impl_RecPhase l0 x11).f7)) ++ (⟨#[10]⟩ : ByteArray))), [], ⟨H, lt_⟩, (fits_of ⟨.inl ⟨rfl, rfl⟩, trivial⟩ trivial fi_ trivial rfl)⟩
  intro k x3_1 hk H; rcases k with _ | k; exact none_elim H; rw [impl_RecPrint.j0] at H; conv => whnf
  exact ⟨(k, x3_1, wrap64 (x11 + 1)), [], ⟨H, lt_⟩, lt_, (fits_of ⟨.inl ⟨rfl, rfl⟩, ⟨.inl ⟨rfl, rfl⟩, trivial⟩⟩ trivial fi_ trivial rfl)⟩
  conv => whnf
  refine cut_ 88 [(2, .str x3)] [] rfl ⟨.inl rfl, trivial⟩ trivial ?_
  conv => whnf
  injection H with H; subst H
  exact ret_fz [] (rtA_eq rfl)
  conv => whnf
  injection H with H; subst H
  exact ret_fz [] (rtA_eq rfl)
theorem laws_eqRecPhase.ac {a0_0 : ByteArray} {a0_1 : Int} {a0_2 : ByteArray} {a0_3 : ByteArray} {a0_4 : Int} {a0_5 : Int} {a0_6 : ByteArray} {a0_7 : ByteArray} {a1_0 : ByteArray} {a1_1 : Int} {a1_2 : ByteArray} {a1_3 : ByteArray} {a1_4 : Int} {a1_5 : Int} {a1_6 : ByteArray} {a1_7 : ByteArray} {r : Bool} (H : laws_eqRecPhase.f a0_0 a0_1 a0_2 a0_3 a0_4 a0_5 a0_6 a0_7 a1_0 a1_1 a1_2 a1_3 a1_4 a1_5 a1_6 a1_7 = some r) : ACalls Tryd.prog G 49 [] [.agg [.str a0_0, .int .i64 a0_1, .str a0_2, .str a0_3, .int .i64 a0_4, .int .i64 a0_5, .str a0_6, .str a0_7], .agg [.str a1_0, .int .i64 a1_1, .str a1_2, .str a1_3, .int .i64 a1_4, .int .i64 a1_5, .str a1_6, .str a1_7]] [] (.bool r) := by
  refine acalls_of tok hP Tryd.func49 rfl (by kernel_rfl) [.tmp 4] rfl (by kernel_rfl) (Nat.le_of_ble_eq_true rfl) (.l .n (.l .n (.l (.c .n .n) (.l .n (.l (.c .n .n) (.l .n (.l (.c .n .n) (.l .n (.l (.c .n .n) .n))))))))) rfl ?_
  unfold laws_eqRecPhase.f at H
  conv => whnf
  refine br_nd H (fun c H => ?_) (fun c H => ?_)
  conv => whnf
  refine cut_ 104 [(2, .bp 0 0), (3, .bp 8 0), (14, .bool (!(decide (a0_1 = a1_1))))] [(0, .box [.str a0_0, .int .i64 a0_1, .str a0_2, .str a0_3, .int .i64 a0_4, .int .i64 a0_5, .str a0_6, .str a0_7]), (8, .box [.str a1_0, .int .i64 a1_1, .str a1_2, .str a1_3, .int .i64 a1_4, .int .i64 a1_5, .str a1_6, .str a1_7])] rfl ⟨.inl rfl, ⟨.inl rfl, ⟨.inl rfl, trivial⟩⟩⟩ ⟨rfl, ⟨rfl, trivial⟩⟩ ?_
  conv => whnf
  refine br_nd H (fun c H => ?_) (fun c H => ?_)
  conv => whnf
  refine br_nd H (fun c H => ?_) (fun c H => ?_)
  conv => whnf
  refine cut_ 184 [(2, .bp 0 0), (3, .bp 8 0), (24, .bool (!(decide (a0_3.toList = a1_3.toList))))] [(0, .box [.str a0_0, .int .i64 a0_1, .str a0_2, .str a0_3, .int .i64 a0_4, .int .i64 a0_5, .str a0_6, .str a0_7]), (8, .box [.str a1_0, .int .i64 a1_1, .str a1_2, .str a1_3, .int .i64 a1_4, .int .i64 a1_5, .str a1_6, .str a1_7])] rfl ⟨.inl rfl, ⟨.inl rfl, ⟨.inl rfl, trivial⟩⟩⟩ ⟨rfl, ⟨rfl, trivial⟩⟩ ?_
  conv => whnf
  refine br_nd H (fun c H => ?_) (fun c H => ?_)
  conv => whnf
  refine br_nd H (fun c H => ?_) (fun c H => ?_)
  conv => whnf
  refine cut_ 264 [(2, .bp 0 0), (3, .bp 8 0), (34, .bool (!(decide (a0_5 = a1_5))))] [(0, .box [.str a0_0, .int .i64 a0_1, .str a0_2, .str a0_3, .int .i64 a0_4, .int .i64 a0_5, .str a0_6, .str a0_7]), (8, .box [.str a1_0, .int .i64 a1_1, .str a1_2, .str a1_3, .int .i64 a1_4, .int .i64 a1_5, .str a1_6, .str a1_7])] rfl ⟨.inl rfl, ⟨.inl rfl, ⟨.inl rfl, trivial⟩⟩⟩ ⟨rfl, ⟨rfl, trivial⟩⟩ ?_
  conv => whnf
  refine br_nd H (fun c H => ?_) (fun c H => ?_)
  conv => whnf
  refine br_nd H (fun c H => ?_) (fun c H => ?_)
  conv => whnf
  refine cut_ 344 [(44, .bool (!(decide (a0_7.toList = a1_7.toList))))] [] rfl ⟨.inl rfl, trivial⟩ trivial ?_
  conv => whnf
  refine br_nd H (fun c H => ?_) (fun c H => ?_)
  conv => whnf
  injection H with H; subst H
  exact ret_fz [] (rtA_eq rfl)
  conv => whnf
  injection H with H; subst H
  exact ret_fz [] (rtA_eq rfl)
  conv => whnf
  injection H with H; subst H
  exact ret_fz [] (rtA_eq rfl)
  conv => whnf
  injection H with H; subst H
  exact ret_fz [] (rtA_eq rfl)
  conv => whnf
  injection H with H; subst H
  exact ret_fz [] (rtA_eq rfl)
  conv => whnf
  injection H with H; subst H
  exact ret_fz [] (rtA_eq rfl)
  conv => whnf
  injection H with H; subst H
  exact ret_fz [] (rtA_eq rfl)
  conv => whnf
  injection H with H; subst H
  exact ret_fz [] (rtA_eq rfl)
  conv => whnf
  injection H with H; subst H
  exact ret_fz [] (rtA_eq rfl)
theorem laws_eqRecPhaseS.l0_lp {F : (Exit → St → Prop) → St → Prop} {hv : List Tmp} {Q : Exit → St → Prop} {σ : St} {r : Bool} {k : Nat} {l0 : List S_impl_RecPhase} {l1 : List S_impl_RecPhase} {x5 : Int} (H : laws_eqRecPhaseS.l0 k l0 l1 x5 = some r) (rn : List (Option Nat)) (h1 : Fits σ σ [] [(5, .int .i64 x5)] [] [] rn)
    (h2 : ∀ (k0 : Nat) (x5 : Int), k0 < k + 1 → laws_eqRecPhaseS.l0 k0 l0 l1 x5 = some r → headN σ hv [] [(5, .int .i64 x5)] [] [] (F (fun e σ' => match e with | .normal => ∃ (y : Nat × Int) (rn : List (Option Nat)), (laws_eqRecPhaseS.l0 y.1 l0 l1 y.2 = some r ∧ y.1 < k + 1) ∧ y.1 < k0 ∧ Fits σ σ' [] [(5, .int .i64 y.2)] [] [] rn | e => Q e σ'))) : Lp F hv Q σ := by
  unfold Lp
  refine ⟨Nat × Int, fun x => laws_eqRecPhaseS.l0 x.1 l0 l1 x.2 = some r ∧ x.1 < k + 1, fun x => x.1, [], fun x => [(5, .int .i64 x.2)], fun x => [], fun x => [], ⟨(k, x5), rn, ⟨H, Nat.lt_succ_self _⟩, h1⟩, ?_⟩
  rintro ⟨k, x5⟩ ⟨H, hk⟩
  exact h2 k x5 hk H
theorem laws_eqRecPhaseS.ac {k : Nat} {l0 : List S_impl_RecPhase} {l1 : List S_impl_RecPhase} {r : Bool} (H : laws_eqRecPhaseS.f k l0 l1 = some r) : ACalls Tryd.prog G 20 [] [(sv_S_impl_RecPhase l0), (sv_S_impl_RecPhase l1)] [] (.bool r) := by
  refine acalls_of tok hP Tryd.func20 rfl (by kernel_rfl) [.tmp 4] rfl (by kernel_rfl) (Nat.le_of_ble_eq_true rfl) (.l .n (.l .n (.l (.l .n (.l (.c .n .n) (.l (.c .n .n) .n))) .n))) rfl ?_
  unfold laws_eqRecPhaseS.f at H
  conv => whnf
  refine br_nd H (fun c H => ?_) (fun c H => ?_)
  conv => whnf
  refine laws_eqRecPhaseS.l0_lp (l0 := l0) (l1 := l1) (k := k) H [] (fits_of ⟨.inl ⟨rfl, rfl⟩, trivial⟩ trivial fi_ trivial rfl) ?_
  intro k x5 hk H; rcases k with _ | k; exact none_elim H; rw [laws_eqRecPhaseS.l0] at H; conv => whnf
  refine cut_ 88 [(0, (sv_S_impl_RecPhase l0)), (1, (sv_S_impl_RecPhase l1)), (5, .int .i64 x5), (14, .bool (decide (x5 < (l0.length : Int))))] [] rfl ⟨.inl rfl, ⟨.inl rfl, ⟨.inl rfl, ⟨.inl rfl, trivial⟩⟩⟩⟩ trivial ?_
  conv => whnf
  refine br_d H (fun c H => ?_) (fun c H => ?_)
  conv => whnf
  refine nd_ H (fun c H => ?_)
  conv => whnf
  refine Nd.mk nf_ ?_
  conv => whnf
  refine El.mk (rdm_en_S_impl_RecPhase _ _ nf_ nf_) ?_
  conv => whnf
  refine Nd.mk nf_ ?_
  conv => whnf
  refine nd_ H (fun c H => ?_)
  conv => whnf
  refine El.mk (rdm_en_S_impl_RecPhase _ _ nf_ nf_) ?_
  conv => whnf
  revert H; refine bind_elim (fun t346 A H => ?_)
  refine call_mk (laws_eqRecPhase.ac A) (avAL_cons (avA_agg (avL_cons (av_shut' rfl) (avL_cons (av_shut' rfl) (avL_cons (av_shut' rfl) (avL_cons (av_shut' rfl) (avL_cons (av_shut' rfl) (avL_cons (av_shut' rfl) (avL_cons (av_shut' rfl) (avL_cons (av_shut' rfl) (avL_nil)))))))))) (avAL_cons (avA_agg (avL_cons (av_shut' rfl) (avL_cons (av_shut' rfl) (avL_cons (av_shut' rfl) (avL_cons (av_shut' rfl) (avL_cons (av_shut' rfl) (avL_cons (av_shut' rfl) (avL_cons (av_shut' rfl) (avL_cons (av_shut' rfl) (avL_nil)))))))))) (avAL_nil))) (Or.inl rfl) rfl rfl (Nat.le_of_ble_eq_true rfl) ?_
  conv => whnf
  refine cut_ 168 [(0, (sv_S_impl_RecPhase l0)), (1, (sv_S_impl_RecPhase l1)), (5, .int .i64 x5), (26, .bool (!t346))] [] rfl ⟨.inl rfl, ⟨.inl rfl, ⟨.inl rfl, ⟨.inl rfl, trivial⟩⟩⟩⟩ trivial ?_
  conv => whnf
  refine br_nt H (fun c H => ?_) (fun c H => ?_)
  conv => whnf
  exact ⟨(k, wrap64 (x5 + 1)), [], ⟨H, lt_⟩, lt_, (fits_of ⟨.inl ⟨rfl, rfl⟩, trivial⟩ trivial fi_ trivial rfl)⟩
  conv => whnf
  injection H with H; subst H
  exact ret_fz [] (rtA_eq rfl)
  conv => whnf
  injection H with H; subst H
  exact ret_fz [] (rtA_eq rfl)
  conv => whnf
  injection H with H; subst H
  exact ret_fz [] (rtA_eq rfl)
theorem laws_FnExactRecPrint.ac [GvOk G] {k : Nat} {l0 : List S_laws_RecPhase} {r : Bool} (H : laws_FnExactRecPrint.f k l0 = some r) : ACalls Tryd.prog G 5 [] [(sv_S_laws_RecPhase l0)] [] (.bool r) := by
  refine acalls_of tok hP Tryd.func5 rfl (by kernel_rfl) [.tmp 2] rfl (by kernel_rfl) (Nat.le_of_ble_eq_true rfl) (.l .n (.l .n (.l .n (.l .n (.c .n (.l .n (.l .n (.l (.l .n (.l (.c .n .n) .n)) (.l (.c .n .n) .n))))))))) rfl ?_
  unfold laws_FnExactRecPrint.f at H
  conv => whnf
  revert H; refine bind_elim (fun t348 A H => ?_)
  refine call_mk (laws_szRecPhaseS.ac A) (avAL_cons (avA_shut' rfl) (avAL_cons (avA_shut' rfl) (avAL_nil))) (Or.inl rfl) rfl rfl (Nat.le_of_ble_eq_true rfl) ?_
  conv => whnf
  refine br_d H (fun c H => ?_) (fun c H => ?_)
  conv => whnf
  injection H with H; subst H
  exact ret_fz [] (rtA_eq rfl)
  conv => whnf
  revert H; refine bind_elim (fun t351 A H => ?_)
  refine call_mk (laws_toRecPhaseS.ac A) (avAL_cons (avA_shut' rfl) (avAL_nil)) (Or.inl rfl) rfl rfl (Nat.le_of_ble_eq_true rfl) ?_
  conv => whnf
  revert H; refine bind_elim (fun t352 A H => ?_)
  refine call_mk (spec_RecPrint.ac A) (avAL_cons (avA_shut' rfl) (avAL_nil)) (Or.inl rfl) rfl rfl (Nat.le_of_ble_eq_true rfl) ?_
  conv => whnf
  refine cut_ 96 [(0, (sv_S_laws_RecPhase l0)), (4, .str t352)] [] rfl ⟨.inl rfl, ⟨.inl rfl, trivial⟩⟩ trivial ?_
  conv => whnf
  revert H; refine bind_elim (fun t354 A H => ?_)
  refine call_mk (laws_toRecPhaseS.ac A) (avAL_cons (avA_shut' rfl) (avAL_nil)) (Or.inl rfl) rfl rfl (Nat.le_of_ble_eq_true rfl) ?_
  conv => whnf
  revert H; refine bind_elim (fun t356 A H => ?_)
  refine call_mk (impl_RecPrint.ac A) (avAL_cons (avA_shut' rfl) (avAL_nil)) (Or.inl rfl) rfl rfl (Nat.le_of_ble_eq_true rfl) ?_
  conv => whnf
  refine br_nd H (fun c H => ?_) (fun c H => ?_)
  conv => whnf
  revert H; refine bind_elim (fun t361 A H => ?_)
  refine call_mk (laws_toRecPhaseS.ac A) (avAL_cons (avA_shut' rfl) (avAL_nil)) (Or.inl rfl) rfl rfl (Nat.le_of_ble_eq_true rfl) ?_
  conv => whnf
  revert H; refine bind_elim (fun t362 A H => ?_)
  refine call_mk (laws_eqRecPhaseS.ac A) (avAL_cons (avA_shut' rfl) (avAL_cons (avA_shut' rfl) (avAL_nil))) (Or.inl rfl) rfl rfl (Nat.le_of_ble_eq_true rfl) ?_
  conv => whnf
  refine cut_ 208 [(26, .bool (!t362))] [] rfl ⟨.inl rfl, trivial⟩ trivial ?_
  conv => whnf
  refine br_nt H (fun c H => ?_) (fun c H => ?_)
  conv => whnf
  injection H with H; subst H
  exact ret_fz [] (rtA_eq rfl)
  conv => whnf
  injection H with H; subst H
  exact ret_fz [] (rtA_eq rfl)
  conv => whnf
  refine cut_ 176 [(2, .bool false)] [] rfl ⟨.inl rfl, trivial⟩ trivial ?_
  conv => whnf
  injection H with H; subst H
  exact ret_fz [] (rtA_eq rfl)

end Go.Proofs.YteflhnpcgoijfaaDoor.RP

