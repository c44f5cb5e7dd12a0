import Derived.Test.YtodeegjblililaaY1
set_option linter.unusedVariables false
namespace Go.Proofs.Ytodeegjblililaa.RS
open Go Go.RowKit Go.Aw
structure S_laws_RecPhase where
  f0 : ByteArray
  f1 : Int
  f2 : ByteArray
  f3 : ByteArray
  f4 : Int
  f5 : Int
  f6 : ByteArray
  f7 : ByteArray
def z_laws_RecPhase : S_laws_RecPhase := ⟨(⟨#[]⟩ : ByteArray), (0 : Int), (⟨#[]⟩ : ByteArray), (⟨#[]⟩ : ByteArray), (0 : Int), (0 : Int), (⟨#[]⟩ : ByteArray), (⟨#[]⟩ : ByteArray)⟩
def rd_laws_RecPhase (xs : List S_laws_RecPhase) (i : Int) : S_laws_RecPhase := xs.getD i.toNat z_laws_RecPhase
structure S_impl_RecPhase where
  f0 : ByteArray
  f1 : Int
  f2 : ByteArray
  f3 : ByteArray
  f4 : Int
  f5 : Int
  f6 : ByteArray
  f7 : ByteArray
def z_impl_RecPhase : S_impl_RecPhase := ⟨(⟨#[]⟩ : ByteArray), (0 : Int), (⟨#[]⟩ : ByteArray), (⟨#[]⟩ : ByteArray), (0 : Int), (0 : Int), (⟨#[]⟩ : ByteArray), (⟨#[]⟩ : ByteArray)⟩
def rd_impl_RecPhase (xs : List S_impl_RecPhase) (i : Int) : S_impl_RecPhase := xs.getD i.toNat z_impl_RecPhase
def ok_laws_RecPhase (y : S_laws_RecPhase) : Prop := (y.f0.size ≤ 140737488351232) ∧ ((Lit.int .i64 y.f1).wf = true) ∧ (y.f2.size ≤ 140737488351232) ∧ (y.f3.size ≤ 140737488351232) ∧ ((Lit.int .i64 y.f4).wf = true) ∧ ((Lit.int .i64 y.f5).wf = true) ∧ (y.f6.size ≤ 140737488351232) ∧ (y.f7.size ≤ 140737488351232)
def laws_szRecPhase.f (a0_0 : ByteArray) (a0_1 : Int) (a0_2 : ByteArray) (a0_3 : ByteArray) (a0_4 : Int) (a0_5 : Int) (a0_6 : ByteArray) (a0_7 : ByteArray) (a1 : Int) : Option (Int) := (if (wrap64 (a1 - (a0_0.size : Int))) < 0 then (some (-1)) else (if (wrap64 ((wrap64 (a1 - (a0_0.size : Int))) - (a0_2.size : Int))) < 0 then (some (-1)) else (if (wrap64 ((wrap64 ((wrap64 (a1 - (a0_0.size : Int))) - (a0_2.size : Int))) - (a0_3.size : Int))) < 0 then (some (-1)) else (if (wrap64 ((wrap64 ((wrap64 ((wrap64 (a1 - (a0_0.size : Int))) - (a0_2.size : Int))) - (a0_3.size : Int))) - (a0_6.size : Int))) < 0 then (some (-1)) else (if (wrap64 ((wrap64 ((wrap64 ((wrap64 ((wrap64 (a1 - (a0_0.size : Int))) - (a0_2.size : Int))) - (a0_3.size : Int))) - (a0_6.size : Int))) - (a0_7.size : Int))) < 0 then (some (-1)) else (some (wrap64 ((wrap64 ((wrap64 ((wrap64 ((wrap64 (a1 - (a0_0.size : Int))) - (a0_2.size : Int))) - (a0_3.size : Int))) - (a0_6.size : Int))) - (a0_7.size : Int)))))))))
def laws_szRecPhaseS.l0 : Nat → List S_laws_RecPhase → Int → Int → Option (Int)
  | 0, _, _, _ => none
  | k + 1, l0, x1, x5 => (if x5 < (l0.length : Int) then (if 0 ≤ x5 then ((laws_szRecPhase.f ((rd_laws_RecPhase l0 x5).f0) ((rd_laws_RecPhase l0 x5).f1) ((rd_laws_RecPhase l0 x5).f2) ((rd_laws_RecPhase l0 x5).f3) ((rd_laws_RecPhase l0 x5).f4) ((rd_laws_RecPhase l0 x5).f5) ((rd_laws_RecPhase l0 x5).f6) ((rd_laws_RecPhase l0 x5).f7) x1).bind fun t4 => (if t4 < 0 then (some (-1)) else (laws_szRecPhaseS.l0 k l0 t4 (wrap64 (x5 + 1))))) else none) else (some x1))
def laws_szRecPhaseS.f (k : Nat) (l0 : List S_laws_RecPhase) (a1 : Int) : Option (Int) := (if (wrap64 (a1 - (l0.length : Int))) < 0 then (some (-1)) else (laws_szRecPhaseS.l0 k l0 (wrap64 (a1 - (l0.length : Int))) 0))
def laws_toRecPhase.f (a0_0 : ByteArray) (a0_1 : Int) (a0_2 : ByteArray) (a0_3 : ByteArray) (a0_4 : Int) (a0_5 : Int) (a0_6 : ByteArray) (a0_7 : ByteArray) : Option (ByteArray × Int × ByteArray × ByteArray × Int × Int × ByteArray × ByteArray) := (some (a0_0, a0_1, a0_2, a0_3, a0_4, a0_5, a0_6, a0_7))
def laws_toRecPhaseS.l0 : Nat → List S_laws_RecPhase → List S_impl_RecPhase → Int → Option (List S_impl_RecPhase)
  | 0, _, _, _ => none
  | k + 1, l0, x3, x4 => (if x4 < (l0.length : Int) then (if 0 ≤ x4 then ((laws_toRecPhase.f ((rd_laws_RecPhase l0 x4).f0) ((rd_laws_RecPhase l0 x4).f1) ((rd_laws_RecPhase l0 x4).f2) ((rd_laws_RecPhase l0 x4).f3) ((rd_laws_RecPhase l0 x4).f4) ((rd_laws_RecPhase l0 x4).f5) ((rd_laws_RecPhase l0 x4).f6) ((rd_laws_RecPhase l0 x4).f7)).bind fun t13 => (if x4 < (x3.length : Int) then (laws_toRecPhaseS.l0 k l0 (x3.set (x4).toNat (⟨t13.1, t13.2.1, t13.2.2.1, t13.2.2.2.1, t13.2.2.2.2.1, t13.2.2.2.2.2.1, t13.2.2.2.2.2.2.1, t13.2.2.2.2.2.2.2⟩ : S_impl_RecPhase)) (wrap64 (x4 + 1))) else none)) else none) else (some x3))
def laws_toRecPhaseS.f (k : Nat) (l0 : List S_laws_RecPhase) : Option (List S_impl_RecPhase) := (if (l0.length : Int) * 104 ≤ 140737488355328 then (laws_toRecPhaseS.l0 k l0 (List.replicate ((l0.length : Int)).toNat z_impl_RecPhase) 0) else none)
def spec_l41In.f (a0 : Int) (a1 : Int) (a2 : Int) : Option (Bool) := (if a0 ≥ a1 then (some (decide (a0 ≤ a2))) else (some false))
def spec_l41NameOk.l0 : Nat → ByteArray → Int → Option (Bool)
  | 0, _, _ => none
  | k + 1, a0, x3 => (if x3 < (a0.size : Int) then (if 0 ≤ x3 then (if (bt a0 x3) ≥ 97 then (if (bt a0 x3) ≤ 122 then (spec_l41NameOk.l0 k a0 (wrap64 (x3 + 1))) else (if (bt a0 x3) ≥ 48 then (if (bt a0 x3) ≤ 57 then (spec_l41NameOk.l0 k a0 (wrap64 (x3 + 1))) else (if (bt a0 x3) = 45 then (spec_l41NameOk.l0 k a0 (wrap64 (x3 + 1))) else (some false))) else (if (bt a0 x3) = 45 then (spec_l41NameOk.l0 k a0 (wrap64 (x3 + 1))) else (some false)))) else (if (bt a0 x3) ≥ 48 then (if (bt a0 x3) ≤ 57 then (spec_l41NameOk.l0 k a0 (wrap64 (x3 + 1))) else (if (bt a0 x3) = 45 then (spec_l41NameOk.l0 k a0 (wrap64 (x3 + 1))) else (some false))) else (if (bt a0 x3) = 45 then (spec_l41NameOk.l0 k a0 (wrap64 (x3 + 1))) else (some false)))) else none) else (some true))
def spec_l41NameOk.f (k : Nat) (a0 : ByteArray) : Option (Bool) := ((spec_l41In.f (a0.size : Int) 1 8).bind fun t43 => (if t43 = true then (spec_l41NameOk.l0 k a0 0) else (some false)))
def spec_RecEnd.f (a0 : ByteArray) : Option (Int) := (if a0.toList = (⟨#[103, 111, 111, 100]⟩ : ByteArray).toList then (some 1) else (if a0.toList = (⟨#[115, 97, 118, 101, 100]⟩ : ByteArray).toList then (some 2) else (if a0.toList = (⟨#[115, 99, 114, 97, 112, 112, 101, 100]⟩ : ByteArray).toList then (some 3) else (some 0))))
def spec_l41PlainOk.f (k : Nat) (a0 : ByteArray) : Option (Bool) := ((spec_l41NameOk.f k a0).bind fun t53 => (if t53 = true then ((spec_RecEnd.f a0).bind fun t54 => (some (decide (t54 = 0)))) else (some false)))
def spec_l41ArgsOk.f (k : Nat) (a0_0 : ByteArray) (a0_1 : Int) (a0_2 : ByteArray) (a0_3 : ByteArray) (a0_4 : Int) (a0_5 : Int) (a0_6 : ByteArray) (a0_7 : ByteArray) : Option (Bool) := (if a0_1 = 1 then ((spec_l41NameOk.f k a0_2).bind fun t83 => (if t83 = true then ((spec_l41NameOk.f k a0_3).bind fun t84 => (if t84 = true then ((spec_l41In.f a0_4 1 1000).bind fun t85 => (some t85)) else (some false))) else (some false))) else (if a0_1 = 2 then ((spec_l41NameOk.f k a0_2).bind fun t86 => (if t86 = true then ((spec_l41NameOk.f k a0_3).bind fun t87 => (if t87 = true then (if a0_2.toList = a0_3.toList then (some false) else ((spec_l41In.f a0_4 1 1000).bind fun t88 => (some t88))) else (some false))) else (some false))) else (if a0_1 = 3 then ((spec_l41NameOk.f k a0_2).bind fun t89 => (if t89 = true then (if a0_3.toList = (⟨#[]⟩ : ByteArray).toList then ((spec_l41In.f a0_4 1 a0_5).bind fun t90 => (some t90)) else (some false)) else (some false))) else (if a0_1 = 4 then ((spec_l41NameOk.f k a0_2).bind fun t91 => (if t91 = true then (if a0_3.toList = (⟨#[]⟩ : ByteArray).toList then (some (decide (a0_4 = 0))) else (some false)) else (some false))) else (if a0_1 = 5 then ((spec_l41NameOk.f k a0_2).bind fun t92 => (if t92 = true then (if a0_3.toList = (⟨#[]⟩ : ByteArray).toList then (some (decide (a0_4 = 0))) else (some false)) else (some false))) else (some false))))))
def spec_RecPhaseOk.f (k : Nat) (a0_0 : ByteArray) (a0_1 : Int) (a0_2 : ByteArray) (a0_3 : ByteArray) (a0_4 : Int) (a0_5 : Int) (a0_6 : ByteArray) (a0_7 : ByteArray) : Option (Bool) := ((spec_l41PlainOk.f k a0_0).bind fun t98 => (if t98 = true then ((spec_l41In.f a0_5 1 1000).bind fun t99 => (if t99 = true then ((spec_l41ArgsOk.f k a0_0 a0_1 a0_2 a0_3 a0_4 a0_5 a0_6 a0_7).bind fun t100 => (if t100 = true then ((spec_l41NameOk.f k a0_6).bind fun t101 => (if t101 = true then ((spec_l41NameOk.f k a0_7).bind fun t102 => (some t102)) else (some false))) else (some false))) else (some false))) else (some false)))
def spec_l42At.l0 : Nat → List S_impl_RecPhase → ByteArray → Int → Option (Int)
  | 0, _, _, _ => none
  | k + 1, l0, a1, x5 => (if x5 < (l0.length : Int) then (if 0 ≤ x5 then (if ((rd_impl_RecPhase l0 x5).f0).toList = a1.toList then (some x5) else (spec_l42At.l0 k l0 a1 (wrap64 (x5 + 1)))) else none) else (some (-1)))
def spec_l42At.f (k : Nat) (l0 : List S_impl_RecPhase) (a1 : ByteArray) : Option (Int) := (spec_l42At.l0 k l0 a1 0)
def spec_RecOk.l0 : Nat → List S_impl_RecPhase → Int → Option (Bool)
  | 0, _, _ => none
  | k + 1, l0, x3 => (if x3 < (l0.length : Int) then (if 0 ≤ x3 then ((spec_RecPhaseOk.f k ((rd_impl_RecPhase l0 x3).f0) ((rd_impl_RecPhase l0 x3).f1) ((rd_impl_RecPhase l0 x3).f2) ((rd_impl_RecPhase l0 x3).f3) ((rd_impl_RecPhase l0 x3).f4) ((rd_impl_RecPhase l0 x3).f5) ((rd_impl_RecPhase l0 x3).f6) ((rd_impl_RecPhase l0 x3).f7)).bind fun t145 => (if t145 = true then ((spec_l42At.f k l0 ((rd_impl_RecPhase l0 x3).f0)).bind fun t146 => (if t146 = x3 then ((spec_RecEnd.f ((rd_impl_RecPhase l0 x3).f6)).bind fun t147 => (if t147 = 0 then ((spec_l42At.f k l0 ((rd_impl_RecPhase l0 x3).f6)).bind fun t148 => (if t148 ≤ x3 then (some false) else ((spec_RecEnd.f ((rd_impl_RecPhase l0 x3).f7)).bind fun t149 => (if t149 = 0 then ((spec_l42At.f k l0 ((rd_impl_RecPhase l0 x3).f7)).bind fun t150 => (if t150 ≤ x3 then (some false) else (spec_RecOk.l0 k l0 (wrap64 (x3 + 1))))) else (spec_RecOk.l0 k l0 (wrap64 (x3 + 1))))))) else ((spec_RecEnd.f ((rd_impl_RecPhase l0 x3).f7)).bind fun t151 => (if t151 = 0 then ((spec_l42At.f k l0 ((rd_impl_RecPhase l0 x3).f7)).bind fun t152 => (if t152 ≤ x3 then (some false) else (spec_RecOk.l0 k l0 (wrap64 (x3 + 1))))) else (spec_RecOk.l0 k l0 (wrap64 (x3 + 1))))))) else (some false))) else (some false))) else none) else (some true))
def spec_RecOk.f (k : Nat) (l0 : List S_impl_RecPhase) : Option (Bool) := ((spec_l41In.f (l0.length : Int) 1 12).bind fun t112 => (if t112 = true then (spec_RecOk.l0 k l0 0) else (some false)))
def spec_l42Insert.l0 : Nat → List ByteArray → ByteArray → Int → Option (List ByteArray)
  | 0, _, _, _ => none
  | k + 1, l0, a1, x5 => (if x5 < (l0.length : Int) then (if 0 ≤ x5 then (if (Op.bytesLess (rdOf ByteArray.empty l0 x5).toList a1.toList) = true then (spec_l42Insert.l0 k l0 a1 (wrap64 (x5 + 1))) else (if (rdOf ByteArray.empty l0 x5).toList = a1.toList then (some l0) else (if x5 ≤ (l0.length : Int) then (if (0 + (x5).toNat) * 16 ≤ 140737488355328 then (if (0 + (x5).toNat + 1) * 16 ≤ 140737488355328 then (if (0 + (x5).toNat + 1 + (l0.length - (x5).toNat)) * 16 ≤ 140737488355328 then (some (((([] : List ByteArray) ++ (l0.take (x5).toNat)) ++ ([a1] : List ByteArray)) ++ (l0.drop (x5).toNat))) else none) else none) else none) else none))) else none) else (if 0 ≤ x5 then (if x5 ≤ (l0.length : Int) then (if (0 + (x5).toNat) * 16 ≤ 140737488355328 then (if (0 + (x5).toNat + 1) * 16 ≤ 140737488355328 then (if (0 + (x5).toNat + 1 + (l0.length - (x5).toNat)) * 16 ≤ 140737488355328 then (some (((([] : List ByteArray) ++ (l0.take (x5).toNat)) ++ ([a1] : List ByteArray)) ++ (l0.drop (x5).toNat))) else none) else none) else none) else none) else none))
def spec_l42Insert.f (k : Nat) (l0 : List ByteArray) (a1 : ByteArray) : Option (List ByteArray) := (spec_l42Insert.l0 k l0 a1 0)
def spec_l42Of.f (k : Nat) (a0_0 : ByteArray) (a0_1 : Int) (a0_2 : ByteArray) (a0_3 : ByteArray) (a0_4 : Int) (a0_5 : Int) (a0_6 : ByteArray) (a0_7 : ByteArray) : Option (List ByteArray) := (if a0_1 = 2 then ((spec_l42Insert.f k ([a0_2] : List ByteArray) a0_3).bind fun t195 => (some t195)) else (some ([a0_2] : List ByteArray)))
def spec_l42Both.l0 : Nat → List ByteArray → List ByteArray → List ByteArray → Int → Option (List ByteArray)
  | 0, _, _, _, _ => none
  | k + 1, l0, l1, x0, x5 => (if x5 < (l1.length : Int) then (if 0 ≤ x5 then ((spec_l42Insert.f k x0 (rdOf ByteArray.empty l1 x5)).bind fun t208 => (spec_l42Both.l0 k l0 l1 t208 (wrap64 (x5 + 1)))) else none) else (some x0))
def spec_l42Both.f (k : Nat) (l0 : List ByteArray) (l1 : List ByteArray) : Option (List ByteArray) := (spec_l42Both.l0 k l0 l1 l0 0)
def spec_l42Slots.f : Nat → List S_impl_RecPhase → ByteArray → Option (List ByteArray)
  | 0, _, _ => none
  | k + 1, l0, a1 => ((spec_l42At.f k l0 a1).bind fun t210 => (if t210 < 0 then (some ([] : List ByteArray)) else (if 0 ≤ t210 then (if t210 < (l0.length : Int) then ((spec_l42Of.f k ((rd_impl_RecPhase l0 t210).f0) ((rd_impl_RecPhase l0 t210).f1) ((rd_impl_RecPhase l0 t210).f2) ((rd_impl_RecPhase l0 t210).f3) ((rd_impl_RecPhase l0 t210).f4) ((rd_impl_RecPhase l0 t210).f5) ((rd_impl_RecPhase l0 t210).f6) ((rd_impl_RecPhase l0 t210).f7)).bind fun t216 => ((spec_l42Slots.f k l0 ((rd_impl_RecPhase l0 t210).f6)).bind fun t217 => ((spec_l42Both.f k t216 t217).bind fun t218 => ((spec_l42Slots.f k l0 ((rd_impl_RecPhase l0 t210).f7)).bind fun t219 => ((spec_l42Both.f k t218 t219).bind fun t220 => (some t220)))))) else none) else none)))
def spec_RecSlots.f (k : Nat) (l0 : List S_impl_RecPhase) (a1 : ByteArray) : Option (List ByteArray) := ((spec_RecOk.f k l0).bind fun t223 => (if t223 = true then ((spec_l42Slots.f k l0 a1).bind fun t225 => (some t225)) else (some ([] : List ByteArray))))
def impl_isName.l0 : Nat → ByteArray → Int → Option (Bool)
  | 0, _, _ => none
  | k + 1, a0, x7 => (if x7 < (a0.size : Int) then (if 0 ≤ x7 then (if (bt a0 x7) < 97 then (if (bt a0 x7) < 48 then (if (bt a0 x7) = 45 then (impl_isName.l0 k a0 (wrap64 (x7 + 1))) else (some false)) else (if (bt a0 x7) > 57 then (if (bt a0 x7) = 45 then (impl_isName.l0 k a0 (wrap64 (x7 + 1))) else (some false)) else (impl_isName.l0 k a0 (wrap64 (x7 + 1))))) else (if (bt a0 x7) > 122 then (if (bt a0 x7) < 48 then (if (bt a0 x7) = 45 then (impl_isName.l0 k a0 (wrap64 (x7 + 1))) else (some false)) else (if (bt a0 x7) > 57 then (if (bt a0 x7) = 45 then (impl_isName.l0 k a0 (wrap64 (x7 + 1))) else (some false)) else (impl_isName.l0 k a0 (wrap64 (x7 + 1))))) else (impl_isName.l0 k a0 (wrap64 (x7 + 1))))) else none) else (if (a0.size : Int) ≥ 1 then (some (decide ((a0.size : Int) ≤ 8))) else (some false)))
def impl_isName.f (k : Nat) (a0 : ByteArray) : Option (Bool) := (impl_isName.l0 k a0 0)
def impl_RecEnd.f (a0 : ByteArray) : Option (Int) := (if a0.toList = (⟨#[103, 111, 111, 100]⟩ : ByteArray).toList then (some 1) else (if a0.toList = (⟨#[115, 97, 118, 101, 100]⟩ : ByteArray).toList then (some 2) else (if a0.toList = (⟨#[115, 99, 114, 97, 112, 112, 101, 100]⟩ : ByteArray).toList then (some 3) else (some 0))))
def impl_RecPhaseOk.j0 : Nat → ByteArray → Int → Int → Bool → Option (Bool)
  | 0, _, _, _, _ => none
  | k + 1, a0_3, a0_4, x3, x4 => (if x4 = true then ((impl_isName.f k a0_3).bind fun t286 => (if t286 = true then (if a0_4 ≤ x3 then (if a0_4 ≥ 1 then (some true) else (if x3 = 0 then (some (decide (a0_4 = 0))) else (some false))) else (some false)) else (some false))) else (if a0_3.toList = (⟨#[]⟩ : ByteArray).toList then (if a0_4 ≤ x3 then (if a0_4 ≥ 1 then (some true) else (if x3 = 0 then (some (decide (a0_4 = 0))) else (some false))) else (some false)) else (some false)))
def impl_RecPhaseOk.f (k : Nat) (a0_0 : ByteArray) (a0_1 : Int) (a0_2 : ByteArray) (a0_3 : ByteArray) (a0_4 : Int) (a0_5 : Int) (a0_6 : ByteArray) (a0_7 : ByteArray) : Option (Bool) := ((impl_isName.f k a0_0).bind fun t277 => (if t277 = true then ((impl_RecEnd.f a0_0).bind fun t278 => (if t278 = 0 then (if a0_5 < 1 then (some false) else (if a0_5 > 1000 then (some false) else ((impl_isName.f k a0_2).bind fun t279 => (if t279 = true then ((impl_isName.f k a0_6).bind fun t280 => (if t280 = true then ((impl_isName.f k a0_7).bind fun t281 => (if t281 = true then (if a0_1 = 1 then (impl_RecPhaseOk.j0 k a0_3 a0_4 1000 true) else (if a0_1 = 2 then (if a0_2.toList = a0_3.toList then (some false) else (impl_RecPhaseOk.j0 k a0_3 a0_4 1000 true)) else (if a0_1 = 3 then (impl_RecPhaseOk.j0 k a0_3 a0_4 a0_5 false) else (if a0_1 = 4 then (impl_RecPhaseOk.j0 k a0_3 a0_4 0 false) else (if a0_1 = 5 then (impl_RecPhaseOk.j0 k a0_3 a0_4 0 false) else (some false)))))) else (some false))) else (some false))) else (some false))))) else (some false))) else (some false)))
def impl_phase.l0 : Nat → List S_impl_RecPhase → ByteArray → Int → Option (Int)
  | 0, _, _, _ => none
  | k + 1, l0, a1, x9 => (if x9 < (l0.length : Int) then (if 0 ≤ x9 then (if ((rd_impl_RecPhase l0 x9).f0).toList = a1.toList then (some x9) else (impl_phase.l0 k l0 a1 (wrap64 (x9 + 1)))) else none) else (some (-1)))
def impl_phase.f (k : Nat) (l0 : List S_impl_RecPhase) (a1 : ByteArray) : Option (Int) := (impl_phase.l0 k l0 a1 0)
mutual
def impl_RecOk.l2 : Nat → List S_impl_RecPhase → Int → List ByteArray → Int → Option (Bool)
  | 0, _, _, _, _ => none
  | k + 1, l0, x38, x47, x49 => (if x49 < 2 then (if 0 ≤ x49 then (if x49 < (x47.length : Int) then ((impl_RecEnd.f (rdOf ByteArray.empty x47 x49)).bind fun t324 => (if t324 = 0 then ((impl_phase.f k l0 (rdOf ByteArray.empty x47 x49)).bind fun t325 => (if t325 ≤ x38 then (some false) else (impl_RecOk.l2 k l0 x38 x47 (wrap64 (x49 + 1))))) else (impl_RecOk.l2 k l0 x38 x47 (wrap64 (x49 + 1))))) else none) else none) else (impl_RecOk.l1 k l0 (wrap64 (x38 + 1))))
def impl_RecOk.l1 : Nat → List S_impl_RecPhase → Int → Option (Bool)
  | 0, _, _ => none
  | k + 1, l0, x38 => (if x38 < (l0.length : Int) then (if 0 ≤ x38 then (impl_RecOk.l2 k l0 x38 ([(rd_impl_RecPhase l0 x38).f6, (rd_impl_RecPhase l0 x38).f7] : List ByteArray) 0) else none) else (some true))
end
def impl_RecOk.l0 : Nat → List S_impl_RecPhase → Int → Option (Bool)
  | 0, _, _ => none
  | k + 1, l0, x19 => (if x19 < (l0.length : Int) then (if 0 ≤ x19 then ((impl_RecPhaseOk.f k ((rd_impl_RecPhase l0 x19).f0) ((rd_impl_RecPhase l0 x19).f1) ((rd_impl_RecPhase l0 x19).f2) ((rd_impl_RecPhase l0 x19).f3) ((rd_impl_RecPhase l0 x19).f4) ((rd_impl_RecPhase l0 x19).f5) ((rd_impl_RecPhase l0 x19).f6) ((rd_impl_RecPhase l0 x19).f7)).bind fun t302 => (if t302 = true then ((impl_phase.f k l0 ((rd_impl_RecPhase l0 x19).f0)).bind fun t303 => (if t303 = x19 then (impl_RecOk.l0 k l0 (wrap64 (x19 + 1))) else (some false))) else (some false))) else none) else (impl_RecOk.l1 k l0 0))
def impl_RecOk.f (k : Nat) (l0 : List S_impl_RecPhase) : Option (Bool) := (if (l0.length : Int) < 1 then (some false) else (if (l0.length : Int) > 12 then (some false) else (impl_RecOk.l0 k l0 0)))
def slices_Index_string_string.l0 : Nat → List ByteArray → ByteArray → Int → Option (Int)
  | 0, _, _, _ => none
  | k + 1, l0, a1, x8 => (if x8 < (l0.length : Int) then (if 0 ≤ x8 then (if a1.toList = (rdOf ByteArray.empty l0 x8).toList then (some x8) else (slices_Index_string_string.l0 k l0 a1 (wrap64 (x8 + 1)))) else none) else (some (-1)))
def slices_Index_string_string.f (k : Nat) (l0 : List ByteArray) (a1 : ByteArray) : Option (Int) := (slices_Index_string_string.l0 k l0 a1 0)
def slices_Contains_string_string.f (k : Nat) (l0 : List ByteArray) (a1 : ByteArray) : Option (Bool) := ((slices_Index_string_string.f k l0 a1).bind fun t403 => (some (decide (t403 ≥ 0))))
def impl_has.f (k : Nat) (l0 : List ByteArray) (a1 : ByteArray) : Option (Bool) := ((slices_Contains_string_string.f k l0 a1).bind fun t405 => (some t405))
def sort_Strings.f (l0 : List ByteArray) : Option (List ByteArray) := sortSf l0
def impl_with.l0 : Nat → List ByteArray → List ByteArray → List ByteArray → Int → Option (List ByteArray)
  | 0, _, _, _, _ => none
  | k + 1, l0, l1, x5, x12 => (if x12 < (l1.length : Int) then (if 0 ≤ x12 then ((impl_has.f k x5 (rdOf ByteArray.empty l1 x12)).bind fun t409 => (if t409 = true then (impl_with.l0 k l0 l1 x5 (wrap64 (x12 + 1))) else (if (x5.length + 1) * 16 ≤ 140737488355328 then (impl_with.l0 k l0 l1 (x5 ++ ([rdOf ByteArray.empty l1 x12] : List ByteArray)) (wrap64 (x12 + 1))) else none))) else none) else ((sort_Strings.f x5).bind fun t411 => (some t411)))
def impl_with.f (k : Nat) (l0 : List ByteArray) (l1 : List ByteArray) : Option (List ByteArray) := (if l0.length * 16 ≤ 140737488355328 then (impl_with.l0 k l0 l1 l0 0) else none)
def impl_RecPhase_slots.f (k : Nat) (a0_0 : ByteArray) (a0_1 : Int) (a0_2 : ByteArray) (a0_3 : ByteArray) (a0_4 : Int) (a0_5 : Int) (a0_6 : ByteArray) (a0_7 : ByteArray) : Option (List ByteArray) := (if a0_1 = 2 then ((impl_with.f k [] ([a0_2, a0_3] : List ByteArray)).bind fun t447 => (some t447)) else (some ([a0_2] : List ByteArray)))
def impl_slotsOf.f : Nat → List S_impl_RecPhase → ByteArray → Option (List ByteArray)
  | 0, _, _ => none
  | k + 1, l0, a1 => ((impl_phase.f k l0 a1).bind fun t667 => (if t667 < 0 then (some []) else (if 0 ≤ t667 then (if t667 < (l0.length : Int) then ((impl_RecPhase_slots.f k ((rd_impl_RecPhase l0 t667).f0) ((rd_impl_RecPhase l0 t667).f1) ((rd_impl_RecPhase l0 t667).f2) ((rd_impl_RecPhase l0 t667).f3) ((rd_impl_RecPhase l0 t667).f4) ((rd_impl_RecPhase l0 t667).f5) ((rd_impl_RecPhase l0 t667).f6) ((rd_impl_RecPhase l0 t667).f7)).bind fun t671 => ((impl_slotsOf.f k l0 ((rd_impl_RecPhase l0 t667).f6)).bind fun t672 => ((impl_with.f k t671 t672).bind fun t673 => ((impl_slotsOf.f k l0 ((rd_impl_RecPhase l0 t667).f7)).bind fun t676 => ((impl_with.f k t673 t676).bind fun t677 => (some t677)))))) else none) else none)))
def impl_RecSlots.f (k : Nat) (l0 : List S_impl_RecPhase) (a1 : ByteArray) : Option (List ByteArray) := ((impl_RecOk.f k l0).bind fun t734 => (if t734 = true then ((impl_slotsOf.f k l0 a1).bind fun t736 => (some t736)) else (some [])))
def laws_eqStringS.l0 : Nat → List ByteArray → List ByteArray → Int → Option (Bool)
  | 0, _, _, _ => none
  | k + 1, l0, l1, x5 => (if x5 < (l0.length : Int) then (if 0 ≤ x5 then (if x5 < (l1.length : Int) then (if (rdOf ByteArray.empty l0 x5).toList = (rdOf ByteArray.empty l1 x5).toList then (laws_eqStringS.l0 k l0 l1 (wrap64 (x5 + 1))) else (some false)) else none) else none) else (some true))
def laws_eqStringS.f (k : Nat) (l0 : List ByteArray) (l1 : List ByteArray) : Option (Bool) := (if (l0.length : Int) = (l1.length : Int) then (laws_eqStringS.l0 k l0 l1 0) else (some false))
def laws_eqRecPhase.f (a0_0 : ByteArray) (a0_1 : Int) (a0_2 : ByteArray) (a0_3 : ByteArray) (a0_4 : Int) (a0_5 : Int) (a0_6 : ByteArray) (a0_7 : ByteArray) (a1_0 : ByteArray) (a1_1 : Int) (a1_2 : ByteArray) (a1_3 : ByteArray) (a1_4 : Int) (a1_5 : Int) (a1_6 : ByteArray) (a1_7 : ByteArray) : Option (Bool) := (if a0_0.toList = a1_0.toList then (if a0_1 = a1_1 then (if a0_2.toList = a1_2.toList then (if a0_3.toList = a1_3.toList then (if a0_4 = a1_4 then (if a0_5 = a1_5 then (if a0_6.toList = a1_6.toList then (if a0_7.toList = a1_7.toList then (some true) else (some false)) else (some false)) else (some false)) else (some false)) else (some false)) else (some false)) else (some false)) else (some false))
def laws_eqRecPhaseS.l0 : Nat → List S_impl_RecPhase → List S_impl_RecPhase → Int → Option (Bool)
  | 0, _, _, _ => none
  | k + 1, l0, l1, x5 => (if x5 < (l0.length : Int) then (if 0 ≤ x5 then (if x5 < (l1.length : Int) then ((laws_eqRecPhase.f ((rd_impl_RecPhase l0 x5).f0) ((rd_impl_RecPhase l0 x5).f1) ((rd_impl_RecPhase l0 x5).f2) ((rd_impl_RecPhase l0 x5).f3) ((rd_impl_RecPhase l0 x5).f4) ((rd_impl_RecPhase l0 x5).f5) ((rd_impl_RecPhase l0 x5).f6) ((rd_impl_RecPhase l0 x5).f7) ((rd_impl_RecPhase l1 x5).f0) ((rd_impl_RecPhase l1 x5).f1) ((rd_impl_RecPhase l1 x5).f2) ((rd_impl_RecPhase l1 x5).f3) ((rd_impl_RecPhase l1 x5).f4) ((rd_impl_RecPhase l1 x5).f5) ((rd_impl_RecPhase l1 x5).f6) ((rd_impl_RecPhase l1 x5).f7)).bind fun t506 => (if t506 = true then (laws_eqRecPhaseS.l0 k l0 l1 (wrap64 (x5 + 1))) else (some false))) else none) else none) else (some true))
def laws_eqRecPhaseS.f (k : Nat) (l0 : List S_impl_RecPhase) (l1 : List S_impl_RecPhase) : Option (Bool) := (if (l0.length : Int) = (l1.length : Int) then (laws_eqRecPhaseS.l0 k l0 l1 0) else (some false))
def laws_markText.l0 : Nat → Int → ByteArray → Option (ByteArray)
  | 0, _, _ => none
  | k + 1, x0, x3 => (if x0 > 0 then (if (((⟨#[UInt8.ofNat (IntKind.wrap .u8 (wrap64 (48 + (Int.tmod x0 10)))).toNat]⟩ : ByteArray).size + x3.size : Nat) : Int) ≤ 9223372036854775807 then (laws_markText.l0 k (wrap64 (Int.tdiv x0 10)) ((⟨#[UInt8.ofNat (IntKind.wrap .u8 (wrap64 (48 + (Int.tmod x0 10)))).toNat]⟩ : ByteArray) ++ x3)) else none) else (if (((⟨#[109]⟩ : ByteArray).size + x3.size : Nat) : Int) ≤ 9223372036854775807 then (some ((⟨#[109]⟩ : ByteArray) ++ x3)) else none))
def laws_markText.f (k : Nat) (a0 : Int) : Option (ByteArray) := (if a0 ≤ 0 then (some (⟨#[109, 48]⟩ : ByteArray)) else (laws_markText.l0 k a0 (⟨#[]⟩ : ByteArray)))
def laws_markRecPhaseS.l0 : Nat → List S_impl_RecPhase → Int → Int → List S_impl_RecPhase → Option (Int × (List S_impl_RecPhase))
  | 0, _, _, _, _ => none
  | k + 1, l0, x1, x5, x1000 => (if x1000.length = l0.length then (if x5 < (l0.length : Int) then ((laws_markText.f k x1).bind fun t590 => (if 0 ≤ x5 then ((laws_markText.f k (wrap64 ((wrap64 (x1 + 1)) + 1))).bind fun t591 => ((laws_markText.f k (wrap64 ((wrap64 ((wrap64 (x1 + 1)) + 1)) + 1))).bind fun t592 => ((laws_markText.f k (wrap64 ((wrap64 ((wrap64 ((wrap64 ((wrap64 ((wrap64 (x1 + 1)) + 1)) + 1)) + 1)) + 1)) + 1))).bind fun t593 => ((laws_markText.f k (wrap64 ((wrap64 ((wrap64 ((wrap64 ((wrap64 ((wrap64 ((wrap64 (x1 + 1)) + 1)) + 1)) + 1)) + 1)) + 1)) + 1))).bind fun t594 => (laws_markRecPhaseS.l0 k l0 (wrap64 ((wrap64 ((wrap64 ((wrap64 ((wrap64 ((wrap64 ((wrap64 ((wrap64 (x1 + 1)) + 1)) + 1)) + 1)) + 1)) + 1)) + 1)) + 1)) (wrap64 (x5 + 1)) (x1000.set (x5).toNat (⟨t590, wrap64 (x1 + 1), t591, t592, wrap64 ((wrap64 ((wrap64 ((wrap64 (x1 + 1)) + 1)) + 1)) + 1), wrap64 ((wrap64 ((wrap64 ((wrap64 ((wrap64 (x1 + 1)) + 1)) + 1)) + 1)) + 1), t593, t594⟩ : S_impl_RecPhase))))))) else none)) else (some (x1, x1000))) else none)
def laws_markRecPhaseS.f (k : Nat) (l0 : List S_impl_RecPhase) (a1 : Int) : Option (Int × (List S_impl_RecPhase)) := (laws_markRecPhaseS.l0 k l0 a1 0 l0)
def laws_markStringS.l0 : Nat → List ByteArray → Int → Int → List ByteArray → Option (Int × (List ByteArray))
  | 0, _, _, _, _ => none
  | k + 1, l0, x1, x5, x1000 => (if x1000.length = l0.length then (if x5 < (l0.length : Int) then ((laws_markText.f k x1).bind fun t796 => (if 0 ≤ x5 then (laws_markStringS.l0 k l0 (wrap64 (x1 + 1)) (wrap64 (x5 + 1)) (x1000.set (x5).toNat t796)) else none)) else (some (x1, x1000))) else none)
def laws_markStringS.f (k : Nat) (l0 : List ByteArray) (a1 : Int) : Option (Int × (List ByteArray)) := (laws_markStringS.l0 k l0 a1 0 l0)
def laws_heldStringS.l0 : Nat → List ByteArray → Int → Int → Option (Int)
  | 0, _, _, _ => none
  | k + 1, l0, x1, x5 => (if x5 < (l0.length : Int) then (if 0 ≤ x5 then ((laws_markText.f k x1).bind fun t827 => (if (rdOf ByteArray.empty l0 x5).toList = t827.toList then (laws_heldStringS.l0 k l0 (wrap64 (x1 + 1)) (wrap64 (x5 + 1))) else (some (-1)))) else none) else (some x1))
def laws_heldStringS.f (k : Nat) (l0 : List ByteArray) (a1 : Int) : Option (Int) := (laws_heldStringS.l0 k l0 a1 0)
def laws_FnExactRecSlots.f (k : Nat) (l0 : List S_laws_RecPhase) (a1 : ByteArray) : Option (Bool) := (if (a1.size : Int) > 1048576 then (some true) else ((laws_szRecPhaseS.f k l0 1048576).bind fun t829 => (if t829 < 0 then (some true) else ((laws_toRecPhaseS.f k l0).bind fun t832 => ((spec_RecSlots.f k t832 a1).bind fun t833 => ((laws_toRecPhaseS.f k l0).bind fun t835 => ((impl_RecSlots.f k t835 a1).bind fun t837 => ((laws_eqStringS.f k t837 t833).bind fun t840 => (if t840 = true then ((laws_toRecPhaseS.f k l0).bind fun t845 => ((laws_eqRecPhaseS.f k t835 t845).bind fun t846 => (if t846 = true then ((laws_markRecPhaseS.f k t835 1).bind fun t848 => (if t848.1 < 0 then (some false) else ((laws_eqStringS.f k t837 t833).bind fun t851 => (if t851 = true then ((laws_markStringS.f k t837 1).bind fun t853 => ((laws_heldStringS.f k t853.2 1).bind fun t855 => (if t855 < 0 then (some false) else (if t855 = t853.1 then ((laws_toRecPhaseS.f k l0).bind fun t858 => ((impl_RecSlots.f k t858 a1).bind fun t859 => ((laws_eqStringS.f k t859 t833).bind fun t862 => (if t862 = true then ((laws_heldStringS.f k t853.2 1).bind fun t864 => (if t864 < 0 then (some false) else (if t864 = t853.1 then (some true) else (some false)))) else (some false))))) else (some false))))) else (some false))))) else (some false)))) else (some false))))))))))
end Go.Proofs.Ytodeegjblililaa.RS
namespace Go.Proofs.Ytodeegjblililaa.Pure
open Go Go.RowKit Go.Aw Go.Proofs.Ytodeegjblililaa.RS
set_option linter.unusedVariables false
set_option linter.unusedSimpArgs false
/-! ### general words -/
theorem ev_pos {α : Type} {c : Prop} {d : Decidable c} {g f : Nat → Option α} {r : α} (h : c) (k : Ev g r) : Ev (fun n => @ite _ c d (g n) (f n)) r := Ev.congr (fun _ => if_pos h) k
theorem ev_neg {α : Type} {c : Prop} {d : Decidable c} {g f : Nat → Option α} {r : α} (h : ¬ c) (k : Ev f r) : Ev (fun n => @ite _ c d (g n) (f n)) r := Ev.congr (fun _ => if_neg h) k
theorem ev_ret {α : Type} {a r : α} (h : a = r) : Ev (fun _ => some a) r := h ▸ Ev.now a
theorem ev_let {α β : Type} {g : Option α} {a : α} {r : β} {f : Nat → α → Option β} (h : g = some a) (k : Ev (fun n => f n a) r) : Ev (fun n => g.bind (f n)) r := by
  subst h; exact k
theorem ev_eq {α : Type} {g : Nat → Option α} {a r : α} (k : Ev g a) (h : a = r) : Ev g r := h ▸ k
theorem ev_split {α : Type} {c : Prop} {d : Decidable c} {g f : Nat → Option α} {r : α} (h : c → Ev g r) (k : ¬ c → Ev f r) : Ev (fun n => @ite _ c d (g n) (f n)) r := by
  by_cases q : c
  · exact ev_pos q (h q)
  · exact ev_neg q (k q)
/-- a value that is called on -/
theorem ev_of {α β : Type} {g : Nat → Option α} {a : α} {r : β} {f : Nat → α → Option β} (h : Ev g a) (k : Ev (fun n => f n a) r) : Ev (fun n => (g n).bind (f n)) r := Ev.bind h k
theorem ex_ret {α : Type} {a : α} : ∃ q, Ev (fun _ => some a) q := ⟨a, Ev.now a⟩
theorem ex_ite {α : Type} {c : Prop} {d : Decidable c} {g f : Nat → Option α} (h : ∃ q, Ev g q) (k : ∃ q, Ev f q) : ∃ q, Ev (fun n => @ite _ c d (g n) (f n)) q := by
  by_cases q : c
  · exact h.imp fun _ e => ev_pos q e
  · exact k.imp fun _ e => ev_neg q e
theorem ex_pos {α : Type} {c : Prop} {d : Decidable c} {g f : Nat → Option α} (h : c) (k : ∃ q, Ev g q) : ∃ q, Ev (fun n => @ite _ c d (g n) (f n)) q := k.imp fun _ e => ev_pos h e
theorem ex_bind {α β : Type} {g : Nat → Option α} {f : Nat → α → Option β} (h : ∃ a, Ev g a) (k : ∀ a, ∃ q, Ev (fun n => f n a) q) : ∃ q, Ev (fun n => (g n).bind (f n)) q := by
  obtain ⟨a, h⟩ := h
  exact (k a).imp fun _ e => Ev.bind h e
theorem ex_step {α : Type} {g f : Nat → Option α} (h : ∀ k, g (k + 1) = f k) (k : ∃ q, Ev f q) : ∃ q, Ev g q := k.imp fun _ e => Ev.step h e
theorem w64 {x : Int} (h0 : -9223372036854775808 ≤ x) (h1 : x ≤ 9223372036854775807) : wrap64 x = x := by unfold wrap64; omega
theorem wsucc {i n : Nat} (h : i < n) (hn : n ≤ 9223372036854775807) : wrap64 ((i : Int) + 1) = ((i + 1 : Nat) : Int) := by unfold wrap64; omega
theorem wplus {a : Int} (h0 : 0 ≤ a) (h1 : a ≤ 4611686018427387904) : wrap64 (a + 1) = a + 1 := by unfold wrap64; omega
theorem pre64 {i : Nat} (h : ¬ i = 0) (hi : i ≤ 9223372036854775807) : wrap64 ((i : Int) - 1) = ((i - 1 : Nat) : Int) := by unfold wrap64; omega
theorem getD_eq {α : Type} (d : α) (xs : List α) (i : Nat) (h : i < xs.length) : xs.getD i d = xs[i] := by
  rw [List.getD_eq_getElem?_getD, List.getElem?_eq_getElem h]; rfl
theorem mem_getD {α : Type} (d : α) (xs : List α) (i : Nat) (h : i < xs.length) : xs.getD i d ∈ xs := by
  rw [getD_eq d xs i h]; exact List.getElem_mem h
theorem getD_set {α : Type} (d : α) (xs : List α) (i j : Nat) (v : α) (h : i < xs.length) : (xs.set i v).getD j d = if j = i then v else xs.getD j d := by
  rw [List.getD_eq_getElem?_getD, List.getD_eq_getElem?_getD, List.getElem?_set]
  by_cases e : i = j
  · subst e; simp [h]
  · rw [if_neg e, if_neg (fun q => e q.symm)]
theorem fill_end {α : Type} (d : α) (z y : List α) (hl : y.length = z.length) (h : ∀ j, j < z.length → y.getD j d = z.getD j d) : y = z := by
  apply List.ext_getElem hl
  intro j h1 h2
  have e := h j h2
  rwa [getD_eq d y j h1, getD_eq d z j h2] at e
theorem fill_step {α : Type} (d : α) (z y : List α) (i : Nat) (hl : y.length = z.length) (hi : i < z.length) (h : ∀ j, j < i → y.getD j d = z.getD j d) (v : α) (hv : v = z.getD i d) :
    (y.set i v).length = z.length ∧ ∀ j, j < i + 1 → (y.set i v).getD j d = z.getD j d := by
  refine ⟨by simpa using hl, fun j hj => ?_⟩
  rw [getD_set d y i j v (by omega)]
  by_cases e : j = i
  · rw [if_pos e, e, hv]
  · rw [if_neg e]; exact h j (by omega)
theorem rdOf_nat {α : Type} (d : α) (xs : List α) (i : Nat) : rdOf d xs (i : Int) = xs.getD i d := by simp [rdOf]
theorem rd_nat (xs : List Int) (i : Nat) : rd xs (i : Int) = xs.getD i 0 := by simp [rd]
theorem map_getD {α β : Type} (e : β) (d : α) (f : α → β) (l : List α) (i : Nat) (h : i < l.length) : (l.map f).getD i e = f (l.getD i d) := by
  rw [getD_eq e _ i (by simpa using h), getD_eq d l i h, List.getElem_map]
/-- a list told from its end: what is left from place i on -/
theorem loopL {α : Type} (d : α) (l : List α) {P : Nat → List α → Prop} (h0 : P l.length []) (hs : ∀ i x r, i < l.length → l.getD i d = x → x ∈ l → l.drop (i + 1) = r → P (i + 1) r → P i (x :: r)) : P 0 l := by
  have key : ∀ (n i : Nat), i + n = l.length → P i (l.drop i) := fun n => by
    induction n with
    | zero =>
      intro i hi
      have e : i = l.length := by omega
      subst e; rw [List.drop_length]; exact h0
    | succ n ih =>
      intro i hi
      have hlt : i < l.length := by omega
      have e : l.drop i = l.getD i d :: l.drop (i + 1) := by rw [List.drop_eq_getElem_cons hlt, getD_eq d l i hlt]
      rw [e]
      exact hs i _ _ hlt rfl (mem_getD d l i hlt) rfl (ih (i + 1) (by omega))
  simpa using key l.length 0 (by omega)
/-- the element ahead of place i -/
def ahead {α : Type} (d : α) (l : List α) (i : Nat) : Option α := if i = 0 then none else some (l.getD (i - 1) d)
theorem ahead_zero {α : Type} (d : α) (l : List α) : ahead d l 0 = none := rfl
theorem ahead_succ {α : Type} (d : α) (l : List α) (i : Nat) : ahead d l (i + 1) = some (l.getD i d) := by simp [ahead]
theorem ahead_pos {α : Type} (d : α) (l : List α) (i : Nat) (h : ¬ i = 0) : ahead d l i = some (l.getD (i - 1) d) := if_neg h
/-! ### the order of bytes -/
theorem bl_irr : ∀ x : List UInt8, Op.bytesLess x x = false
  | [] => rfl
  | a :: x => by simp [Op.bytesLess, bl_irr x]
theorem bl_asym : ∀ x y : List UInt8, Op.bytesLess x y = true → Op.bytesLess y x = false
  | [], [], _ => rfl
  | [], _ :: _, _ => rfl
  | _ :: _, [], h => by simp [Op.bytesLess] at h
  | a :: x, b :: y, h => by
    simp only [Op.bytesLess, Bool.or_eq_true, Bool.and_eq_true, decide_eq_true_eq, beq_iff_eq] at h
    simp only [Op.bytesLess, Bool.or_eq_false_iff, Bool.and_eq_false_iff, decide_eq_false_iff_not, beq_eq_false_iff_ne]
    rcases h with h | ⟨rfl, h⟩
    · exact ⟨UInt8.lt_asymm h, .inl (fun e => by subst e; exact UInt8.lt_irrefl _ h)⟩
    · exact ⟨UInt8.lt_irrefl _, .inr (bl_asym x y h)⟩
theorem bl_tri : ∀ x y : List UInt8, Op.bytesLess x y = true ∨ x = y ∨ Op.bytesLess y x = true
  | [], [] => .inr (.inl rfl)
  | [], _ :: _ => .inl rfl
  | _ :: _, [] => .inr (.inr rfl)
  | a :: x, b :: y => by
    simp only [Op.bytesLess, Bool.or_eq_true, Bool.and_eq_true, decide_eq_true_eq, beq_iff_eq, List.cons.injEq]
    rcases UInt8.lt_or_lt_of_ne (a := a) (b := b) |> fun f => (Classical.em (a = b)).imp id f with rfl | h | h
    · rcases bl_tri x y with q | rfl | q
      · exact .inl (.inr ⟨rfl, q⟩)
      · exact .inr (.inl ⟨rfl, rfl⟩)
      · exact .inr (.inr (.inr ⟨rfl, q⟩))
    · exact .inl (.inl h)
    · exact .inr (.inr (.inl h))
theorem bl_trans : ∀ x y z : List UInt8, Op.bytesLess x y = true → Op.bytesLess y z = true → Op.bytesLess x z = true
  | [], _, _ :: _, _, _ => rfl
  | [], [], [], h, _ => h
  | [], _ :: _, [], _, h => by simp [Op.bytesLess] at h
  | _ :: _, [], _, h, _ => by simp [Op.bytesLess] at h
  | _ :: _, _ :: _, [], _, h => by simp [Op.bytesLess] at h
  | a :: x, b :: y, c :: z, h, k => by
    simp only [Op.bytesLess, Bool.or_eq_true, Bool.and_eq_true, decide_eq_true_eq, beq_iff_eq] at h k ⊢
    rcases h with h | ⟨rfl, h⟩
    · rcases k with k | ⟨rfl, k⟩
      · exact .inl (UInt8.lt_trans h k)
      · exact .inl h
    · rcases k with k | ⟨rfl, k⟩
      · exact .inl k
      · exact .inr ⟨rfl, bl_trans x y z h k⟩
theorem ba_ext {a b : ByteArray} (h : a.toList = b.toList) : a = b := by
  apply ByteArray.ext
  apply Array.ext'
  simpa [ByteArray.toList_eq] using h
theorem ba_iff {a b : ByteArray} : a.toList = b.toList ↔ a = b := ⟨ba_ext, fun h => h ▸ rfl⟩
/-- a text ahead of another -/
def lt (a b : ByteArray) : Bool := Op.bytesLess a.toList b.toList
theorem lt_irr (a : ByteArray) : lt a a = false := bl_irr _
theorem lt_asym {a b : ByteArray} (h : lt a b = true) : lt b a = false := bl_asym _ _ h
theorem lt_trans {a b c : ByteArray} (h : lt a b = true) (k : lt b c = true) : lt a c = true := bl_trans _ _ _ h k
theorem lt_tri (a b : ByteArray) : lt a b = true ∨ a = b ∨ lt b a = true := (bl_tri a.toList b.toList).imp id (·.imp ba_ext id)
theorem lt_ne {a b : ByteArray} (h : lt a b = true) : a ≠ b := fun e => by rw [e, lt_irr] at h; cases h
/-- pair by pair: the first, then the second -/
def befB (a0 a1 b0 b1 : ByteArray) : Bool := lt a0 b0 || (decide (a0 = b0) && lt a1 b1)
/-! ### marks: a text a number -/
theorem one_size (x : Int) : ((⟨#[UInt8.ofNat x.toNat]⟩ : ByteArray)).size = 1 := rfl
theorem markLoop_ev : ∀ (n : Nat) (x : Int) (s : ByteArray), 0 ≤ x → x.toNat ≤ n → x ≤ 4611686018427387904 → s.size + x.toNat ≤ 4611686018427387904 → ∃ r, Ev (fun k => laws_markText.l0 k x s) r
  | 0, x, s, h0, hn, hx, hs => ⟨(⟨#[109]⟩ : ByteArray) ++ s, by
      refine Ev.step (fun k => by rw [laws_markText.l0]) ?_
      exact ev_neg (by omega) (ev_pos (by show ((1 + s.size : Nat) : Int) ≤ _; omega) (ev_ret rfl))⟩
  | n + 1, x, s, h0, hn, hx, hs => by
    by_cases c : x > 0
    · have hd : Int.tdiv x 10 = x / 10 := Int.tdiv_eq_ediv_of_nonneg (by omega)
      have hw : wrap64 (Int.tdiv x 10) = x / 10 := by rw [hd]; unfold wrap64; omega
      obtain ⟨r, hr⟩ := markLoop_ev n (x / 10) ((⟨#[UInt8.ofNat (IntKind.wrap .u8 (wrap64 (48 + (Int.tmod x 10)))).toNat]⟩ : ByteArray) ++ s) (by omega) (by omega) (by omega) (by rw [ByteArray.size_append, one_size]; omega)
      refine ⟨r, ?_⟩
      refine Ev.step (fun k => by rw [laws_markText.l0]) ?_
      refine ev_pos c ?_
      rw [hw]
      exact ev_pos (by rw [one_size]; omega) hr
    · refine ⟨(⟨#[109]⟩ : ByteArray) ++ s, ?_⟩
      refine Ev.step (fun k => by rw [laws_markText.l0]) ?_
      exact ev_neg c (ev_pos (by show ((1 + s.size : Nat) : Int) ≤ _; omega) (ev_ret rfl))
theorem markText_ex (x : Int) (h : x ≤ 1152921504606846976) : ∃ r, Ev (fun k => laws_markText.f k x) r := by
  unfold laws_markText.f
  by_cases c : x ≤ 0
  · exact ⟨_, ev_pos c (ev_ret rfl)⟩
  · obtain ⟨r, hr⟩ := markLoop_ev x.toNat x (⟨#[]⟩ : ByteArray) (by omega) (Nat.le_refl _) (by omega) (by show 0 + x.toNat ≤ _; omega)
    exact ⟨r, ev_neg c hr⟩
open Classical in
noncomputable def mtx (x : Int) : ByteArray := if h : x ≤ 1152921504606846976 then (markText_ex x h).choose else ByteArray.empty
theorem markText_ev (x : Int) (h : x ≤ 1152921504606846976) : Ev (fun k => laws_markText.f k x) (mtx x) := by
  unfold mtx
  rw [dif_pos h]
  exact (markText_ex x h).choose_spec
theorem range_map_getD {α : Type} (d : α) (n : Nat) (f : Nat → α) (i : Nat) (h : i < n) : ((List.range n).map f).getD i d = f i := by
  rw [List.getD_eq_getElem?_getD, List.getElem?_map, List.getElem?_range h]; rfl
/-! ### the laws' own words -/
theorem szRecPhase_ev (x : S_laws_RecPhase) (h : ok_laws_RecPhase x) (a : Int) : ∃ q, Ev (fun k => laws_szRecPhase.f x.f0 x.f1 x.f2 x.f3 x.f4 x.f5 x.f6 x.f7 a) q := by
  have h0 := h.1
  have h1 := h.2.1
  have h2 := h.2.2.1
  have h3 := h.2.2.2.1
  have h4 := h.2.2.2.2.1
  have h5 := h.2.2.2.2.2.1
  have h6 := h.2.2.2.2.2.2.1
  have h7 := h.2.2.2.2.2.2.2
  unfold laws_szRecPhase.f
  repeat' (first | exact ex_ret | refine ex_ite ?_ ?_ | refine ex_bind ?_ (fun t => ?_))
theorem szRecPhaseS_ev (l : List S_laws_RecPhase) (hl : l.length ≤ 140737488351232) (h : ∀ z ∈ l, ok_laws_RecPhase z) (a : Int) : ∃ q, Ev (fun k => laws_szRecPhaseS.f k l a) q := by
  have key : ∀ b, ∃ q, Ev (fun k => laws_szRecPhaseS.l0 k l b 0) q := loopL z_laws_RecPhase l (P := fun i _ => ∀ b, ∃ q, Ev (fun k => laws_szRecPhaseS.l0 k l b (i : Int)) q)
    (fun b => ex_step (fun k => by rw [laws_szRecPhaseS.l0]) ⟨_, ev_neg (by omega) (ev_ret rfl)⟩)
    (fun i x r hi hx hm _ ih b => ex_step (fun k => by rw [laws_szRecPhaseS.l0]) (ex_pos (by omega) (ex_pos (by omega) (by
      rw [wsucc hi (by omega)]
      refine ex_bind (by rw [show rd_laws_RecPhase l (i : Int) = x from by unfold rd_laws_RecPhase; simpa using hx]; exact szRecPhase_ev x (h x hm) b) (fun t => ex_ite ex_ret (ih _))))))
  unfold laws_szRecPhaseS.f
  exact ex_ite ex_ret (key _)
def cv_laws_RecPhase (x : S_laws_RecPhase) : S_impl_RecPhase := ⟨x.f0, x.f1, x.f2, x.f3, x.f4, x.f5, x.f6, x.f7⟩
theorem toRecPhase_ev (x : S_laws_RecPhase) (h : ok_laws_RecPhase x) : Ev (fun k => laws_toRecPhase.f x.f0 x.f1 x.f2 x.f3 x.f4 x.f5 x.f6 x.f7) ((cv_laws_RecPhase x).f0, (cv_laws_RecPhase x).f1, (cv_laws_RecPhase x).f2, (cv_laws_RecPhase x).f3, (cv_laws_RecPhase x).f4, (cv_laws_RecPhase x).f5, (cv_laws_RecPhase x).f6, (cv_laws_RecPhase x).f7) := by
  have h0 := h.1
  have h1 := h.2.1
  have h2 := h.2.2.1
  have h3 := h.2.2.2.1
  have h4 := h.2.2.2.2.1
  have h5 := h.2.2.2.2.2.1
  have h6 := h.2.2.2.2.2.2.1
  have h7 := h.2.2.2.2.2.2.2
  unfold laws_toRecPhase.f
  repeat' (first | exact ev_ret rfl)
theorem toRecPhaseS_ev (l : List S_laws_RecPhase) (hl : l.length ≤ 1353245080339) (h : ∀ z ∈ l, ok_laws_RecPhase z) : Ev (fun k => laws_toRecPhaseS.f k l) (l.map cv_laws_RecPhase) := by
  unfold laws_toRecPhaseS.f
  refine ev_pos (by omega) ?_
  refine loopL z_laws_RecPhase l (P := fun i _ => ∀ y : List S_impl_RecPhase, y.length = l.length → (∀ j, j < i → y.getD j z_impl_RecPhase = (l.map cv_laws_RecPhase).getD j z_impl_RecPhase) → Ev (fun k => laws_toRecPhaseS.l0 k l y (i : Int)) (l.map cv_laws_RecPhase))
    (fun y hyl hy => by
      obtain rfl := fill_end z_impl_RecPhase (l.map cv_laws_RecPhase) y (by simpa using hyl) (fun j hj => hy j (by simpa using hj))
      refine Ev.step (fun k => by rw [laws_toRecPhaseS.l0]) (ev_neg (by omega) (ev_ret rfl)))
    (fun i x r hi hx hm _ ih y hyl hy => by
      refine Ev.step (fun k => by rw [laws_toRecPhaseS.l0]) (ev_pos (by omega) (ev_pos (by omega) ?_))
      rw [wsucc hi (by omega), Int.toNat_natCast, show rd_laws_RecPhase l (i : Int) = x from by unfold rd_laws_RecPhase; simpa using hx]
      refine Ev.bind (toRecPhase_ev x (h x hm)) (ev_pos (by omega) ?_)
      obtain ⟨h1, h2⟩ := fill_step z_impl_RecPhase (l.map cv_laws_RecPhase) y i (by simpa using hyl) (by simpa using hi) hy (cv_laws_RecPhase x) (by rw [map_getD z_impl_RecPhase z_laws_RecPhase _ l i hi, hx])
      exact ih _ (by rw [h1]; simp) h2) _ (by simp) (fun j hj => absurd hj (Nat.not_lt_zero _))
theorem eqStringS_ev (l : List ByteArray) (hl : l.length ≤ 140737488351232) : Ev (fun k => laws_eqStringS.f k l l) true := by
  unfold laws_eqStringS.f
  refine ev_pos rfl ?_
  refine loopL ByteArray.empty l (P := fun i _ => Ev (fun k => laws_eqStringS.l0 k l l (i : Int)) true)
    (Ev.step (fun k => by rw [laws_eqStringS.l0]) (ev_neg (by omega) (ev_ret rfl)))
    (fun i x r hi hx hm _ ih => Ev.step (fun k => by rw [laws_eqStringS.l0]) (ev_pos (by omega) (ev_pos (by omega) (ev_pos (by omega) (by
      rw [wsucc hi (by omega)]
      exact ev_pos rfl ih)))))
def ok_impl_RecPhase (y : S_impl_RecPhase) : Prop := (y.f0.size ≤ 140737488351232) ∧ ((Lit.int .i64 y.f1).wf = true) ∧ (y.f2.size ≤ 140737488351232) ∧ (y.f3.size ≤ 140737488351232) ∧ ((Lit.int .i64 y.f4).wf = true) ∧ ((Lit.int .i64 y.f5).wf = true) ∧ (y.f6.size ≤ 140737488351232) ∧ (y.f7.size ≤ 140737488351232)
theorem eqRecPhase_ev (x : S_impl_RecPhase) (h : ok_impl_RecPhase x) : Ev (fun k => laws_eqRecPhase.f x.f0 x.f1 x.f2 x.f3 x.f4 x.f5 x.f6 x.f7 x.f0 x.f1 x.f2 x.f3 x.f4 x.f5 x.f6 x.f7) true := by
  have h0 := h.1
  have h1 := h.2.1
  have h2 := h.2.2.1
  have h3 := h.2.2.2.1
  have h4 := h.2.2.2.2.1
  have h5 := h.2.2.2.2.2.1
  have h6 := h.2.2.2.2.2.2.1
  have h7 := h.2.2.2.2.2.2.2
  unfold laws_eqRecPhase.f
  repeat' (first | exact ev_ret rfl | refine ev_pos rfl ?_ | refine ev_neg (by simp) ?_)
theorem eqRecPhaseS_ev (l : List S_impl_RecPhase) (hl : l.length ≤ 140737488351232) (h : ∀ z ∈ l, ok_impl_RecPhase z) : Ev (fun k => laws_eqRecPhaseS.f k l l) true := by
  unfold laws_eqRecPhaseS.f
  refine ev_pos rfl ?_
  refine loopL z_impl_RecPhase l (P := fun i _ => Ev (fun k => laws_eqRecPhaseS.l0 k l l (i : Int)) true)
    (Ev.step (fun k => by rw [laws_eqRecPhaseS.l0]) (ev_neg (by omega) (ev_ret rfl)))
    (fun i x r hi hx hm _ ih => Ev.step (fun k => by rw [laws_eqRecPhaseS.l0]) (ev_pos (by omega) (ev_pos (by omega) (ev_pos (by omega) (by
      rw [wsucc hi (by omega)]
      rw [show rd_impl_RecPhase l (i : Int) = x from by unfold rd_impl_RecPhase; simpa using hx]
      exact Ev.bind (eqRecPhase_ev x (h x hm)) (ev_pos rfl ih))))))
noncomputable def mk_RecPhaseS (n : Nat) (a : Int) : List S_impl_RecPhase := (List.range n).map fun (i : Nat) => ⟨mtx (a + 8 * (i : Int)), a + 8 * (i : Int) + 1, mtx (a + 8 * (i : Int) + 1 + 1), mtx (a + 8 * (i : Int) + 1 + 1 + 1), a + 8 * (i : Int) + 1 + 1 + 1 + 1, a + 8 * (i : Int) + 1 + 1 + 1 + 1 + 1, mtx (a + 8 * (i : Int) + 1 + 1 + 1 + 1 + 1 + 1), mtx (a + 8 * (i : Int) + 1 + 1 + 1 + 1 + 1 + 1 + 1)⟩
theorem mk_RecPhaseS_length (n : Nat) (a : Int) : (mk_RecPhaseS n a).length = n := by simp [mk_RecPhaseS]
theorem markRecPhaseS_ev (l : List S_impl_RecPhase) (a : Int) (ha : 0 ≤ a) (hb : a ≤ 281474976710656) (hn : l.length ≤ 17592186044416) : Ev (fun k => laws_markRecPhaseS.f k l a) (a + 8 * (l.length : Int), mk_RecPhaseS l.length a) := by
  unfold laws_markRecPhaseS.f
  have key := loopL z_impl_RecPhase l (P := fun i _ => ∀ y : List S_impl_RecPhase, y.length = l.length → (∀ j, j < i → y.getD j z_impl_RecPhase = (mk_RecPhaseS l.length a).getD j z_impl_RecPhase) → Ev (fun k => laws_markRecPhaseS.l0 k l (a + 8 * (i : Int)) (i : Int) y) (a + 8 * (l.length : Int), mk_RecPhaseS l.length a))
    (fun y hyl hy => by
      obtain rfl := fill_end z_impl_RecPhase (mk_RecPhaseS l.length a) y (by rw [mk_RecPhaseS_length]; exact hyl) (fun j hj => hy j (by rwa [mk_RecPhaseS_length] at hj))
      exact Ev.step (fun k => by rw [laws_markRecPhaseS.l0]) (ev_pos hyl (ev_neg (by omega) (ev_ret rfl))))
    (fun i x r hi hx hm _ ih y hyl hy => by
      obtain ⟨h1, h2⟩ := fill_step z_impl_RecPhase (mk_RecPhaseS l.length a) y i (by rw [mk_RecPhaseS_length]; exact hyl) (by rw [mk_RecPhaseS_length]; exact hi) hy _ (range_map_getD _ _ _ i hi).symm
      have hk := ih _ (by simpa using hyl) h2
      have hbd : 0 ≤ a + 8 * (i : Int) ∧ a + 8 * (i : Int) ≤ 1125899906842624 := by omega
      have e : a + 8 * ((i + 1 : Nat) : Int) = a + 8 * (i : Int) + 1 + 1 + 1 + 1 + 1 + 1 + 1 + 1 := by omega
      rw [e] at hk
      clear h1 h2 hy e ih
      generalize a + 8 * (i : Int) = b at hk hbd ⊢
      refine Ev.step (fun k => by rw [laws_markRecPhaseS.l0]) (ev_pos hyl (ev_pos (by omega) ?_))
      have w1 : wrap64 (b + 1) = b + 1 := by unfold wrap64; omega
      have w2 : wrap64 (b + 1 + 1) = b + 1 + 1 := by unfold wrap64; omega
      have w3 : wrap64 (b + 1 + 1 + 1) = b + 1 + 1 + 1 := by unfold wrap64; omega
      have w4 : wrap64 (b + 1 + 1 + 1 + 1) = b + 1 + 1 + 1 + 1 := by unfold wrap64; omega
      have w5 : wrap64 (b + 1 + 1 + 1 + 1 + 1) = b + 1 + 1 + 1 + 1 + 1 := by unfold wrap64; omega
      have w6 : wrap64 (b + 1 + 1 + 1 + 1 + 1 + 1) = b + 1 + 1 + 1 + 1 + 1 + 1 := by unfold wrap64; omega
      have w7 : wrap64 (b + 1 + 1 + 1 + 1 + 1 + 1 + 1) = b + 1 + 1 + 1 + 1 + 1 + 1 + 1 := by unfold wrap64; omega
      have w8 : wrap64 (b + 1 + 1 + 1 + 1 + 1 + 1 + 1 + 1) = b + 1 + 1 + 1 + 1 + 1 + 1 + 1 + 1 := by unfold wrap64; omega
      simp only [w1, w2, w3, w4, w5, w6, w7, w8, wsucc hi (by omega : l.length ≤ 9223372036854775807), Int.toNat_natCast]
      repeat' (first | with_reducible exact hk | with_reducible refine Ev.bind (markText_ev _ (by omega)) ?_ | refine ev_pos (by omega) ?_))
  simpa using key l rfl (fun j hj => absurd hj (Nat.not_lt_zero _))
noncomputable def mk_StringS (n : Nat) (a : Int) : List ByteArray := (List.range n).map fun (i : Nat) => mtx (a + 1 * (i : Int))
theorem mk_StringS_length (n : Nat) (a : Int) : (mk_StringS n a).length = n := by simp [mk_StringS]
theorem markStringS_ev (l : List ByteArray) (a : Int) (ha : 0 ≤ a) (hb : a ≤ 281474976710656) (hn : l.length ≤ 140737488351232) : Ev (fun k => laws_markStringS.f k l a) (a + 1 * (l.length : Int), mk_StringS l.length a) := by
  unfold laws_markStringS.f
  have key := loopL ByteArray.empty l (P := fun i _ => ∀ y : List ByteArray, y.length = l.length → (∀ j, j < i → y.getD j ByteArray.empty = (mk_StringS l.length a).getD j ByteArray.empty) → Ev (fun k => laws_markStringS.l0 k l (a + 1 * (i : Int)) (i : Int) y) (a + 1 * (l.length : Int), mk_StringS l.length a))
    (fun y hyl hy => by
      obtain rfl := fill_end ByteArray.empty (mk_StringS l.length a) y (by rw [mk_StringS_length]; exact hyl) (fun j hj => hy j (by rwa [mk_StringS_length] at hj))
      exact Ev.step (fun k => by rw [laws_markStringS.l0]) (ev_pos hyl (ev_neg (by omega) (ev_ret rfl))))
    (fun i x r hi hx hm _ ih y hyl hy => by
      obtain ⟨h1, h2⟩ := fill_step ByteArray.empty (mk_StringS l.length a) y i (by rw [mk_StringS_length]; exact hyl) (by rw [mk_StringS_length]; exact hi) hy _ (range_map_getD _ _ _ i hi).symm
      have hk := ih _ (by simpa using hyl) h2
      have hbd : 0 ≤ a + 1 * (i : Int) ∧ a + 1 * (i : Int) ≤ 1125899906842624 := by omega
      have e : a + 1 * ((i + 1 : Nat) : Int) = a + 1 * (i : Int) + 1 := by omega
      rw [e] at hk
      clear h1 h2 hy e ih
      generalize a + 1 * (i : Int) = b at hk hbd ⊢
      refine Ev.step (fun k => by rw [laws_markStringS.l0]) (ev_pos hyl (ev_pos (by omega) ?_))
      have w1 : wrap64 (b + 1) = b + 1 := by unfold wrap64; omega
      simp only [w1, wsucc hi (by omega : l.length ≤ 9223372036854775807), Int.toNat_natCast]
      repeat' (first | with_reducible exact hk | with_reducible refine Ev.bind (markText_ev _ (by omega)) ?_ | refine ev_pos (by omega) ?_))
  simpa using key l rfl (fun j hj => absurd hj (Nat.not_lt_zero _))
theorem heldStringS_ev (n : Nat) (a : Int) (ha : 0 ≤ a) (hb : a ≤ 281474976710656) (hn : n ≤ 140737488351232) : Ev (fun k => laws_heldStringS.f k (mk_StringS n a) a) (a + 1 * (n : Int)) := by
  unfold laws_heldStringS.f
  have key := loopL ByteArray.empty (mk_StringS n a) (P := fun i _ => Ev (fun k => laws_heldStringS.l0 k (mk_StringS n a) (a + 1 * (i : Int)) (i : Int)) (a + 1 * (n : Int)))
    (Ev.step (fun k => by rw [laws_heldStringS.l0]) (ev_neg (by omega) (ev_ret (by rw [mk_StringS_length]))))
    (fun i x r hi hx hm _ ih => by
      have hi' := hi
      rw [mk_StringS_length] at hi'
      have hx' := (range_map_getD ByteArray.empty n _ i hi').symm.trans hx
      have hr : rdOf ByteArray.empty (mk_StringS n a) (i : Int) = x := by rw [rdOf_nat]; exact hx
      have hbd : 0 ≤ a + 1 * (i : Int) ∧ a + 1 * (i : Int) ≤ 1125899906842624 := by omega
      have e : a + 1 * ((i + 1 : Nat) : Int) = a + 1 * (i : Int) + 1 := by omega
      rw [e] at ih
      have hlt : (i : Int) < ((mk_StringS n a).length : Int) := by omega
      have hl9 : (mk_StringS n a).length ≤ 9223372036854775807 := by rw [mk_StringS_length]; omega
      generalize mk_StringS n a = L at *
      clear e hx
      generalize a + 1 * (i : Int) = b at ih hbd hx' ⊢
      refine Ev.step (fun k => by rw [laws_heldStringS.l0]) (ev_pos (by omega) ?_)
      have w1 : wrap64 (b + 1) = b + 1 := by unfold wrap64; omega
      simp only [w1, wsucc hi hl9, hr]
      subst hx'
      repeat' (first | with_reducible exact ih | with_reducible refine Ev.bind (markText_ev _ (by omega)) ?_ | refine ev_pos (by omega) ?_ | refine ev_pos rfl ?_ | refine ev_neg (by simp) ?_))
  simpa using key
/-! ### names -/
theorem ev_b {α : Type} {b : Bool} {g f : Nat → Option α} {r : α} (h : b = true → Ev g r) (k : b = false → Ev f r) : Ev (fun n => if b = true then g n else f n) r := by
  cases b
  · exact ev_neg (by simp) (k rfl)
  · exact ev_pos rfl (h rfl)
/-- a yes or no that is asked -/
theorem ev_ask {α : Type} {o g f : Nat → Option α} {q : Nat → Option Bool} {b : Bool} {r : α} (hq : Ev q b) (h : b = true → Ev g r) (k : b = false → Ev f r) : Ev (fun n => (q n).bind fun t => if t = true then g n else f n) r := Ev.bind (f := fun n t => if t = true then g n else f n) hq (ev_b h k)
def okc (c : Int) : Bool := (decide (97 ≤ c) && decide (c ≤ 122)) || ((decide (48 ≤ c) && decide (c ≤ 57)) || decide (c = 45))
theorem okc_t {c : Int} (h : 97 ≤ c ∧ c ≤ 122 ∨ 48 ≤ c ∧ c ≤ 57 ∨ c = 45) : okc c = true := by simp [okc]; omega
theorem okc_f {c : Int} (h : ¬ (97 ≤ c ∧ c ≤ 122 ∨ 48 ≤ c ∧ c ≤ 57 ∨ c = 45)) : okc c = false := by
  rw [← Bool.not_eq_true]; intro q; apply h; simp [okc] at q; omega
def allFrom (s : ByteArray) (i : Nat) : Bool := decide (∀ j, j < s.size → i ≤ j → okc (bt s (j : Int)) = true)
theorem allFrom_step (s : ByteArray) (i : Nat) (h : i < s.size) : allFrom s i = (okc (bt s (i : Int)) && allFrom s (i + 1)) := by
  unfold allFrom
  rw [Bool.eq_iff_iff, Bool.and_eq_true, decide_eq_true_iff, decide_eq_true_iff]
  refine ⟨fun q => ⟨q i h (Nat.le_refl _), fun j hj hi => q j hj (by omega)⟩, fun q j hj hi => ?_⟩
  by_cases e : j = i
  · rw [e]; exact q.1
  · exact q.2 j hj (by omega)
theorem allFrom_end (s : ByteArray) : allFrom s s.size = true := by
  unfold allFrom
  rw [decide_eq_true_iff]
  intro j hj hi; omega
def nameB (s : ByteArray) : Bool := decide (1 ≤ s.size ∧ s.size ≤ 8) && allFrom s 0
/-- a walk over the places of a text -/
theorem loopN (n : Nat) {P : Nat → Prop} (h0 : P n) (hs : ∀ i, i < n → P (i + 1) → P i) : P 0 := by
  have key : ∀ (m i : Nat), i + m = n → P i := fun m => by
    induction m with
    | zero => intro i hi; have e : i = n := by omega
              subst e; exact h0
    | succ m ih => intro i hi; exact hs i (by omega) (ih (i + 1) (by omega))
  exact key n 0 (by omega)
/-- each before the next -/
def chainB {α : Type} (p : α → α → Bool) : Option α → List α → Bool
  | _, [] => true
  | none, x :: r => chainB p (some x) r
  | some y, x :: r => p y x && chainB p (some x) r
def namesB (l : List ByteArray) : Bool := l.all nameB && chainB lt none l
def hasB (l : List ByteArray) (s : ByteArray) : Bool := l.any fun x => decide (x = s)
theorem hasB_iff {l : List ByteArray} {s : ByteArray} : hasB l s = true ↔ s ∈ l := by
  unfold hasB
  rw [List.any_eq_true]
  exact ⟨fun ⟨x, h, e⟩ => by simp at e; exact e ▸ h, fun h => ⟨s, h, by simp⟩⟩
def inB (a b c : Int) : Bool := decide (b ≤ a ∧ a ≤ c)
theorem inB_t {a b c : Int} (h : b ≤ a ∧ a ≤ c) : inB a b c = true := decide_eq_true h
theorem inB_f {a b c : Int} (h : ¬ (b ≤ a ∧ a ≤ c)) : inB a b c = false := decide_eq_false h
/-! ### names, as the reference reads them (recipes) -/
theorem l41In_ev (a b c : Int) : Ev (fun _ => spec_l41In.f a b c) (inB a b c) := by
  unfold spec_l41In.f inB
  refine ev_split (fun h => ev_ret (decide_eq_decide.2 (by omega))) (fun h => ev_ret ?_)
  symm; apply decide_eq_false; omega
theorem l41NameOk_ev (s : ByteArray) : Ev (fun k => spec_l41NameOk.f k s) (nameB s) := by
  unfold spec_l41NameOk.f nameB
  refine Ev.bind (l41In_ev _ _ _) (ev_b (fun h => ?_) (fun h => ev_ret ?_))
  · have hs : 1 ≤ s.size ∧ s.size ≤ 8 := by have : inB _ _ _ = true := h; unfold inB at this; have := of_decide_eq_true this; omega
    rw [decide_eq_true hs, Bool.true_and]
    refine loopN s.size (P := fun i => Ev (fun k => spec_l41NameOk.l0 k s (i : Int)) (allFrom s i))
      (by refine Ev.step (fun k => by rw [spec_l41NameOk.l0]) ?_; exact ev_neg (by omega) (ev_ret (allFrom_end s).symm)) (fun i hi ih => ?_)
    refine Ev.step (fun k => by rw [spec_l41NameOk.l0]) (ev_pos (by omega) (ev_pos (by omega) ?_))
    rw [wsucc hi (by omega), allFrom_step s i hi]
    generalize bt s (i : Int) = c
    repeat' (first | (refine ev_split (fun _ => ?_) (fun _ => ?_)) | (rw [okc_t (by omega), Bool.true_and]; exact ih) | (rw [okc_f (by omega)]; exact ev_ret rfl))
  · have hs : ¬ (1 ≤ s.size ∧ s.size ≤ 8) := fun q => by have : inB _ _ _ = false := h; unfold inB at this; have := of_decide_eq_false this; omega
    rw [decide_eq_false hs]; rfl
/-! ### names, as the program reads them (no lists that rise) -/
theorem isName_ev (s : ByteArray) (hn : s.size ≤ 140737488351232) : Ev (fun k => impl_isName.f k s) (nameB s) := by
  unfold impl_isName.f nameB
  refine loopN s.size (P := fun i => Ev (fun k => impl_isName.l0 k s (i : Int)) (decide (1 ≤ s.size ∧ s.size ≤ 8) && allFrom s i))
    (by
      refine Ev.step (fun k => by rw [impl_isName.l0]) (ev_neg (by omega) ?_)
      rw [allFrom_end, Bool.and_true]
      refine ev_split (fun h => ev_ret (decide_eq_decide.2 (by omega))) (fun h => ev_ret ?_)
      symm; apply decide_eq_false; omega) (fun i hi ih => ?_)
  refine Ev.step (fun k => by rw [impl_isName.l0]) (ev_pos (by omega) (ev_pos (by omega) ?_))
  rw [wsucc hi (by omega), allFrom_step s i hi]
  generalize bt s (i : Int) = c
  repeat' (first | (refine ev_split (fun _ => ?_) (fun _ => ?_)) | (rw [okc_t (by omega), Bool.true_and]; exact ih) | (rw [okc_f (by omega), Bool.false_and, Bool.and_false]; exact ev_ret rfl))
theorem chain_none {α : Type} (p : α → α → Bool) (x : α) (r : List α) : chainB p none (x :: r) = chainB p (some x) r := rfl
theorem has_ev (l : List ByteArray) (s : ByteArray) (hn : l.length ≤ 140737488351232) : Ev (fun k => impl_has.f k l s) (hasB l s) := by
  have key : ∃ v : Int, (decide (v ≥ 0) = hasB l s) ∧ Ev (fun k => slices_Index_string_string.f k l s) v := by
    unfold slices_Index_string_string.f hasB
    refine loopL ByteArray.empty l (P := fun i r => ∃ v : Int, (decide (v ≥ 0) = r.any fun x => decide (x = s)) ∧ Ev (fun k => slices_Index_string_string.l0 k l s (i : Int)) v)
      ⟨-1, rfl, Ev.step (fun k => by rw [slices_Index_string_string.l0]) (ev_neg (by omega) (ev_ret rfl))⟩ (fun i x r hi hx _ _ ih => ?_)
    obtain ⟨v, hv, he⟩ := ih
    by_cases c : x = s
    · refine ⟨(i : Int), by simp [c], Ev.step (fun k => by rw [slices_Index_string_string.l0]) ?_⟩
      rw [rdOf_nat, hx]
      exact ev_pos (by omega) (ev_pos (by omega) (ev_pos (by rw [c]) (ev_ret rfl)))
    · refine ⟨v, by simpa [c] using hv, Ev.step (fun k => by rw [slices_Index_string_string.l0]) ?_⟩
      rw [rdOf_nat, hx, wsucc hi (by omega)]
      exact ev_pos (by omega) (ev_pos (by omega) (ev_neg (fun q => c (ba_ext q).symm) he))
  obtain ⟨v, hv, he⟩ := key
  unfold impl_has.f slices_Contains_string_string.f
  exact Ev.bind (Ev.bind he (ev_ret hv)) (ev_ret rfl)
/-! ### lists that rise -/
def SortedL (l : List ByteArray) : Prop := l.Pairwise fun x y => lt x y = true
theorem chain_head {α : Type} {p : α → α → Bool} (ht : ∀ x y z, p x y = true → p y z = true → p x z = true) : ∀ (r : List α) (y : α), chainB p (some y) r = true → (∀ x ∈ r, p y x = true) ∧ r.Pairwise fun x y => p x y = true
  | [], _, _ => ⟨fun x h => (by cases h), List.Pairwise.nil⟩
  | x :: r, y, h => by
    have h : (p y x && chainB p (some x) r) = true := h
    rw [Bool.and_eq_true] at h
    obtain ⟨g1, g2⟩ := chain_head ht r x h.2
    refine ⟨fun z hz => ?_, List.pairwise_cons.2 ⟨g1, g2⟩⟩
    rcases List.mem_cons.1 hz with rfl | hz
    · exact h.1
    · exact ht _ _ _ h.1 (g1 z hz)
theorem chain_pair {α : Type} {p : α → α → Bool} (ht : ∀ x y z, p x y = true → p y z = true → p x z = true) (l : List α) (h : chainB p none l = true) : l.Pairwise fun x y => p x y = true := by
  cases l with
  | nil => exact List.Pairwise.nil
  | cons x r =>
    have h : chainB p (some x) r = true := h
    obtain ⟨g1, g2⟩ := chain_head ht r x h
    exact List.pairwise_cons.2 ⟨g1, g2⟩
theorem sorted_of {l : List ByteArray} (h : chainB lt none l = true) : SortedL l := chain_pair (p := lt) (fun _ _ _ h k => lt_trans h k) l h
theorem sorted_ext : ∀ (l m : List ByteArray), SortedL l → SortedL m → (∀ x, x ∈ l ↔ x ∈ m) → l = m
  | [], [], _, _, _ => rfl
  | [], y :: m, _, _, h => by have := (h y).2 (List.mem_cons_self ..); cases this
  | x :: l, [], _, _, h => by have := (h x).1 (List.mem_cons_self ..); cases this
  | x :: l, y :: m, hl, hm, h => by
    obtain ⟨l1, l2⟩ := List.pairwise_cons.1 hl
    obtain ⟨m1, m2⟩ := List.pairwise_cons.1 hm
    have e : x = y := by
      rcases List.mem_cons.1 ((h x).1 (List.mem_cons_self ..)) with e | hx
      · exact e
      · rcases List.mem_cons.1 ((h y).2 (List.mem_cons_self ..)) with e | hy
        · exact e.symm
        · have := lt_asym (l1 y hy); rw [m1 x hx] at this; cases this
    subst e
    congr 1
    refine sorted_ext l m l2 m2 (fun z => ⟨fun hz => ?_, fun hz => ?_⟩)
    · rcases List.mem_cons.1 ((h z).1 (List.mem_cons_of_mem _ hz)) with e | hz'
      · subst e; exact absurd rfl (lt_ne (l1 z hz))
      · exact hz'
    · rcases List.mem_cons.1 ((h z).2 (List.mem_cons_of_mem _ hz)) with e | hz'
      · subst e; exact absurd rfl (lt_ne (m1 z hz))
      · exact hz'
def insertL (x : ByteArray) : List ByteArray → List ByteArray
  | [] => [x]
  | y :: r => if lt y x = true then y :: insertL x r else if y = x then y :: r else x :: y :: r
theorem insertL_mem (x z : ByteArray) : ∀ l : List ByteArray, z ∈ insertL x l ↔ z = x ∨ z ∈ l
  | [] => by simp [insertL]
  | y :: r => by
    have ih := insertL_mem x z r
    unfold insertL
    split
    · rw [List.mem_cons, ih, List.mem_cons]
      constructor
      · rintro (h | h | h)
        · exact .inr (.inl h)
        · exact .inl h
        · exact .inr (.inr h)
      · rintro (h | h | h)
        · exact .inr (.inl h)
        · exact .inl h
        · exact .inr (.inr h)
    · split
      · rename_i e
        subst e
        rw [List.mem_cons]
        exact ⟨fun h => .inr h, fun h => h.elim .inl id⟩
      · rw [List.mem_cons]
theorem insertL_sorted (x : ByteArray) : ∀ l : List ByteArray, SortedL l → SortedL (insertL x l)
  | [], _ => List.pairwise_singleton _ _
  | y :: r, h => by
    obtain ⟨h1, h2⟩ := List.pairwise_cons.1 h
    unfold insertL
    split
    · rename_i c
      refine List.pairwise_cons.2 ⟨fun z hz => ?_, insertL_sorted x r h2⟩
      rcases (insertL_mem x z r).1 hz with rfl | hz
      · exact c
      · exact h1 z hz
    · rename_i c
      split
      · exact h
      · rename_i e
        have hlt : lt x y = true := by
          rcases lt_tri x y with q | q | q
          · exact q
          · exact absurd q.symm e
          · exact absurd q c
        refine List.pairwise_cons.2 ⟨fun z hz => ?_, h⟩
        rcases List.mem_cons.1 hz with rfl | hz
        · exact hlt
        · exact lt_trans hlt (h1 z hz)
theorem insertL_len (x : ByteArray) : ∀ l : List ByteArray, (insertL x l).length ≤ l.length + 1
  | [] => by simp [insertL]
  | y :: r => by
    have := insertL_len x r
    unfold insertL
    split
    · simp; omega
    · split <;> simp
theorem l42Insert_ev (l : List ByteArray) (x : ByteArray) (hn : l.length ≤ 1000000) : Ev (fun k => spec_l42Insert.f k l x) (insertL x l) := by
  unfold spec_l42Insert.f
  refine ev_eq (loopL ByteArray.empty l (P := fun i r => l.drop i = r → Ev (fun k => spec_l42Insert.l0 k l x (i : Int)) (l.take i ++ insertL x r)) (fun _ => ?_) (fun i y r hi hy _ hr ih hd => ?_) rfl) (by simp)
  · refine Ev.step (fun k => by rw [spec_l42Insert.l0]) ?_
    refine ev_neg (by omega) (ev_pos (by omega) (ev_pos (by omega) (ev_pos (by rw [Int.toNat_natCast]; omega) (ev_pos (by rw [Int.toNat_natCast]; omega) (ev_pos (by rw [Int.toNat_natCast]; omega) (ev_ret ?_))))))
    simp [insertL]
  · refine Ev.step (fun k => by rw [spec_l42Insert.l0]) (ev_pos (by omega) (ev_pos (by omega) ?_))
    rw [rdOf_nat, hy, wsucc hi (by omega), Int.toNat_natCast]
    have ht : l.take (i + 1) = l.take i ++ [y] := by rw [List.take_succ_eq_append_getElem hi, ← getD_eq ByteArray.empty l i hi, hy]
    refine ev_b (fun c => ev_eq (ih hr) ?_) (fun c => ev_split (fun e => ev_ret ?_) (fun e => ?_))
    · have c : lt y x = true := c
      rw [ht, show insertL x (y :: r) = y :: insertL x r from if_pos c]; simp
    · have c : lt y x = false := c
      rw [show insertL x (y :: r) = if lt y x = true then y :: insertL x r else if y = x then y :: r else x :: y :: r from rfl, c, if_neg (by simp), if_pos (ba_iff.1 e), ← hd, List.take_append_drop]
    · have c : lt y x = false := c
      refine ev_pos (by omega) (ev_pos (by omega) (ev_pos (by omega) (ev_pos (by omega) (ev_ret ?_))))
      rw [show insertL x (y :: r) = if lt y x = true then y :: insertL x r else if y = x then y :: r else x :: y :: r from rfl, c, if_neg (by simp), if_neg (fun q => e (ba_iff.2 q)), ← hd]
      simp
/-! ### sets of texts: rising lists -/
theorem sorted_nodup {l : List ByteArray} (h : SortedL l) : l.Nodup := List.Pairwise.imp (fun h => lt_ne h) h
theorem sortN_ev (a : List ByteArray) (h : a.length ≤ 4611686018427387903) (hn : a.Nodup) : ∃ r, Ev (fun _ => sort_Strings.f a) r ∧ SortedL r ∧ ∀ x, x ∈ r ↔ x ∈ a := by
  have e : sortSf a = some (sortS a) := by unfold sortSf; rw [if_pos (by omega)]
  refine ⟨sortS a, ?_, sortS_nd e hn, sortS_mem e⟩
  unfold sort_Strings.f
  rw [e]
  exact Ev.now _
/-- a set, and more put into it -/
def setW (a b : List ByteArray) : List ByteArray := b.foldl (fun l x => insertL x l) a
theorem setW_sorted : ∀ (b a : List ByteArray), SortedL a → SortedL (setW a b)
  | [], _, h => h
  | x :: b, a, h => setW_sorted b _ (insertL_sorted x a h)
theorem setW_mem (z : ByteArray) : ∀ (b a : List ByteArray), z ∈ setW a b ↔ z ∈ a ∨ z ∈ b
  | [], a => by simp [setW]
  | x :: b, a => by
    rw [show setW a (x :: b) = setW (insertL x a) b from rfl, setW_mem z b, insertL_mem, List.mem_cons]
    constructor
    · rintro ((h | h) | h)
      · exact .inr (.inl h)
      · exact .inl h
      · exact .inr (.inr h)
    · rintro (h | h | h)
      · exact .inl (.inr h)
      · exact .inl (.inl h)
      · exact .inr h
theorem setW_len : ∀ (b a : List ByteArray), (setW a b).length ≤ a.length + b.length
  | [], a => by simp [setW]
  | x :: b, a => by
    have := setW_len b (insertL x a)
    have := insertL_len x a
    rw [show setW a (x :: b) = setW (insertL x a) b from rfl, List.length_cons]
    omega
theorem sorted_nil : SortedL [] := List.Pairwise.nil
theorem setW_eq {a b c : List ByteArray} (hc : SortedL c) (ha : SortedL a) (h : ∀ x, x ∈ c ↔ x ∈ a ∨ x ∈ b) : c = setW a b :=
  sorted_ext _ _ hc (setW_sorted b a ha) (fun x => by rw [h, setW_mem])
theorem withN_ev (a b : List ByteArray) (ha : a.Nodup) (h : a.length + b.length ≤ 8796093022207) : ∃ r, Ev (fun k => impl_with.f k a b) r ∧ SortedL r ∧ ∀ x, x ∈ r ↔ x ∈ a ∨ x ∈ b := by
  have key := loopL ByteArray.empty b (P := fun i d => i + d.length = b.length → ∀ acc : List ByteArray, acc.Nodup → acc.length ≤ a.length + i → ∃ r, Ev (fun k => impl_with.l0 k a b acc (i : Int)) r ∧ SortedL r ∧ ∀ x, x ∈ r ↔ x ∈ acc ∨ x ∈ d)
    (fun _ acc hnd hacc => by
      obtain ⟨r, h1, h2, h3⟩ := sortN_ev acc (by omega) hnd
      refine ⟨r, Ev.step (fun k => by rw [impl_with.l0]) (ev_neg (by omega) (Ev.bind h1 (ev_ret rfl))), h2, fun x => by rw [h3]; simp⟩)
    (fun i y d hi hy hm hd ih hl acc hnd hacc => by
      rw [List.length_cons] at hl
      have hh := has_ev acc y (by omega)
      cases c : hasB acc y with
      | true =>
        rw [c] at hh
        obtain ⟨r, h1, h2, h3⟩ := ih (by omega) acc hnd (by omega)
        refine ⟨r, Ev.step (fun k => by rw [impl_with.l0]) (ev_pos (by omega) (ev_pos (by omega) ?_)), h2, fun x => ?_⟩
        · rw [wsucc hi (by omega), rdOf_nat, hy]
          exact Ev.bind hh (ev_pos rfl h1)
        · rw [h3, List.mem_cons]
          have := hasB_iff.1 c
          constructor
          · rintro (q | q)
            · exact .inl q
            · exact .inr (.inr q)
          · rintro (q | q | q)
            · exact .inl q
            · exact .inl (q ▸ this)
            · exact .inr q
      | false =>
        rw [c] at hh
        have hni : y ∉ acc := fun q => by rw [hasB_iff.2 q] at c; cases c
        obtain ⟨r, h1, h2, h3⟩ := ih (by omega) (acc ++ [y]) (List.nodup_append.2 ⟨hnd, by simp, fun u hu v hv e => by rw [List.mem_singleton] at hv; subst hv; exact hni (e ▸ hu)⟩) (by rw [List.length_append, List.length_singleton]; omega)
        refine ⟨r, Ev.step (fun k => by rw [impl_with.l0]) (ev_pos (by omega) (ev_pos (by omega) ?_)), h2, fun x => ?_⟩
        · rw [wsucc hi (by omega), rdOf_nat, hy]
          exact Ev.bind hh (ev_neg (by simp) (ev_pos (by omega) h1))
        · rw [h3, List.mem_cons, List.mem_append, List.mem_singleton, or_assoc])
  obtain ⟨r, h1, h2, h3⟩ := key (by omega) a ha (by omega)
  refine ⟨r, ?_, h2, h3⟩
  unfold impl_with.f
  exact ev_pos (by omega) h1
theorem setW_ev (a b : List ByteArray) (ha : SortedL a) (h : a.length + b.length ≤ 8796093022207) : Ev (fun k => impl_with.f k a b) (setW a b) := by
  obtain ⟨r, h1, h2, h3⟩ := withN_ev a b (sorted_nodup ha) h
  exact setW_eq h2 ha h3 ▸ h1
/-! ### recipes -/
theorem rdRP (l : List S_impl_RecPhase) (i : Nat) : rd_impl_RecPhase l (i : Int) = l.getD i z_impl_RecPhase := by unfold rd_impl_RecPhase; rw [Int.toNat_natCast]
def endOf (a : ByteArray) : Int := if a = (⟨#[103, 111, 111, 100]⟩ : ByteArray) then 1 else if a = (⟨#[115, 97, 118, 101, 100]⟩ : ByteArray) then 2 else if a = (⟨#[115, 99, 114, 97, 112, 112, 101, 100]⟩ : ByteArray) then 3 else 0
theorem specEnd_ev (a : ByteArray) : Ev (fun _ => spec_RecEnd.f a) (endOf a) := by
  unfold spec_RecEnd.f endOf
  refine ev_split (fun c => ev_ret (by rw [if_pos (ba_iff.1 c)])) (fun c => ?_)
  rw [if_neg (fun e => c (ba_iff.2 e))]
  refine ev_split (fun c => ev_ret (by rw [if_pos (ba_iff.1 c)])) (fun c => ?_)
  rw [if_neg (fun e => c (ba_iff.2 e))]
  exact ev_split (fun c => ev_ret (by rw [if_pos (ba_iff.1 c)])) (fun c => ev_ret (by rw [if_neg (fun e => c (ba_iff.2 e))]))
theorem implEnd_ev (a : ByteArray) : Ev (fun _ => impl_RecEnd.f a) (endOf a) := by
  unfold impl_RecEnd.f endOf
  refine ev_split (fun c => ev_ret (by rw [if_pos (ba_iff.1 c)])) (fun c => ?_)
  rw [if_neg (fun e => c (ba_iff.2 e))]
  refine ev_split (fun c => ev_ret (by rw [if_pos (ba_iff.1 c)])) (fun c => ?_)
  rw [if_neg (fun e => c (ba_iff.2 e))]
  exact ev_split (fun c => ev_ret (by rw [if_pos (ba_iff.1 c)])) (fun c => ev_ret (by rw [if_neg (fun e => c (ba_iff.2 e))]))
def argsB (x : S_impl_RecPhase) : Bool :=
  if x.f1 = 1 then nameB x.f3 && inB x.f4 1 1000 else if x.f1 = 2 then nameB x.f3 && (!decide (x.f2 = x.f3) && inB x.f4 1 1000) else if x.f1 = 3 then decide (x.f3 = (⟨#[]⟩ : ByteArray)) && inB x.f4 1 x.f5 else if x.f1 = 4 ∨ x.f1 = 5 then decide (x.f3 = (⟨#[]⟩ : ByteArray)) && decide (x.f4 = 0) else false
def phaseB (x : S_impl_RecPhase) : Bool := (nameB x.f0 && decide (endOf x.f0 = 0)) && (inB x.f5 1 1000 && ((nameB x.f2 && argsB x) && (nameB x.f6 && nameB x.f7)))
theorem l41Args_ev (x : S_impl_RecPhase) : Ev (fun k => spec_l41ArgsOk.f k x.f0 x.f1 x.f2 x.f3 x.f4 x.f5 x.f6 x.f7) (nameB x.f2 && argsB x) := by
  have e2 := l41NameOk_ev x.f2
  have e3 := l41NameOk_ev x.f3
  unfold spec_l41ArgsOk.f argsB
  generalize nameB x.f2 = n2 at *
  generalize nameB x.f3 = n3 at *
  refine ev_split (fun c => ?_) (fun c => ?_)
  · rw [if_pos c]
    exact Ev.bind e2 (ev_b (fun d => Ev.bind e3 (ev_b (fun d2 => Ev.bind (l41In_ev _ _ _) (ev_ret (by rw [d, d2]; rfl))) (fun d2 => ev_ret (by rw [d2]; simp)))) (fun d => ev_ret (by rw [d]; rfl)))
  rw [if_neg c]
  refine ev_split (fun c => ?_) (fun c => ?_)
  · rw [if_pos c]
    refine Ev.bind e2 (ev_b (fun d => Ev.bind e3 (ev_b (fun d2 => ev_split (fun d3 => ev_ret ?_) (fun d3 => Ev.bind (l41In_ev _ _ _) (ev_ret ?_))) (fun d2 => ev_ret (by rw [d2]; simp)))) (fun d => ev_ret (by rw [d]; rfl)))
    · rw [decide_eq_true (ba_iff.1 d3)]; simp
    · rw [decide_eq_false (fun e => d3 (ba_iff.2 e)), d, d2]; rfl
  rw [if_neg c]
  refine ev_split (fun c => ?_) (fun c => ?_)
  · rw [if_pos c]
    refine Ev.bind e2 (ev_b (fun d => ev_split (fun d3 => Ev.bind (l41In_ev _ _ _) (ev_ret ?_)) (fun d3 => ev_ret ?_)) (fun d => ev_ret (by rw [d]; rfl)))
    · rw [decide_eq_true (ba_iff.1 d3), d]; rfl
    · rw [decide_eq_false (fun e => d3 (ba_iff.2 e))]; simp
  rw [if_neg c]
  refine ev_split (fun c => ?_) (fun c => ?_)
  · rw [if_pos (show x.f1 = 4 ∨ x.f1 = 5 from .inl c)]
    refine Ev.bind e2 (ev_b (fun d => ev_split (fun d3 => ev_ret ?_) (fun d3 => ev_ret ?_)) (fun d => ev_ret (by rw [d]; rfl)))
    · rw [decide_eq_true (ba_iff.1 d3), d]; rfl
    · rw [decide_eq_false (fun e => d3 (ba_iff.2 e))]; simp
  refine ev_split (fun c2 => ?_) (fun c2 => ?_)
  · rw [if_pos (show x.f1 = 4 ∨ x.f1 = 5 from .inr c2)]
    refine Ev.bind e2 (ev_b (fun d => ev_split (fun d3 => ev_ret ?_) (fun d3 => ev_ret ?_)) (fun d => ev_ret (by rw [d]; rfl)))
    · rw [decide_eq_true (ba_iff.1 d3), d]; rfl
    · rw [decide_eq_false (fun e => d3 (ba_iff.2 e))]; simp
  · rw [if_neg (show ¬ (x.f1 = 4 ∨ x.f1 = 5) by omega)]; exact ev_ret (by simp)
theorem specPhase_ev (x : S_impl_RecPhase) : Ev (fun k => spec_RecPhaseOk.f k x.f0 x.f1 x.f2 x.f3 x.f4 x.f5 x.f6 x.f7) (phaseB x) := by
  have eP : Ev (fun k => spec_l41PlainOk.f k x.f0) (nameB x.f0 && decide (endOf x.f0 = 0)) := by
    unfold spec_l41PlainOk.f
    exact Ev.bind (l41NameOk_ev _) (ev_b (fun c => Ev.bind (specEnd_ev _) (ev_ret (by rw [c]; rfl))) (fun c => ev_ret (by rw [c]; rfl)))
  have eA := l41Args_ev x
  unfold spec_RecPhaseOk.f phaseB
  generalize (nameB x.f0 && decide (endOf x.f0 = 0)) = b0 at *
  generalize (nameB x.f2 && argsB x) = b1 at *
  refine Ev.bind eP (ev_b (fun c0 => Ev.bind (l41In_ev _ _ _) (ev_b (fun c1 => Ev.bind eA (ev_b (fun c2 => Ev.bind (l41NameOk_ev _) (ev_b (fun c3 => Ev.bind (l41NameOk_ev _) (ev_ret ?_)) (fun c3 => ev_ret ?_))) (fun c2 => ev_ret ?_))) (fun c1 => ev_ret ?_))) (fun c0 => ev_ret ?_))
  · rw [c0, c1, c2, c3]; rfl
  · rw [c3]; simp
  · rw [c2]; simp
  · rw [c1]; simp
  · rw [c0]; rfl
structure SzR (x : S_impl_RecPhase) : Prop where
  n0 : x.f0.size ≤ 140737488351232
  n2 : x.f2.size ≤ 140737488351232
  n3 : x.f3.size ≤ 140737488351232
  n6 : x.f6.size ≤ 140737488351232
  n7 : x.f7.size ≤ 140737488351232
theorem phaseJ_ev (x : S_impl_RecPhase) (z : SzR x) (m : Int) (b : Bool) : Ev (fun k => impl_RecPhaseOk.j0 k x.f3 x.f4 m b) ((if b = true then nameB x.f3 else decide (x.f3 = (⟨#[]⟩ : ByteArray))) && (decide (x.f4 ≤ m) && (decide (1 ≤ x.f4) || (decide (m = 0) && decide (x.f4 = 0))))) := by
  have e3 := isName_ev x.f3 z.n3
  have tl : ∀ B : Bool, B = true → Ev (fun _ => if x.f4 ≤ m then (if x.f4 ≥ 1 then some true else if m = 0 then some (decide (x.f4 = 0)) else some false) else some false) (B && (decide (x.f4 ≤ m) && (decide (1 ≤ x.f4) || (decide (m = 0) && decide (x.f4 = 0))))) := fun B hB => by
    subst hB
    refine ev_split (fun c => ev_split (fun d => ev_ret ?_) (fun d => ev_split (fun d2 => ev_ret ?_) (fun d2 => ev_ret ?_))) (fun c => ev_ret ?_)
    · rw [decide_eq_true c, decide_eq_true (by omega : 1 ≤ x.f4)]; rfl
    · rw [decide_eq_true c, decide_eq_false (by omega : ¬ 1 ≤ x.f4), decide_eq_true d2]; rfl
    · rw [decide_eq_true c, decide_eq_false (by omega : ¬ 1 ≤ x.f4), decide_eq_false d2]; rfl
    · rw [decide_eq_false c]; rfl
  refine Ev.step (fun k => by rw [impl_RecPhaseOk.j0]) ?_
  cases b with
  | true =>
    refine ev_pos rfl (Ev.bind e3 (ev_b (fun c => ?_) (fun c => ev_ret (by rw [if_pos rfl, c]; rfl))))
    rw [if_pos rfl]; exact tl _ c
  | false =>
    refine ev_neg (by simp) (ev_split (fun c => ?_) (fun c => ev_ret ?_))
    · rw [if_neg Bool.false_ne_true]; exact tl _ (decide_eq_true (ba_iff.1 c))
    · rw [if_neg Bool.false_ne_true, decide_eq_false (fun e => c (ba_iff.2 e))]; rfl
theorem implPhase_ev (x : S_impl_RecPhase) (z : SzR x) : Ev (fun k => impl_RecPhaseOk.f k x.f0 x.f1 x.f2 x.f3 x.f4 x.f5 x.f6 x.f7) (phaseB x) := by
  have J := fun m b => phaseJ_ev x z m b
  unfold impl_RecPhaseOk.f phaseB argsB
  refine Ev.bind (isName_ev _ z.n0) (ev_b (fun c0 => ?_) (fun c0 => ev_ret (by rw [c0]; rfl)))
  refine Ev.bind (implEnd_ev _) (ev_split (fun c1 => ?_) (fun c1 => ev_ret (by rw [decide_eq_false c1]; simp)))
  rw [c0, decide_eq_true c1]
  refine ev_split (fun c => ev_ret (by rw [inB_f (by omega : ¬ (1 ≤ x.f5 ∧ x.f5 ≤ 1000))]; rfl)) (fun c2 => ?_)
  refine ev_split (fun c => ev_ret (by rw [inB_f (by omega : ¬ (1 ≤ x.f5 ∧ x.f5 ≤ 1000))]; rfl)) (fun c3 => ?_)
  rw [inB_t (by omega : 1 ≤ x.f5 ∧ x.f5 ≤ 1000)]
  refine Ev.bind (isName_ev _ z.n2) (ev_b (fun c4 => ?_) (fun c4 => ev_ret (by rw [c4]; rfl)))
  refine Ev.bind (isName_ev _ z.n6) (ev_b (fun c5 => ?_) (fun c5 => ev_ret (by rw [c5]; simp)))
  refine Ev.bind (isName_ev _ z.n7) (ev_b (fun c6 => ?_) (fun c6 => ev_ret (by rw [c6]; simp)))
  rw [c4, c5, c6]
  simp only [Bool.and_true, Bool.true_and]
  refine ev_split (fun c => ?_) (fun c => ?_)
  · rw [if_pos c]
    refine ev_eq (J 1000 true) ?_
    rw [if_pos rfl]; congr 1
    rw [Bool.eq_iff_iff]; unfold inB; simp only [Bool.and_eq_true, Bool.or_eq_true, decide_eq_true_eq, true_and]; omega
  rw [if_neg c]
  refine ev_split (fun c => ?_) (fun c => ?_)
  · rw [if_pos c]
    refine ev_split (fun d => ev_ret (by rw [decide_eq_true (ba_iff.1 d)]; simp)) (fun d => ev_eq (J 1000 true) ?_)
    rw [if_pos rfl, decide_eq_false (fun e => d (ba_iff.2 e))]; congr 1
    rw [Bool.eq_iff_iff]; unfold inB; simp only [Bool.not_false, Bool.true_and, Bool.and_eq_true, Bool.or_eq_true, decide_eq_true_eq]; omega
  rw [if_neg c]
  refine ev_split (fun c => ?_) (fun c => ?_)
  · rw [if_pos c]
    refine ev_eq (J x.f5 false) ?_
    rw [if_neg Bool.false_ne_true]; congr 1
    rw [Bool.eq_iff_iff]; unfold inB; simp only [Bool.and_eq_true, Bool.or_eq_true, decide_eq_true_eq, true_and]; omega
  rw [if_neg c]
  refine ev_split (fun c => ?_) (fun c => ?_)
  · rw [if_pos (show x.f1 = 4 ∨ x.f1 = 5 from .inl c)]
    refine ev_eq (J 0 false) ?_
    rw [if_neg Bool.false_ne_true]; congr 1
    rw [Bool.eq_iff_iff]; simp only [Bool.and_eq_true, Bool.or_eq_true, decide_eq_true_eq, true_and]; omega
  refine ev_split (fun c2 => ?_) (fun c2 => ?_)
  · rw [if_pos (show x.f1 = 4 ∨ x.f1 = 5 from .inr c2)]
    refine ev_eq (J 0 false) ?_
    rw [if_neg Bool.false_ne_true]; congr 1
    rw [Bool.eq_iff_iff]; simp only [Bool.and_eq_true, Bool.or_eq_true, decide_eq_true_eq, true_and]; omega
  · rw [if_neg (show ¬ (x.f1 = 4 ∨ x.f1 = 5) by omega)]; exact ev_ret rfl
/-! ### phases of a recipe -/
def phIx (a : ByteArray) : List S_impl_RecPhase → Nat → Int
  | [], _ => -1
  | y :: r, i => if y.f0 = a then (i : Int) else phIx a r (i + 1)
theorem phIx_at (l : List S_impl_RecPhase) (a : ByteArray) : ∀ (r : List S_impl_RecPhase) (i : Nat), l.drop i = r → phIx a r i = -1 ∨ ∃ j : Nat, j < l.length ∧ i ≤ j ∧ phIx a r i = (j : Int) ∧ (l.getD j z_impl_RecPhase).f0 = a
  | [], _, _ => .inl rfl
  | y :: r, i, hd => by
    have hi : i < l.length := by
      refine Nat.lt_of_not_le fun hle => ?_
      rw [List.drop_eq_nil_iff.2 hle] at hd; cases hd
    have e := List.drop_eq_getElem_cons hi
    rw [hd] at e; injection e with e1 e2
    have hy : l.getD i z_impl_RecPhase = y := by rw [getD_eq _ l i hi]; exact e1.symm
    rw [show phIx a (y :: r) i = if y.f0 = a then (i : Int) else phIx a r (i + 1) from rfl]
    by_cases c : y.f0 = a
    · exact .inr ⟨i, hi, Nat.le_refl _, by rw [if_pos c], by rw [hy]; exact c⟩
    · rw [if_neg c]
      rcases phIx_at l a r (i + 1) e2.symm with h | ⟨j, h1, h2, h3, h4⟩
      · exact .inl h
      · exact .inr ⟨j, h1, by omega, h3, h4⟩
theorem l42At_ev (l : List S_impl_RecPhase) (a : ByteArray) (hl : l.length ≤ 140737488351232) : Ev (fun k => spec_l42At.f k l a) (phIx a l 0) := by
  unfold spec_l42At.f
  refine loopL z_impl_RecPhase l (P := fun i r => Ev (fun k => spec_l42At.l0 k l a (i : Int)) (phIx a r i))
    (by refine Ev.step (fun k => by rw [spec_l42At.l0]) ?_; exact ev_neg (by omega) (ev_ret rfl)) (fun i y r hi hx hm _ ih => ?_)
  refine Ev.step (fun k => by rw [spec_l42At.l0]) (ev_pos (by omega) (ev_pos (by omega) ?_))
  rw [wsucc hi (by omega), rdRP, hx]
  unfold phIx
  exact ev_split (fun c => ev_ret (by rw [if_pos (ba_iff.1 c)])) (fun c => ev_eq ih (by rw [if_neg (fun e => c (ba_iff.2 e))]))
theorem phase_ev (l : List S_impl_RecPhase) (a : ByteArray) (hl : l.length ≤ 140737488351232) : Ev (fun k => impl_phase.f k l a) (phIx a l 0) := by
  unfold impl_phase.f
  refine loopL z_impl_RecPhase l (P := fun i r => Ev (fun k => impl_phase.l0 k l a (i : Int)) (phIx a r i))
    (by refine Ev.step (fun k => by rw [impl_phase.l0]) ?_; exact ev_neg (by omega) (ev_ret rfl)) (fun i y r hi hx hm _ ih => ?_)
  refine Ev.step (fun k => by rw [impl_phase.l0]) (ev_pos (by omega) (ev_pos (by omega) ?_))
  rw [wsucc hi (by omega), rdRP, hx]
  unfold phIx
  exact ev_split (fun c => ev_ret (by rw [if_pos (ba_iff.1 c)])) (fun c => ev_eq ih (by rw [if_neg (fun e => c (ba_iff.2 e))]))
def onB (l : List S_impl_RecPhase) (i : Nat) (a : ByteArray) : Bool := !decide (endOf a = 0) || decide ((i : Int) < phIx a l 0)
def ownB (l : List S_impl_RecPhase) (i : Nat) (x : S_impl_RecPhase) : Bool := phaseB x && decide (phIx x.f0 l 0 = (i : Int))
def recA (l : List S_impl_RecPhase) : Nat → List S_impl_RecPhase → Bool
  | _, [] => true
  | i, x :: r => ownB l i x && recA l (i + 1) r
def recN (l : List S_impl_RecPhase) : Nat → List S_impl_RecPhase → Bool
  | _, [] => true
  | i, x :: r => (onB l i x.f6 && onB l i x.f7) && recN l (i + 1) r
def recB (l : List S_impl_RecPhase) : Bool := inB (l.length : Int) 1 12 && (recA l 0 l && recN l 0 l)
theorem and4 (a b c d : Bool) : ((a && b) && (c && d)) = ((a && c) && (b && d)) := by cases a <;> cases b <;> cases c <;> cases d <;> rfl
theorem specRec_ev (l : List S_impl_RecPhase) (hl : l.length ≤ 140737488351232) : Ev (fun k => spec_RecOk.f k l) (recB l) := by
  unfold spec_RecOk.f recB
  refine Ev.bind (l41In_ev _ _ _) (ev_b (fun c => ?_) (fun c => ev_ret (by rw [c]; rfl)))
  rw [c, Bool.true_and]
  refine loopL z_impl_RecPhase l (P := fun i r => Ev (fun k => spec_RecOk.l0 k l (i : Int)) (recA l i r && recN l i r))
    (by refine Ev.step (fun k => by rw [spec_RecOk.l0]) ?_; exact ev_neg (by omega) (ev_ret rfl)) (fun i x r hi hx hm _ ih => ?_)
  refine Ev.step (fun k => by rw [spec_RecOk.l0]) (ev_pos (by omega) (ev_pos (by omega) ?_))
  rw [wsucc hi (by omega), rdRP, hx, show recA l i (x :: r) = (ownB l i x && recA l (i + 1) r) from rfl, show recN l i (x :: r) = ((onB l i x.f6 && onB l i x.f7) && recN l (i + 1) r) from rfl, and4]
  generalize (recA l (i + 1) r && recN l (i + 1) r) = R at *
  have tl : Ev (fun k => (spec_RecEnd.f x.f7).bind fun t => if t = 0 then (spec_l42At.f k l x.f7).bind fun t => if t ≤ (i : Int) then some false else spec_RecOk.l0 k l ((i + 1 : Nat) : Int) else spec_RecOk.l0 k l ((i + 1 : Nat) : Int)) (onB l i x.f7 && R) := by
    unfold onB
    refine Ev.bind (specEnd_ev _) (ev_split (fun d => Ev.bind (l42At_ev l x.f7 hl) (ev_split (fun d2 => ev_ret ?_) (fun d2 => ev_eq ih ?_))) (fun d => ev_eq ih ?_))
    · rw [decide_eq_true d, decide_eq_false (by omega : ¬ (i : Int) < phIx x.f7 l 0)]; rfl
    · rw [decide_eq_true (by omega : (i : Int) < phIx x.f7 l 0)]; simp
    · rw [decide_eq_false d]; rfl
  unfold ownB
  rw [show onB l i x.f6 = (!decide (endOf x.f6 = 0) || decide ((i : Int) < phIx x.f6 l 0)) from rfl]
  refine Ev.bind (specPhase_ev x) (ev_b (fun c1 => ?_) (fun c1 => ev_ret (by rw [c1]; rfl)))
  refine Ev.bind (l42At_ev l x.f0 hl) (ev_split (fun c2 => ?_) (fun c2 => ev_ret (by rw [decide_eq_false c2]; simp)))
  rw [c1, decide_eq_true c2]
  refine Ev.bind (specEnd_ev _) (ev_split (fun d => Ev.bind (l42At_ev l x.f6 hl) (ev_split (fun d2 => ev_ret ?_) (fun d2 => ev_eq tl ?_))) (fun d => ev_eq tl ?_))
  · rw [decide_eq_true d, decide_eq_false (by omega : ¬ (i : Int) < phIx x.f6 l 0)]; rfl
  · rw [decide_eq_true (by omega : (i : Int) < phIx x.f6 l 0)]; simp
  · rw [decide_eq_false d]; rfl
theorem implRec_ev (l : List S_impl_RecPhase) (hl : l.length ≤ 140737488351232) (hz : ∀ x ∈ l, SzR x) : Ev (fun k => impl_RecOk.f k l) (recB l) := by
  unfold impl_RecOk.f recB
  refine ev_split (fun c => ev_ret (by rw [inB_f (by omega)]; rfl)) (fun c1 => ev_split (fun c => ev_ret (by rw [inB_f (by omega)]; rfl)) (fun c2 => ?_))
  rw [inB_t (by omega), Bool.true_and]
  have L1 : Ev (fun k => impl_RecOk.l1 k l 0) (recN l 0 l) := by
    refine loopL z_impl_RecPhase l (P := fun i r => Ev (fun k => impl_RecOk.l1 k l (i : Int)) (recN l i r))
      (by refine Ev.step (fun k => by rw [impl_RecOk.l1]) ?_; exact ev_neg (by omega) (ev_ret rfl)) (fun i x r hi hx hm _ ih => ?_)
    refine Ev.step (fun k => by rw [impl_RecOk.l1]) (ev_pos (by omega) (ev_pos (by omega) ?_))
    rw [rdRP, hx, show recN l i (x :: r) = ((onB l i x.f6 && onB l i x.f7) && recN l (i + 1) r) from rfl]
    generalize recN l (i + 1) r = R at *
    have q2 : Ev (fun k => impl_RecOk.l2 k l (i : Int) [x.f6, x.f7] 2) R := by
      refine Ev.step (fun k => by rw [impl_RecOk.l2]) ?_
      rw [wsucc hi (by omega)]
      exact ev_neg (by omega) ih
    have w1 : wrap64 (1 + 1) = 2 := by unfold wrap64; omega
    have w0 : wrap64 (0 + 1) = 1 := by unfold wrap64; omega
    have q1 : Ev (fun k => impl_RecOk.l2 k l (i : Int) [x.f6, x.f7] 1) (onB l i x.f7 && R) := by
      refine Ev.step (fun k => by rw [impl_RecOk.l2]) (ev_pos (by omega) (ev_pos (by omega) (ev_pos (by simp) ?_)))
      rw [w1, show rdOf ByteArray.empty [x.f6, x.f7] 1 = x.f7 from rfl]
      unfold onB
      refine Ev.bind (implEnd_ev _) (ev_split (fun d => Ev.bind (phase_ev l x.f7 hl) (ev_split (fun d2 => ev_ret ?_) (fun d2 => ev_eq q2 ?_))) (fun d => ev_eq q2 ?_))
      · rw [decide_eq_true d, decide_eq_false (by omega : ¬ (i : Int) < phIx x.f7 l 0)]; rfl
      · rw [decide_eq_true (by omega : (i : Int) < phIx x.f7 l 0)]; simp
      · rw [decide_eq_false d]; rfl
    refine Ev.step (fun k => by rw [impl_RecOk.l2]) (ev_pos (by omega) (ev_pos (by omega) (ev_pos (by simp) ?_)))
    rw [w0, show rdOf ByteArray.empty [x.f6, x.f7] 0 = x.f6 from rfl, show onB l i x.f6 = (!decide (endOf x.f6 = 0) || decide ((i : Int) < phIx x.f6 l 0)) from rfl]
    refine Ev.bind (implEnd_ev _) (ev_split (fun d => Ev.bind (phase_ev l x.f6 hl) (ev_split (fun d2 => ev_ret ?_) (fun d2 => ev_eq q1 ?_))) (fun d => ev_eq q1 ?_))
    · rw [decide_eq_true d, decide_eq_false (by omega : ¬ (i : Int) < phIx x.f6 l 0)]; rfl
    · rw [decide_eq_true (by omega : (i : Int) < phIx x.f6 l 0)]; simp
    · rw [decide_eq_false d]; rfl
  generalize recN l 0 l = N at *
  refine loopL z_impl_RecPhase l (P := fun i r => Ev (fun k => impl_RecOk.l0 k l (i : Int)) (recA l i r && N))
    (by refine Ev.step (fun k => by rw [impl_RecOk.l0]) ?_; exact ev_neg (by omega) (ev_eq L1 rfl)) (fun i x r hi hx hm _ ih => ?_)
  refine Ev.step (fun k => by rw [impl_RecOk.l0]) (ev_pos (by omega) (ev_pos (by omega) ?_))
  rw [wsucc hi (by omega), rdRP, hx, show recA l i (x :: r) = (ownB l i x && recA l (i + 1) r) from rfl]
  unfold ownB
  refine Ev.bind (implPhase_ev x (hz x hm)) (ev_b (fun c3 => ?_) (fun c3 => ev_ret (by rw [c3]; rfl)))
  refine Ev.bind (phase_ev l x.f0 hl) (ev_split (fun c4 => ev_eq ih ?_) (fun c4 => ev_ret (by rw [decide_eq_false c4]; simp)))
  rw [c3, decide_eq_true c4]; rfl
/-! ### lists without doubles -/
theorem nodup_len : ∀ (l m : List ByteArray), l.Nodup → l ⊆ m → l.length ≤ m.length
  | [], m, _, _ => Nat.zero_le _
  | x :: l, m, h, hs => by
    obtain ⟨h1, h2⟩ := List.nodup_cons.1 h
    obtain ⟨s, r, rfl⟩ := List.append_of_mem (hs (List.mem_cons_self ..))
    have := nodup_len l (s ++ r) h2 (fun z hz => by
      have hz2 := hs (List.mem_cons_of_mem _ hz)
      rcases List.mem_append.1 hz2 with q | q
      · exact List.mem_append_left _ q
      · rcases List.mem_cons.1 q with q | q
        · rw [q] at hz; exact absurd hz h1
        · exact List.mem_append_right _ q)
    rw [List.length_append] at this
    rw [List.length_append, List.length_cons, List.length_cons]; omega
/-! ### the slots of a recipe -/
def ofP (x : S_impl_RecPhase) : List ByteArray := if x.f1 = 2 then insertL x.f3 [x.f2] else [x.f2]
def slotsN (l : List S_impl_RecPhase) : Nat → ByteArray → List ByteArray
  | 0, _ => []
  | n + 1, a => if phIx a l 0 < 0 then [] else setW (setW (ofP (l.getD (phIx a l 0).toNat z_impl_RecPhase)) (slotsN l n (l.getD (phIx a l 0).toNat z_impl_RecPhase).f6)) (slotsN l n (l.getD (phIx a l 0).toNat z_impl_RecPhase).f7)
def pool (l : List S_impl_RecPhase) : List ByteArray := l.map (·.f2) ++ l.map (·.f3)
theorem ofP_ok (l : List S_impl_RecPhase) (x : S_impl_RecPhase) (hx : x ∈ l) : SortedL (ofP x) ∧ ∀ z ∈ ofP x, z ∈ pool l := by
  have h2 : x.f2 ∈ pool l := List.mem_append_left _ (List.mem_map.2 ⟨x, hx, rfl⟩)
  have h3 : x.f3 ∈ pool l := List.mem_append_right _ (List.mem_map.2 ⟨x, hx, rfl⟩)
  unfold ofP
  split
  · refine ⟨insertL_sorted _ _ (List.pairwise_singleton _ _), fun z hz => ?_⟩
    rcases (insertL_mem _ _ _).1 hz with rfl | hz
    · exact h3
    · rw [List.mem_singleton] at hz; subst hz; exact h2
  · exact ⟨List.pairwise_singleton _ _, fun z hz => by rw [List.mem_singleton] at hz; subst hz; exact h2⟩
theorem slots_ok (l : List S_impl_RecPhase) : ∀ (n : Nat) (a : ByteArray), SortedL (slotsN l n a) ∧ ∀ z ∈ slotsN l n a, z ∈ pool l
  | 0, _ => ⟨sorted_nil, fun z hz => (by cases hz)⟩
  | n + 1, a => by
    unfold slotsN
    split
    · exact ⟨sorted_nil, fun z hz => (by cases hz)⟩
    · rename_i c
      rcases phIx_at l a l 0 rfl with e | ⟨j, h1, _, h3, _⟩
      · rw [e] at c; omega
      · rw [h3, Int.toNat_natCast]
        obtain ⟨p1, p2⟩ := ofP_ok l _ (mem_getD z_impl_RecPhase l j h1)
        obtain ⟨q1, q2⟩ := slots_ok l n (l.getD j z_impl_RecPhase).f6
        obtain ⟨r1, r2⟩ := slots_ok l n (l.getD j z_impl_RecPhase).f7
        refine ⟨setW_sorted _ _ (setW_sorted _ _ p1), fun z hz => ?_⟩
        rcases (setW_mem z _ _).1 hz with hz | hz
        · rcases (setW_mem z _ _).1 hz with hz | hz
          · exact p2 z hz
          · exact q2 z hz
        · exact r2 z hz
theorem pool_len (l : List S_impl_RecPhase) {m : List ByteArray} (h1 : SortedL m) (h2 : ∀ z ∈ m, z ∈ pool l) : m.length ≤ 2 * l.length := by
  have := nodup_len m (pool l) (sorted_nodup h1) h2
  unfold pool at this
  rw [List.length_append, List.length_map, List.length_map] at this
  omega
theorem l42Both_ev (P : List ByteArray) (hP : P.length ≤ 1000) (a b : List ByteArray) (hb : b.length ≤ 1000) (ha : SortedL a) (h1 : ∀ z ∈ a, z ∈ P) (h2 : ∀ z ∈ b, z ∈ P) : Ev (fun k => spec_l42Both.f k a b) (setW a b) := by
  unfold spec_l42Both.f
  have key := loopL ByteArray.empty b (P := fun i r => ∀ c : List ByteArray, SortedL c → (∀ z ∈ c, z ∈ P) → Ev (fun k => spec_l42Both.l0 k a b c (i : Int)) (setW c r))
    (fun c _ _ => by refine Ev.step (fun k => by rw [spec_l42Both.l0]) ?_; exact ev_neg (by omega) (ev_ret rfl)) (fun i y r hi hy hm _ ih c hc hcP => ?_)
  · exact key a ha h1
  refine Ev.step (fun k => by rw [spec_l42Both.l0]) (ev_pos (by omega) (ev_pos (by omega) ?_))
  rw [wsucc hi (by omega), rdOf_nat, hy]
  have := nodup_len c P (sorted_nodup hc) hcP
  refine Ev.bind (l42Insert_ev c y (by omega)) (ih _ (insertL_sorted _ _ hc) (fun z hz => ?_))
  rcases (insertL_mem _ _ _).1 hz with rfl | hz
  · exact h2 _ hm
  · exact hcP z hz
theorem l42Of_ev (x : S_impl_RecPhase) : Ev (fun k => spec_l42Of.f k x.f0 x.f1 x.f2 x.f3 x.f4 x.f5 x.f6 x.f7) (ofP x) := by
  unfold spec_l42Of.f ofP
  refine ev_split (fun c => ?_) (fun c => ev_ret (by rw [if_neg c]))
  rw [if_pos c]
  exact Ev.bind (l42Insert_ev [x.f2] x.f3 (by simp)) (ev_ret rfl)
theorem slotsP_ev (x : S_impl_RecPhase) : Ev (fun k => impl_RecPhase_slots.f k x.f0 x.f1 x.f2 x.f3 x.f4 x.f5 x.f6 x.f7) (ofP x) := by
  unfold impl_RecPhase_slots.f ofP
  refine ev_split (fun c => ?_) (fun c => ev_ret (by rw [if_neg c]))
  rw [if_pos c]
  exact Ev.bind (setW_ev [] [x.f2, x.f3] sorted_nil (by simp)) (ev_ret rfl)
/-- what comes behind a phase -/
theorem next_ok {l : List S_impl_RecPhase} (h : recB l = true) {j : Nat} (hj : j < l.length) : ∀ a, a = (l.getD j z_impl_RecPhase).f6 ∨ a = (l.getD j z_impl_RecPhase).f7 → phIx a l 0 < 0 ∨ (j : Int) < phIx a l 0 := by
  unfold recB at h
  simp only [Bool.and_eq_true] at h
  have keyN : ∀ (r : List S_impl_RecPhase) (i : Nat), l.drop i = r → recN l i r = true → ∀ t, i ≤ t → t < l.length → onB l t (l.getD t z_impl_RecPhase).f6 = true ∧ onB l t (l.getD t z_impl_RecPhase).f7 = true := fun r => by
    induction r with
    | nil => intro i hd _ t h1 h2; have := List.drop_eq_nil_iff.1 hd; omega
    | cons x r ih =>
      intro i hd hr t h1 h2
      have hi : i < l.length := by
        refine Nat.lt_of_not_le fun hle => ?_
        rw [List.drop_eq_nil_iff.2 hle] at hd; cases hd
      have e := List.drop_eq_getElem_cons hi
      rw [hd] at e; injection e with e1 e2
      rw [show recN l i (x :: r) = ((onB l i x.f6 && onB l i x.f7) && recN l (i + 1) r) from rfl, Bool.and_eq_true, Bool.and_eq_true] at hr
      by_cases c : t = i
      · subst c
        rw [getD_eq _ l t hi, ← e1]; exact hr.1
      · exact ih (i + 1) e2.symm hr.2 t (by omega) h2
  have keyA : ∀ (r : List S_impl_RecPhase) (i : Nat), l.drop i = r → recA l i r = true → ∀ t, i ≤ t → t < l.length → phaseB (l.getD t z_impl_RecPhase) = true := fun r => by
    induction r with
    | nil => intro i hd _ t h1 h2; have := List.drop_eq_nil_iff.1 hd; omega
    | cons x r ih =>
      intro i hd hr t h1 h2
      have hi : i < l.length := by
        refine Nat.lt_of_not_le fun hle => ?_
        rw [List.drop_eq_nil_iff.2 hle] at hd; cases hd
      have e := List.drop_eq_getElem_cons hi
      rw [hd] at e; injection e with e1 e2
      rw [show recA l i (x :: r) = (ownB l i x && recA l (i + 1) r) from rfl, Bool.and_eq_true] at hr
      by_cases c : t = i
      · subst c
        rw [getD_eq _ l t hi, ← e1]
        have := hr.1
        unfold ownB at this
        rw [Bool.and_eq_true] at this
        exact this.1
      · exact ih (i + 1) e2.symm hr.2 t (by omega) h2
  obtain ⟨n6, n7⟩ := keyN l 0 rfl h.2.2 j (Nat.zero_le _) hj
  have fin : ∀ a, onB l j a = true → phIx a l 0 < 0 ∨ (j : Int) < phIx a l 0 := fun a ha => by
    unfold onB at ha
    rw [Bool.or_eq_true] at ha
    rcases ha with ha | ha
    · left
      rcases phIx_at l a l 0 rfl with e | ⟨t, t1, _, t3, t4⟩
      · rw [e]; omega
      · have := keyA l 0 rfl h.2.1 t (Nat.zero_le _) t1
        unfold phaseB at this
        simp only [Bool.and_eq_true, decide_eq_true_eq] at this
        rw [t4] at this
        rw [decide_eq_true this.1.2] at ha; cases ha
    · exact .inr (of_decide_eq_true ha)
  rintro a (rfl | rfl)
  · exact fin _ n6
  · exact fin _ n7
theorem specSlots_ev {l : List S_impl_RecPhase} (h : recB l = true) (hl : l.length ≤ 12) : ∀ (n : Nat) (a : ByteArray), phIx a l 0 < 0 ∨ (l.length : Int) ≤ n + phIx a l 0 → Ev (fun k => spec_l42Slots.f k l a) (slotsN l n a)
  | n, a, hn => by
    have eA := l42At_ev l a (by omega)
    refine Ev.step (fun k => by rw [spec_l42Slots.f]) (Ev.bind eA ?_)
    rcases phIx_at l a l 0 rfl with e | ⟨j, j1, _, j3, j4⟩
    · rw [e]
      refine ev_pos (by omega) (ev_ret ?_)
      cases n with
      | zero => rfl
      | succ n => unfold slotsN; rw [if_pos (by omega)]
    · rw [j3] at hn ⊢
      refine ev_neg (by omega) (ev_pos (by omega) (ev_pos (by omega) ?_))
      cases n with
      | zero => exfalso; omega
      | succ n =>
        rw [rdRP]
        have hx := next_ok h j1
        have e6 := specSlots_ev h hl n (l.getD j z_impl_RecPhase).f6 (by have := hx _ (.inl rfl); omega)
        have e7 := specSlots_ev h hl n (l.getD j z_impl_RecPhase).f7 (by have := hx _ (.inr rfl); omega)
        unfold slotsN
        rw [j3, if_neg (by omega : ¬ (j : Int) < 0), Int.toNat_natCast]
        obtain ⟨p1, p2⟩ := ofP_ok l _ (mem_getD z_impl_RecPhase l j j1)
        have eO := l42Of_ev (l.getD j z_impl_RecPhase)
        generalize l.getD j z_impl_RecPhase = x at *
        obtain ⟨q1, q2⟩ := slots_ok l n x.f6
        obtain ⟨r1, r2⟩ := slots_ok l n x.f7
        have hpl : (pool l).length ≤ 1000 := by unfold pool; rw [List.length_append, List.length_map, List.length_map]; omega
        have ql := pool_len l q1 q2
        have rl := pool_len l r1 r2
        have b1 := l42Both_ev (pool l) hpl (ofP x) (slotsN l n x.f6) (by omega) p1 p2 q2
        have s1 := setW_sorted (slotsN l n x.f6) _ p1
        have s2 : ∀ z ∈ setW (ofP x) (slotsN l n x.f6), z ∈ pool l := fun z hz => by
          rcases (setW_mem z _ _).1 hz with hz | hz
          · exact p2 z hz
          · exact q2 z hz
        have b2 := l42Both_ev (pool l) hpl _ (slotsN l n x.f7) (by omega) s1 s2 r2
        exact Ev.bind eO (Ev.bind e6 (Ev.bind b1 (Ev.bind e7 (Ev.bind b2 (ev_ret rfl)))))
theorem implSlots_ev {l : List S_impl_RecPhase} (h : recB l = true) (hl : l.length ≤ 12) : ∀ (n : Nat) (a : ByteArray), phIx a l 0 < 0 ∨ (l.length : Int) ≤ n + phIx a l 0 → Ev (fun k => impl_slotsOf.f k l a) (slotsN l n a)
  | n, a, hn => by
    have eA := phase_ev l a (by omega)
    refine Ev.step (fun k => by rw [impl_slotsOf.f]) (Ev.bind eA ?_)
    rcases phIx_at l a l 0 rfl with e | ⟨j, j1, _, j3, j4⟩
    · rw [e]
      refine ev_pos (by omega) (ev_ret ?_)
      cases n with
      | zero => rfl
      | succ n => unfold slotsN; rw [if_pos (by omega)]
    · rw [j3] at hn ⊢
      refine ev_neg (by omega) (ev_pos (by omega) (ev_pos (by omega) ?_))
      cases n with
      | zero => exfalso; omega
      | succ n =>
        rw [rdRP]
        have hx := next_ok h j1
        have e6 := implSlots_ev h hl n (l.getD j z_impl_RecPhase).f6 (by have := hx _ (.inl rfl); omega)
        have e7 := implSlots_ev h hl n (l.getD j z_impl_RecPhase).f7 (by have := hx _ (.inr rfl); omega)
        unfold slotsN
        rw [j3, if_neg (by omega : ¬ (j : Int) < 0), Int.toNat_natCast]
        obtain ⟨p1, p2⟩ := ofP_ok l _ (mem_getD z_impl_RecPhase l j j1)
        have eO := slotsP_ev (l.getD j z_impl_RecPhase)
        generalize l.getD j z_impl_RecPhase = x at *
        obtain ⟨q1, q2⟩ := slots_ok l n x.f6
        obtain ⟨r1, r2⟩ := slots_ok l n x.f7
        have pl := pool_len l p1 p2
        have ql := pool_len l q1 q2
        have rl := pool_len l r1 r2
        have b1 := setW_ev (ofP x) (slotsN l n x.f6) p1 (by omega)
        have s1 := setW_sorted (slotsN l n x.f6) _ p1
        have sl := setW_len (slotsN l n x.f6) (ofP x)
        have b2 := setW_ev (setW (ofP x) (slotsN l n x.f6)) (slotsN l n x.f7) s1 (by omega)
        exact Ev.bind eO (Ev.bind e6 (Ev.bind b1 (Ev.bind e7 (Ev.bind b2 (ev_ret rfl)))))
theorem szR_of {x : S_laws_RecPhase} (h : ok_laws_RecPhase x) : SzR (cv_laws_RecPhase x) := by
  obtain ⟨h0, h1, h2, h3, h4, h5, h6, h7⟩ := h
  exact ⟨h0, h2, h3, h6, h7⟩
theorem FnExactRecSlots : ∀ (x0 : List S_laws_RecPhase) (x1 : ByteArray), ((x0.length ≤ 9223372036854775807 ∧ x0.length * 104 ≤ 140737488351232) ∧ ∀ z ∈ x0, ok_laws_RecPhase z) → (x1.size ≤ 140737488351232) → ∃ k, laws_FnExactRecSlots.f k x0 x1 = some true := by
  intro x a hx ha
  obtain ⟨⟨xl, xl2⟩, xk⟩ := hx
  obtain ⟨q, hq⟩ := szRecPhaseS_ev x (by omega) xk 1048576
  have ht := toRecPhaseS_ev x (by omega) xk
  have hk : ∀ z ∈ x.map cv_laws_RecPhase, ok_impl_RecPhase z := fun z hz => by obtain ⟨w, hw, rfl⟩ := List.mem_map.1 hz; exact xk w hw
  have hz : ∀ z ∈ x.map cv_laws_RecPhase, SzR z := fun z hz => by obtain ⟨w, hw, rfl⟩ := List.mem_map.1 hz; exact szR_of (xk w hw)
  have hll : (x.map cv_laws_RecPhase).length = x.length := List.length_map ..
  have hE := eqRecPhaseS_ev (x.map cv_laws_RecPhase) (by omega) hk
  have hm := markRecPhaseS_ev (x.map cv_laws_RecPhase) 1 (by omega) (by omega) (by omega)
  have hS := specRec_ev (x.map cv_laws_RecPhase) (by omega)
  have hI := implRec_ev (x.map cv_laws_RecPhase) (by omega) hz
  generalize x.map cv_laws_RecPhase = l at *
  have hb12 : recB l = true → l.length ≤ 12 := fun h => by
    unfold recB inB at h
    rw [Bool.and_eq_true, decide_eq_true_iff] at h
    omega
  have eS : Ev (fun k => spec_RecSlots.f k l a) (if recB l = true then slotsN l (l.length + 1) a else []) := by
    unfold spec_RecSlots.f
    refine Ev.bind hS (ev_b (fun c => ?_) (fun c => ev_ret (by rw [c]; rfl)))
    rw [if_pos c]
    refine Ev.bind (specSlots_ev c (hb12 c) (l.length + 1) a ?_) (ev_ret rfl)
    rcases phIx_at l a l 0 rfl with e | ⟨j, j1, _, j3, _⟩ <;> omega
  have eI : Ev (fun k => impl_RecSlots.f k l a) (if recB l = true then slotsN l (l.length + 1) a else []) := by
    unfold impl_RecSlots.f
    refine Ev.bind hI (ev_b (fun c => ?_) (fun c => ev_ret (by rw [c]; rfl)))
    rw [if_pos c]
    refine Ev.bind (implSlots_ev c (hb12 c) (l.length + 1) a ?_) (ev_ret rfl)
    rcases phIx_at l a l 0 rfl with e | ⟨j, j1, _, j3, _⟩ <;> omega
  have hl : (if recB l = true then slotsN l (l.length + 1) a else []).length ≤ 24 := by
    split
    · rename_i c
      obtain ⟨s1, s2⟩ := slots_ok l (l.length + 1) a
      have := pool_len l s1 s2
      have := hb12 c
      omega
    · simp
  generalize (if recB l = true then slotsN l (l.length + 1) a else []) = R at *
  have e2 := eqStringS_ev R (by omega)
  have e3 := markStringS_ev R 1 (by omega) (by omega) (by omega)
  have e4 := heldStringS_ev R.length 1 (by omega) (by omega) (by omega)
  clear hS hI hz hk hb12 hl
  refine Ev.rounds ?_
  unfold laws_FnExactRecSlots.f
  refine ev_split (fun _ => ev_ret rfl) (fun _ => Ev.bind hq (ev_split (fun _ => ev_ret rfl) (fun _ => ?_)))
  repeat' (first
    | with_reducible refine Ev.bind ht ?_
    | with_reducible refine Ev.bind eS ?_
    | with_reducible refine Ev.bind eI ?_
    | with_reducible refine Ev.bind e2 ?_
    | with_reducible refine Ev.bind hE ?_
    | with_reducible refine Ev.bind hm ?_
    | with_reducible refine Ev.bind e3 ?_
    | with_reducible refine Ev.bind e4 ?_
    | with_reducible refine ev_neg (by first | omega | (dsimp only; omega)) ?_
    | with_reducible refine ev_pos rfl ?_
    | with_reducible exact ev_ret rfl)
end Go.Proofs.Ytodeegjblililaa.Pure
