/- Laid by a program of this session: the texts of one law, joined, without what it does not come to. -/
import Derived.Test.YtpildfacenlceaaZFnExactPlantValid5
namespace Go.Proofs.Ytpildfacenlceaa.QFnExactPlantValid
open Go.RowKit Go.Proofs.YtpildfacenlceaaW.PrintWords Go.Proofs.YtpildfacenlceaaW.PrintLast Go.Proofs.YtpildfacenlceaaW.PrintMore
attribute [local go_sem] str_geq str_gtr str_leq max2_int min2_int max_two min_two max_three min_three max_four min_four   -- for this text's walks alone
set_option linter.unusedVariables false
set_option linter.unusedSimpArgs false
mutual
def impl_PlantValid.j0 : Nat → Bool → List ByteArray → List (S105) → List (S86) → List (S108) → Option (Bool)
 | 0, _, _, _, _, _ => none
 | k + 1, x40, x236000, x236001, x236002, x236003 => if x40 = true then (some false) else (impl_PlantValid.l0 k x236001 (x236001.length : Int) 0 x236000 x236001 x236002 x236003)
def impl_PlantValid.l0 : Nat → List (S105) → Int → Int → List ByteArray → List (S105) → List (S86) → List (S108) → Option (Bool)
 | 0, _, _, _, _, _, _, _ => none
 | k + 1, x42, x43, x44, x236000, x236001, x236002, x236003 => if x44 < x43 then (if 0 ≤ x44 then (if x44 < (x42.length : Int) then ((impl_has.f k x236000 ((rd_T105 x42 x44).f0)).bind fun t243 => (if t243 = true then ((impl_has.f k x236000 ((rd_T105 x42 x44).f1)).bind fun t244 => (if t244 = true then (impl_PlantValid.l0 k x42 x43 (wrap64 (x44 + 1)) x236000 x236001 x236002 x236003) else (some false))) else (some false))) else (none)) else (none)) else (impl_PlantValid.l1 k x236002 (x236002.length : Int) 0 x236000 x236001 x236002 x236003)
def impl_PlantValid.l1 : Nat → List (S86) → Int → Int → List ByteArray → List (S105) → List (S86) → List (S108) → Option (Bool)
 | 0, _, _, _, _, _, _, _ => none
 | k + 1, x64, x65, x66, x236000, x236001, x236002, x236003 => if x66 < x65 then (if 0 ≤ x66 then (if x66 < (x64.length : Int) then ((impl_isName.f k ((rd_T86 x64 x66).f0)).bind fun t247 => (if t247 = true then (if ((rd_T86 x64 x66).f1) < 0 then (impl_PlantValid.j3 k x64 x65 x66 true x236000 x236001 x236002 x236003) else (if ((rd_T86 x64 x66).f1) > 1000 then (impl_PlantValid.j3 k x64 x65 x66 true x236000 x236001 x236002 x236003) else ((impl_isName.f k ((rd_T86 x64 x66).f2)).bind fun t248 => (if t248 = true then (if x66 > 0 then (if 0 ≤ (wrap64 (x66 - 1)) then (if (wrap64 (x66 - 1)) < (x236002.length : Int) then (impl_PlantValid.j3 k x64 x65 x66 (!(Op.bytesLess (((rd_T86 x236002 (wrap64 (x66 - 1))).f0).toList) (((rd_T86 x64 x66).f0).toList))) x236000 x236001 x236002 x236003) else (none)) else (none)) else (impl_PlantValid.j3 k x64 x65 x66 false x236000 x236001 x236002 x236003)) else (impl_PlantValid.j3 k x64 x65 x66 true x236000 x236001 x236002 x236003))))) else (impl_PlantValid.j3 k x64 x65 x66 true x236000 x236001 x236002 x236003))) else (none)) else (none)) else (impl_PlantValid.l2 k x236003 (x236003.length : Int) 0 x236000 x236001 x236002 x236003)
def impl_PlantValid.j3 : Nat → List (S86) → Int → Int → Bool → List ByteArray → List (S105) → List (S86) → List (S108) → Option (Bool)
 | 0, _, _, _, _, _, _, _, _ => none
 | k + 1, x64, x65, x66, x106, x236000, x236001, x236002, x236003 => if x106 = true then (some false) else (impl_PlantValid.l1 k x64 x65 (wrap64 (x66 + 1)) x236000 x236001 x236002 x236003)
def impl_PlantValid.l2 : Nat → List (S108) → Int → Int → List ByteArray → List (S105) → List (S86) → List (S108) → Option (Bool)
 | 0, _, _, _, _, _, _, _ => none
 | k + 1, x109, x110, x111, x236000, x236001, x236002, x236003 => if x111 < x110 then (if 0 ≤ x111 then (if x111 < (x109.length : Int) then ((impl_Plant_place.f k x236000 x236001 x236002 x236003 ((rd_T108 x109 x111).f1)).bind fun bt252 => ((impl_Plant_place.f k x236000 x236001 x236002 x236003 ((rd_T108 x109 x111).f2)).bind fun bt257 => ((impl_isName.f k ((rd_T108 x109 x111).f0)).bind fun t262 => (if t262 = true then (if bt252.2.2.2 = true then (if bt257.2.2.2 = true then (if ((Op.bytesLess (((rd_T108 x109 x111).f1).toList) (((rd_T108 x109 x111).f2).toList)) = true) then ((impl_isName.f k ((rd_T108 x109 x111).f3)).bind fun t263 => (if t263 = true then (if x111 > 0 then (if 0 ≤ (wrap64 (x111 - 1)) then (if (wrap64 (x111 - 1)) < (x236003.length : Int) then (impl_PlantValid.j5 k x109 x110 x111 (!(Op.bytesLess (((rd_T108 x236003 (wrap64 (x111 - 1))).f0).toList) (((rd_T108 x109 x111).f0).toList))) x236000 x236001 x236002 x236003) else (none)) else (none)) else (impl_PlantValid.j5 k x109 x110 x111 false x236000 x236001 x236002 x236003)) else (impl_PlantValid.j5 k x109 x110 x111 true x236000 x236001 x236002 x236003))) else (impl_PlantValid.j5 k x109 x110 x111 true x236000 x236001 x236002 x236003)) else (impl_PlantValid.j5 k x109 x110 x111 true x236000 x236001 x236002 x236003)) else (impl_PlantValid.j5 k x109 x110 x111 true x236000 x236001 x236002 x236003)) else (impl_PlantValid.j5 k x109 x110 x111 true x236000 x236001 x236002 x236003))))) else (none)) else (none)) else (some true)
def impl_PlantValid.j5 : Nat → List (S108) → Int → Int → Bool → List ByteArray → List (S105) → List (S86) → List (S108) → Option (Bool)
 | 0, _, _, _, _, _, _, _, _ => none
 | k + 1, x109, x110, x111, x170, x236000, x236001, x236002, x236003 => if x170 = true then (some false) else (impl_PlantValid.l2 k x109 x110 (wrap64 (x111 + 1)) x236000 x236001 x236002 x236003)
end
def impl_PlantValid.f (k : Nat) (l0_0 : List ByteArray) (l0_1 : List (S105)) (l0_2 : List (S86)) (l0_3 : List (S108)) : Option (Bool) := if (l0_0.length : Int) > 8 then (impl_PlantValid.j0 k true l0_0 l0_1 l0_2 l0_3) else ((impl_names.f k l0_0).bind fun t236 => (if t236 = true then ((impl_Plant_pairs.f k l0_0 l0_1 l0_2 l0_3).bind fun t237 => ((impl_foesOk.f k t237 12).bind fun t240 => (if t240 = true then (if (l0_2.length : Int) > 14 then (impl_PlantValid.j0 k true l0_0 l0_1 l0_2 l0_3) else (impl_PlantValid.j0 k (decide ((l0_3.length : Int) > 18)) l0_0 l0_1 l0_2 l0_3)) else (impl_PlantValid.j0 k true l0_0 l0_1 l0_2 l0_3)))) else (impl_PlantValid.j0 k true l0_0 l0_1 l0_2 l0_3)))
theorem impl_PlantValid.mono_l : ∀ k, (∀ y0 y1 y2 y3 y4, LeO (impl_PlantValid.j0 k y0 y1 y2 y3 y4) (impl_PlantValid.j0 (k + 1) y0 y1 y2 y3 y4)) ∧ (∀ y0 y1 y2 y3 y4 y5 y6, LeO (impl_PlantValid.l0 k y0 y1 y2 y3 y4 y5 y6) (impl_PlantValid.l0 (k + 1) y0 y1 y2 y3 y4 y5 y6)) ∧ (∀ y0 y1 y2 y3 y4 y5 y6, LeO (impl_PlantValid.l1 k y0 y1 y2 y3 y4 y5 y6) (impl_PlantValid.l1 (k + 1) y0 y1 y2 y3 y4 y5 y6)) ∧ (∀ y0 y1 y2 y3 y4 y5 y6 y7, LeO (impl_PlantValid.j3 k y0 y1 y2 y3 y4 y5 y6 y7) (impl_PlantValid.j3 (k + 1) y0 y1 y2 y3 y4 y5 y6 y7)) ∧ (∀ y0 y1 y2 y3 y4 y5 y6, LeO (impl_PlantValid.l2 k y0 y1 y2 y3 y4 y5 y6) (impl_PlantValid.l2 (k + 1) y0 y1 y2 y3 y4 y5 y6)) ∧ (∀ y0 y1 y2 y3 y4 y5 y6 y7, LeO (impl_PlantValid.j5 k y0 y1 y2 y3 y4 y5 y6 y7) (impl_PlantValid.j5 (k + 1) y0 y1 y2 y3 y4 y5 y6 y7))
 | 0 => ⟨fun _ _ _ _ _ r h => by simp [impl_PlantValid.j0] at h, fun _ _ _ _ _ _ _ r h => by simp [impl_PlantValid.l0] at h, fun _ _ _ _ _ _ _ r h => by simp [impl_PlantValid.l1] at h, fun _ _ _ _ _ _ _ _ r h => by simp [impl_PlantValid.j3] at h, fun _ _ _ _ _ _ _ r h => by simp [impl_PlantValid.l2] at h, fun _ _ _ _ _ _ _ _ r h => by simp [impl_PlantValid.j5] at h⟩
 | k + 1 => by
  obtain ⟨ih0, ih1, ih2, ih3, ih4, ih5⟩ := impl_PlantValid.mono_l k
  refine ⟨?_, ?_, ?_, ?_, ?_, ?_⟩
  ·intro y0 y1 y2 y3 y4
   unfold impl_PlantValid.j0
   repeat' first
   | (with_reducible exact ih0 _ _ _ _ _)
   | (with_reducible exact ih1 _ _ _ _ _ _ _)
   | (with_reducible exact ih2 _ _ _ _ _ _ _)
   | (with_reducible exact ih3 _ _ _ _ _ _ _ _)
   | (with_reducible exact ih4 _ _ _ _ _ _ _)
   | (with_reducible exact ih5 _ _ _ _ _ _ _ _)
   | (with_reducible exact impl_Plant_pairs.mono _ _ _ _ _)
   | (with_reducible exact impl_Plant_place.mono _ _ _ _ _ _)
   | (with_reducible exact impl_foesOk.mono _ _ _)
   | (with_reducible exact impl_has.mono _ _ _)
   | (with_reducible exact impl_isName.mono _ _)
   | (with_reducible exact impl_names.mono _ _)
   | (with_reducible exact LeO.refl _)
   | (with_reducible exact LeO.none _)
   | (with_reducible refine LeO.ite ?_ ?_)
   | (with_reducible refine LeO.bind ?_ (fun _ => ?_))
   | exact ih0 _ _ _ _ _
   | exact ih1 _ _ _ _ _ _ _
   | exact ih2 _ _ _ _ _ _ _
   | exact ih3 _ _ _ _ _ _ _ _
   | exact ih4 _ _ _ _ _ _ _
   | exact ih5 _ _ _ _ _ _ _ _
   | exact impl_Plant_pairs.mono _ _ _ _ _
   | exact impl_Plant_place.mono _ _ _ _ _ _
   | exact impl_foesOk.mono _ _ _
   | exact impl_has.mono _ _ _
   | exact impl_isName.mono _ _
   | exact impl_names.mono _ _
   | exact LeO.none _
   | refine LeO.ite ?_ ?_
   | refine LeO.bind ?_ (fun _ => ?_)
  ·intro y0 y1 y2 y3 y4 y5 y6
   unfold impl_PlantValid.l0
   repeat' first
   | (with_reducible exact ih0 _ _ _ _ _)
   | (with_reducible exact ih1 _ _ _ _ _ _ _)
   | (with_reducible exact ih2 _ _ _ _ _ _ _)
   | (with_reducible exact ih3 _ _ _ _ _ _ _ _)
   | (with_reducible exact ih4 _ _ _ _ _ _ _)
   | (with_reducible exact ih5 _ _ _ _ _ _ _ _)
   | (with_reducible exact impl_Plant_pairs.mono _ _ _ _ _)
   | (with_reducible exact impl_Plant_place.mono _ _ _ _ _ _)
   | (with_reducible exact impl_foesOk.mono _ _ _)
   | (with_reducible exact impl_has.mono _ _ _)
   | (with_reducible exact impl_isName.mono _ _)
   | (with_reducible exact impl_names.mono _ _)
   | (with_reducible exact LeO.refl _)
   | (with_reducible exact LeO.none _)
   | (with_reducible refine LeO.ite ?_ ?_)
   | (with_reducible refine LeO.bind ?_ (fun _ => ?_))
   | exact ih0 _ _ _ _ _
   | exact ih1 _ _ _ _ _ _ _
   | exact ih2 _ _ _ _ _ _ _
   | exact ih3 _ _ _ _ _ _ _ _
   | exact ih4 _ _ _ _ _ _ _
   | exact ih5 _ _ _ _ _ _ _ _
   | exact impl_Plant_pairs.mono _ _ _ _ _
   | exact impl_Plant_place.mono _ _ _ _ _ _
   | exact impl_foesOk.mono _ _ _
   | exact impl_has.mono _ _ _
   | exact impl_isName.mono _ _
   | exact impl_names.mono _ _
   | exact LeO.none _
   | refine LeO.ite ?_ ?_
   | refine LeO.bind ?_ (fun _ => ?_)
  ·intro y0 y1 y2 y3 y4 y5 y6
   unfold impl_PlantValid.l1
   repeat' first
   | (with_reducible exact ih0 _ _ _ _ _)
   | (with_reducible exact ih1 _ _ _ _ _ _ _)
   | (with_reducible exact ih2 _ _ _ _ _ _ _)
   | (with_reducible exact ih3 _ _ _ _ _ _ _ _)
   | (with_reducible exact ih4 _ _ _ _ _ _ _)
   | (with_reducible exact ih5 _ _ _ _ _ _ _ _)
   | (with_reducible exact impl_Plant_pairs.mono _ _ _ _ _)
   | (with_reducible exact impl_Plant_place.mono _ _ _ _ _ _)
   | (with_reducible exact impl_foesOk.mono _ _ _)
   | (with_reducible exact impl_has.mono _ _ _)
   | (with_reducible exact impl_isName.mono _ _)
   | (with_reducible exact impl_names.mono _ _)
   | (with_reducible exact LeO.refl _)
   | (with_reducible exact LeO.none _)
   | (with_reducible refine LeO.ite ?_ ?_)
   | (with_reducible refine LeO.bind ?_ (fun _ => ?_))
   | exact ih0 _ _ _ _ _
   | exact ih1 _ _ _ _ _ _ _
   | exact ih2 _ _ _ _ _ _ _
   | exact ih3 _ _ _ _ _ _ _ _
   | exact ih4 _ _ _ _ _ _ _
   | exact ih5 _ _ _ _ _ _ _ _
   | exact impl_Plant_pairs.mono _ _ _ _ _
   | exact impl_Plant_place.mono _ _ _ _ _ _
   | exact impl_foesOk.mono _ _ _
   | exact impl_has.mono _ _ _
   | exact impl_isName.mono _ _
   | exact impl_names.mono _ _
   | exact LeO.none _
   | refine LeO.ite ?_ ?_
   | refine LeO.bind ?_ (fun _ => ?_)
  ·intro y0 y1 y2 y3 y4 y5 y6 y7
   unfold impl_PlantValid.j3
   repeat' first
   | (with_reducible exact ih0 _ _ _ _ _)
   | (with_reducible exact ih1 _ _ _ _ _ _ _)
   | (with_reducible exact ih2 _ _ _ _ _ _ _)
   | (with_reducible exact ih3 _ _ _ _ _ _ _ _)
   | (with_reducible exact ih4 _ _ _ _ _ _ _)
   | (with_reducible exact ih5 _ _ _ _ _ _ _ _)
   | (with_reducible exact impl_Plant_pairs.mono _ _ _ _ _)
   | (with_reducible exact impl_Plant_place.mono _ _ _ _ _ _)
   | (with_reducible exact impl_foesOk.mono _ _ _)
   | (with_reducible exact impl_has.mono _ _ _)
   | (with_reducible exact impl_isName.mono _ _)
   | (with_reducible exact impl_names.mono _ _)
   | (with_reducible exact LeO.refl _)
   | (with_reducible exact LeO.none _)
   | (with_reducible refine LeO.ite ?_ ?_)
   | (with_reducible refine LeO.bind ?_ (fun _ => ?_))
   | exact ih0 _ _ _ _ _
   | exact ih1 _ _ _ _ _ _ _
   | exact ih2 _ _ _ _ _ _ _
   | exact ih3 _ _ _ _ _ _ _ _
   | exact ih4 _ _ _ _ _ _ _
   | exact ih5 _ _ _ _ _ _ _ _
   | exact impl_Plant_pairs.mono _ _ _ _ _
   | exact impl_Plant_place.mono _ _ _ _ _ _
   | exact impl_foesOk.mono _ _ _
   | exact impl_has.mono _ _ _
   | exact impl_isName.mono _ _
   | exact impl_names.mono _ _
   | exact LeO.none _
   | refine LeO.ite ?_ ?_
   | refine LeO.bind ?_ (fun _ => ?_)
  ·intro y0 y1 y2 y3 y4 y5 y6
   unfold impl_PlantValid.l2
   repeat' first
   | (with_reducible exact ih0 _ _ _ _ _)
   | (with_reducible exact ih1 _ _ _ _ _ _ _)
   | (with_reducible exact ih2 _ _ _ _ _ _ _)
   | (with_reducible exact ih3 _ _ _ _ _ _ _ _)
   | (with_reducible exact ih4 _ _ _ _ _ _ _)
   | (with_reducible exact ih5 _ _ _ _ _ _ _ _)
   | (with_reducible exact impl_Plant_pairs.mono _ _ _ _ _)
   | (with_reducible exact impl_Plant_place.mono _ _ _ _ _ _)
   | (with_reducible exact impl_foesOk.mono _ _ _)
   | (with_reducible exact impl_has.mono _ _ _)
   | (with_reducible exact impl_isName.mono _ _)
   | (with_reducible exact impl_names.mono _ _)
   | (with_reducible exact LeO.refl _)
   | (with_reducible exact LeO.none _)
   | (with_reducible refine LeO.ite ?_ ?_)
   | (with_reducible refine LeO.bind ?_ (fun _ => ?_))
   | exact ih0 _ _ _ _ _
   | exact ih1 _ _ _ _ _ _ _
   | exact ih2 _ _ _ _ _ _ _
   | exact ih3 _ _ _ _ _ _ _ _
   | exact ih4 _ _ _ _ _ _ _
   | exact ih5 _ _ _ _ _ _ _ _
   | exact impl_Plant_pairs.mono _ _ _ _ _
   | exact impl_Plant_place.mono _ _ _ _ _ _
   | exact impl_foesOk.mono _ _ _
   | exact impl_has.mono _ _ _
   | exact impl_isName.mono _ _
   | exact impl_names.mono _ _
   | exact LeO.none _
   | refine LeO.ite ?_ ?_
   | refine LeO.bind ?_ (fun _ => ?_)
  ·intro y0 y1 y2 y3 y4 y5 y6 y7
   unfold impl_PlantValid.j5
   repeat' first
   | (with_reducible exact ih0 _ _ _ _ _)
   | (with_reducible exact ih1 _ _ _ _ _ _ _)
   | (with_reducible exact ih2 _ _ _ _ _ _ _)
   | (with_reducible exact ih3 _ _ _ _ _ _ _ _)
   | (with_reducible exact ih4 _ _ _ _ _ _ _)
   | (with_reducible exact ih5 _ _ _ _ _ _ _ _)
   | (with_reducible exact impl_Plant_pairs.mono _ _ _ _ _)
   | (with_reducible exact impl_Plant_place.mono _ _ _ _ _ _)
   | (with_reducible exact impl_foesOk.mono _ _ _)
   | (with_reducible exact impl_has.mono _ _ _)
   | (with_reducible exact impl_isName.mono _ _)
   | (with_reducible exact impl_names.mono _ _)
   | (with_reducible exact LeO.refl _)
   | (with_reducible exact LeO.none _)
   | (with_reducible refine LeO.ite ?_ ?_)
   | (with_reducible refine LeO.bind ?_ (fun _ => ?_))
   | exact ih0 _ _ _ _ _
   | exact ih1 _ _ _ _ _ _ _
   | exact ih2 _ _ _ _ _ _ _
   | exact ih3 _ _ _ _ _ _ _ _
   | exact ih4 _ _ _ _ _ _ _
   | exact ih5 _ _ _ _ _ _ _ _
   | exact impl_Plant_pairs.mono _ _ _ _ _
   | exact impl_Plant_place.mono _ _ _ _ _ _
   | exact impl_foesOk.mono _ _ _
   | exact impl_has.mono _ _ _
   | exact impl_isName.mono _ _
   | exact impl_names.mono _ _
   | exact LeO.none _
   | refine LeO.ite ?_ ?_
   | refine LeO.bind ?_ (fun _ => ?_)
theorem impl_PlantValid.mono : ∀ a0 a1 a2 a3 k, LeO (impl_PlantValid.f k a0 a1 a2 a3) (impl_PlantValid.f (k + 1) a0 a1 a2 a3) := by
 intro a0 a1 a2 a3 k
 obtain ⟨ih0, ih1, ih2, ih3, ih4, ih5⟩ := impl_PlantValid.mono_l k
 unfold impl_PlantValid.f
 repeat' first
   | (with_reducible exact ih0 _ _ _ _ _)
   | (with_reducible exact ih1 _ _ _ _ _ _ _)
   | (with_reducible exact ih2 _ _ _ _ _ _ _)
   | (with_reducible exact ih3 _ _ _ _ _ _ _ _)
   | (with_reducible exact ih4 _ _ _ _ _ _ _)
   | (with_reducible exact ih5 _ _ _ _ _ _ _ _)
   | (with_reducible exact impl_Plant_pairs.mono _ _ _ _ _)
   | (with_reducible exact impl_Plant_place.mono _ _ _ _ _ _)
   | (with_reducible exact impl_foesOk.mono _ _ _)
   | (with_reducible exact impl_has.mono _ _ _)
   | (with_reducible exact impl_isName.mono _ _)
   | (with_reducible exact impl_names.mono _ _)
   | (with_reducible exact LeO.refl _)
   | (with_reducible exact LeO.none _)
   | (with_reducible refine LeO.ite ?_ ?_)
   | (with_reducible refine LeO.bind ?_ (fun _ => ?_))
   | exact ih0 _ _ _ _ _
   | exact ih1 _ _ _ _ _ _ _
   | exact ih2 _ _ _ _ _ _ _
   | exact ih3 _ _ _ _ _ _ _ _
   | exact ih4 _ _ _ _ _ _ _
   | exact ih5 _ _ _ _ _ _ _ _
   | exact impl_Plant_pairs.mono _ _ _ _ _
   | exact impl_Plant_place.mono _ _ _ _ _ _
   | exact impl_foesOk.mono _ _ _
   | exact impl_has.mono _ _ _
   | exact impl_isName.mono _ _
   | exact impl_names.mono _ _
   | exact LeO.none _
   | refine LeO.ite ?_ ?_
   | refine LeO.bind ?_ (fun _ => ?_)
set_option maxHeartbeats 8000000 in
set_option maxRecDepth 100000 in
theorem impl_PlantValid.calls (k : Nat) (A0_0 : Option Addr) (c0_0 : Nat) (l0_0 : List ByteArray) (A0_1 : Option Addr) (c0_1 : Nat) (l0_1 : List (S105)) (A0_2 : Option Addr) (c0_2 : Nat) (l0_2 : List (S86)) (A0_3 : Option Addr) (c0_3 : Nat) (l0_3 : List (S108)) (r : Bool) (w : World) (hr0_0 : Kd.C Kd.string w A0_0 l0_0.length l0_0) (hc0_0 : l0_0.length ≤ c0_0) (hr0_1 : Kd.C k105 w A0_1 l0_1.length l0_1) (hc0_1 : l0_1.length ≤ c0_1) (hr0_2 : Kd.C k86 w A0_2 l0_2.length l0_2) (hc0_2 : l0_2.length ≤ c0_2) (hr0_3 : Kd.C k108 w A0_3 l0_3.length l0_3) (hc0_3 : l0_3.length ≤ c0_3) (h : impl_PlantValid.f k l0_0 l0_1 l0_2 l0_3 = some r) :
  Calls Try.prog 17 #[.agg #[.slice A0_0 l0_0.length c0_0, .slice A0_1 l0_1.length c0_1, .slice A0_2 l0_2.length c0_2, .slice A0_3 l0_3.length c0_3]] w fun e w' => e = .returned (.bool r) ∧ Below w.heap.size w w' := by
 have hu34 := Try.underlying34
 have hu105 := Try.underlying105
 have hu86 := Try.underlying86
 have hu108 := Try.underlying108
 have HR0_0 := Aside0.mk hr0_0
 have HC0_0 := Aside0.mk hc0_0
 clear hr0_0 hc0_0
 have HR0_1 := Aside0.mk hr0_1
 have HC0_1 := Aside0.mk hc0_1
 clear hr0_1 hc0_1
 have HR0_2 := Aside0.mk hr0_2
 have HC0_2 := Aside0.mk hc0_2
 clear hr0_2 hc0_2
 have HR0_3 := Aside0.mk hr0_3
 have HC0_3 := Aside0.mk hc0_3
 clear hr0_3 hc0_3
 have HB := Aside0.mk (Below.refl w.heap.size w)
 have H : (if (l0_0.length : Int) > 8 then (impl_PlantValid.j0 k true l0_0 l0_1 l0_2 l0_3) else ((impl_names.f k l0_0).bind fun t236 => (if t236 = true then ((impl_Plant_pairs.f k l0_0 l0_1 l0_2 l0_3).bind fun t237 => ((impl_foesOk.f k t237 12).bind fun t240 => (if t240 = true then (if (l0_2.length : Int) > 14 then (impl_PlantValid.j0 k true l0_0 l0_1 l0_2 l0_3) else (impl_PlantValid.j0 k (decide ((l0_3.length : Int) > 18)) l0_0 l0_1 l0_2 l0_3)) else (impl_PlantValid.j0 k true l0_0 l0_1 l0_2 l0_3)))) else (impl_PlantValid.j0 k true l0_0 l0_1 l0_2 l0_3)))) = some r := h
 clear h
 have HC2 := Aside0.mk H
 clear H
 go_enter Try.func17, Try.ntmps17
 go_upto_region 1 with (first | ((with_reducible refine gate_dst (N := 1) rfl ?_); (try (refine gate_guard (by rfl) ?_; dsimp only)); refine box_event ?hg (N := 1) ?hd (cs := #[.slice A0_0 l0_0.length c0_0, .slice A0_1 l0_1.length c0_1, .slice A0_2 l0_2.length c0_2, .slice A0_3 l0_3.length c0_3]) (t := 34) ?hr ?_; (case hd => rfl); (case hg => rfl); (case hr => first | (go_simp; done) | (go_simp; rfl)); intro gb235 hg w3 hbox hb; have n0_ := Aside0.mk (below_step m0_ hb); have n1_ := Aside0.mk (hbox); have n2_ := Aside0.mk ((by rw [hg]; exact (below_size m0_) : w.heap.size ≤ gb235)); have n3_ := Aside0.mk ((by rw [hg]; exact (below_size m0_) : w.heap.size ≤ gb235)); clear HB; have HB := n0_; have BK235 := n1_; have GW235 := n2_; have GE235 := n3_; clear n0_ n1_ n2_ n3_; clear hb hbox hg))
 repeat (go_quiet (first | ((with_reducible refine gate_dst (N := 1) rfl ?_); (try (refine gate_guard (by rfl) ?_; dsimp only)); refine box_event ?hg (N := 1) ?hd (cs := #[.slice A0_0 l0_0.length c0_0, .slice A0_1 l0_1.length c0_1, .slice A0_2 l0_2.length c0_2, .slice A0_3 l0_3.length c0_3]) (t := 34) ?hr ?_; (case hd => rfl); (case hg => rfl); (case hr => first | (go_simp; done) | (go_simp; rfl)); intro gb235 hg w3 hbox hb; have n0_ := Aside0.mk (below_step m0_ hb); have n1_ := Aside0.mk (hbox); have n2_ := Aside0.mk ((by rw [hg]; exact (below_size m0_) : w.heap.size ≤ gb235)); have n3_ := Aside0.mk ((by rw [hg]; exact (below_size m0_) : w.heap.size ≤ gb235)); clear HB; have HB := n0_; have BK235 := n1_; have GW235 := n2_; have GE235 := n3_; clear n0_ n1_ n2_ n3_; clear hb hbox hg)); go_upto_region 1 with (first | ((with_reducible refine gate_dst (N := 1) rfl ?_); (try (refine gate_guard (by rfl) ?_; dsimp only)); refine box_event ?hg (N := 1) ?hd (cs := #[.slice A0_0 l0_0.length c0_0, .slice A0_1 l0_1.length c0_1, .slice A0_2 l0_2.length c0_2, .slice A0_3 l0_3.length c0_3]) (t := 34) ?hr ?_; (case hd => rfl); (case hg => rfl); (case hr => first | (go_simp; done) | (go_simp; rfl)); intro gb235 hg w3 hbox hb; have n0_ := Aside0.mk (below_step m0_ hb); have n1_ := Aside0.mk (hbox); have n2_ := Aside0.mk ((by rw [hg]; exact (below_size m0_) : w.heap.size ≤ gb235)); have n3_ := Aside0.mk ((by rw [hg]; exact (below_size m0_) : w.heap.size ≤ gb235)); clear HB; have HB := n0_; have BK235 := n1_; have GW235 := n2_; have GE235 := n3_; clear n0_ n1_ n2_ n3_; clear hb hbox hg)))
 (try simp only [Act.put, List.setIfInBounds_toArray, List.set_cons_zero, List.set_cons_succ])
 go_cut [40] (fun v40 wc => ∃ (kq : Nat) (x40_1 : Bool), v40 = .bool x40_1 ∧ Aside0 (impl_PlantValid.j0 kq x40_1 l0_0 l0_1 l0_2 l0_3 = some r) ∧ Aside0 (kq ≤ k) ∧ Aside0 (wc.heap[gb235]? = some (.cells #[(.slice A0_0 l0_0.length c0_0), (.slice A0_1 l0_1.length c0_1), (.slice A0_2 l0_2.length c0_2), (.slice A0_3 l0_3.length c0_3)] 34 (0, 0))) ∧ Aside0 (Below w.heap.size w wc))
 case first =>
  have H := HC2.out
  clear HC2
  refine (Classical.em ((l0_0.length : Int) > 8)).elim (fun c4 => ?yes13) (fun c4 => ?no13)
  case' yes13 =>
   rw [if_pos c4] at H
   have c4b0 : decide (8 < (l0_0.length : Int)) = true := decide_eq_true c4
   have c4b1 : decide (8 < l0_0.length) = true := decide_eq_true (by omega)
   clear c4
   (first | rw [c4b0] | (simp only [i64_w, i32_w]; rw [c4b0]) | skip)
   have H' := Aside0.mk H
   clear H
  case' no13 =>
   rw [if_neg c4] at H
   have c4b0 : decide (8 < (l0_0.length : Int)) = false := decide_eq_false c4
   have c4b1 : decide (8 < l0_0.length) = false := decide_eq_false (by omega)
   clear c4
   (first | rw [c4b0] | (simp only [i64_w, i32_w]; rw [c4b0]) | skip)
   replace H := Option.bind_eq_some_iff.mp H
   obtain ⟨t236, A60, H⟩ := H
   replace H : (if t236 = true then ((impl_Plant_pairs.f k l0_0 l0_1 l0_2 l0_3).bind fun t237 => ((impl_foesOk.f k t237 12).bind fun t240 => (if t240 = true then (if (l0_2.length : Int) > 14 then (impl_PlantValid.j0 k true l0_0 l0_1 l0_2 l0_3) else (impl_PlantValid.j0 k (decide ((l0_3.length : Int) > 18)) l0_0 l0_1 l0_2 l0_3)) else (impl_PlantValid.j0 k true l0_0 l0_1 l0_2 l0_3)))) else (impl_PlantValid.j0 k true l0_0 l0_1 l0_2 l0_3)) = some r := H
   have A6 := Aside0.mk A60
   clear A60
   refine (Classical.em (t236 = true)).elim (fun c7 => ?yes14) (fun c7 => ?no14)
   case' yes14 =>
    subst c7
    have H1 : ((impl_Plant_pairs.f k l0_0 l0_1 l0_2 l0_3).bind fun t237 => ((impl_foesOk.f k t237 12).bind fun t240 => (if t240 = true then (if (l0_2.length : Int) > 14 then (impl_PlantValid.j0 k true l0_0 l0_1 l0_2 l0_3) else (impl_PlantValid.j0 k (decide ((l0_3.length : Int) > 18)) l0_0 l0_1 l0_2 l0_3)) else (impl_PlantValid.j0 k true l0_0 l0_1 l0_2 l0_3)))) = some r := by rw [if_pos rfl] at H; exact H
    clear H
    have H := H1
    clear H1
    replace H := Option.bind_eq_some_iff.mp H
    obtain ⟨t237, A80, H⟩ := H
    replace H : ((impl_foesOk.f k t237 12).bind fun t240 => (if t240 = true then (if (l0_2.length : Int) > 14 then (impl_PlantValid.j0 k true l0_0 l0_1 l0_2 l0_3) else (impl_PlantValid.j0 k (decide ((l0_3.length : Int) > 18)) l0_0 l0_1 l0_2 l0_3)) else (impl_PlantValid.j0 k true l0_0 l0_1 l0_2 l0_3))) = some r := H
    have A8 := Aside0.mk A80
    clear A80
    replace H := Option.bind_eq_some_iff.mp H
    obtain ⟨t240, A90, H⟩ := H
    replace H : (if t240 = true then (if (l0_2.length : Int) > 14 then (impl_PlantValid.j0 k true l0_0 l0_1 l0_2 l0_3) else (impl_PlantValid.j0 k (decide ((l0_3.length : Int) > 18)) l0_0 l0_1 l0_2 l0_3)) else (impl_PlantValid.j0 k true l0_0 l0_1 l0_2 l0_3)) = some r := H
    have A9 := Aside0.mk A90
    clear A90
    refine (Classical.em (t240 = true)).elim (fun c10 => ?yes15) (fun c10 => ?no15)
    case' yes15 =>
     subst c10
     have H1 : (if (l0_2.length : Int) > 14 then (impl_PlantValid.j0 k true l0_0 l0_1 l0_2 l0_3) else (impl_PlantValid.j0 k (decide ((l0_3.length : Int) > 18)) l0_0 l0_1 l0_2 l0_3)) = some r := by rw [if_pos rfl] at H; exact H
     clear H
     have H := H1
     clear H1
     refine (Classical.em ((l0_2.length : Int) > 14)).elim (fun c11 => ?yes16) (fun c11 => ?no16)
     case' yes16 =>
      rw [if_pos c11] at H
      have c11b0 : decide (14 < (l0_2.length : Int)) = true := decide_eq_true c11
      have c11b1 : decide (14 < l0_2.length) = true := decide_eq_true (by omega)
      clear c11
      have H' := Aside0.mk H
      clear H
     case' no16 =>
      rw [if_neg c11] at H
      have c11b0 : decide (14 < (l0_2.length : Int)) = false := decide_eq_false c11
      have c11b1 : decide (14 < l0_2.length) = false := decide_eq_false (by omega)
      clear c11
      have H' := Aside0.mk H
      clear H
    case' no15 =>
     replace c10 := Bool.eq_false_iff.mpr c10
     subst c10
     have H1 : (impl_PlantValid.j0 k true l0_0 l0_1 l0_2 l0_3) = some r := by rw [if_neg (show ¬ (false = true) by decide)] at H; exact H
     clear H
     have H := H1
     clear H1
     have H' := Aside0.mk H
     clear H
   case' no14 =>
    replace c7 := Bool.eq_false_iff.mpr c7
    subst c7
    have H1 : (impl_PlantValid.j0 k true l0_0 l0_1 l0_2 l0_3) = some r := by rw [if_neg (show ¬ (false = true) by decide)] at H; exact H
    clear H
    have H := H1
    clear H1
    have H' := Aside0.mk H
    clear H
  all_goals
   first
    | (
     obtain ⟨hcz5_0, hcz5_1, hcz5_2, hcz5_3⟩ := cz4_ BK235.out
     obtain ⟨hfz5_0, hfz5_1, hfz5_2, hfz5_3⟩ := fz4_ BK235.out
     go_wp2
     repeat (go_quiet (fail); try go_wp2)
     go_meet
     case rel => exact ⟨_, _, m8_, H', ⟨(by first | omega | exact Nat.le_refl _)⟩, ⟨m4_⟩, ⟨m1_⟩⟩)
    | (
     obtain ⟨hcz12_0, hcz12_1, hcz12_2, hcz12_3⟩ := cz4_ BK235.out
     obtain ⟨hfz12_0, hfz12_1, hfz12_2, hfz12_3⟩ := fz4_ BK235.out
     go_wp2_with (first | (go_at_call 72; (with_reducible refine (impl_names.calls k _ _ l0_0 _ _ ?side1 ?side2 (Aside0.out (by assumption))).mono ?_); (case side1 => exact m7_); (case side2 => exact HC0_0.out); rintro e w' ⟨rfl, ⟨nd, rfl⟩⟩; (try exact m2_)) | (go_at_call 74; (with_reducible refine (impl_Plant_pairs.calls k _ _ l0_0 _ _ l0_1 _ _ l0_2 _ _ l0_3 _ _ ?side1 ?side2 ?side3 ?side4 ?side5 ?side6 ?side7 ?side8 (Aside0.out (by assumption))).mono ?_); (case side1 => exact m69_); (case side2 => exact HC0_0.out); (case side3 => exact m70_); (case side4 => exact HC0_1.out); (case side5 => exact m71_); (case side6 => exact HC0_2.out); (case side7 => exact m72_); (case side8 => exact HC0_3.out); rintro e w13 ⟨v238, rfl, ho0, hb⟩; have n0_ := Aside0.mk (Kd.R_lower ho0 (below_size m1_)); have n1_ := Aside0.mk (blk_below (g := gb235) (o := .cells #[.slice A0_0 l0_0.length c0_0, .slice A0_1 l0_1.length c0_1, .slice A0_2 l0_2.length c0_2, .slice A0_3 l0_3.length c0_3] 34 (0, 0)) m4_ hb); have n2_ := Aside0.mk (below_step m1_ hb); clear BK235; clear HB; have HO239 := n0_; have BK235 := n1_; have HB := n2_; clear n0_ n1_ n2_; (try clear hb); (try clear hb2); (try clear hk); (try clear hi); (try clear ho0); obtain ⟨Ao14, co14, eo14⟩ := Kd.R_slice HO239.out; subst eo14) | (go_at_call 73; (with_reducible refine (impl_foesOk.calls k _ _ t237 12 _ _ ?side1 ?side2 (Aside0.out (by assumption))).mono ?_); (case side1 => exact m68_); (case side2 => exact (Kd.R_reads' HO239.out).2.1); rintro e w15 ⟨rfl, hb⟩; have n0_ := Aside0.mk (Kd.R_below m90_ hb); have n1_ := Aside0.mk (blk_below (g := gb235) (o := .cells #[.slice A0_0 l0_0.length c0_0, .slice A0_1 l0_1.length c0_1, .slice A0_2 l0_2.length c0_2, .slice A0_3 l0_3.length c0_3] 34 (0, 0)) m4_ hb); have n2_ := Aside0.mk (below_step m1_ hb); clear HO239; clear BK235; clear HB; have HO239 := n0_; have BK235 := n1_; have HB := n2_; clear n0_ n1_ n2_; (try clear hb); (try clear hb2); (try clear hk); (try clear hi); obtain ⟨hcz16_0, hcz16_1, hcz16_2, hcz16_3⟩ := cz4_ BK235.out; obtain ⟨hfz16_0, hfz16_1, hfz16_2, hfz16_3⟩ := fz4_ BK235.out))
     repeat (go_quiet (first | (go_at_call 72; (with_reducible refine (impl_names.calls k _ _ l0_0 _ _ ?side1 ?side2 (Aside0.out (by assumption))).mono ?_); (case side1 => exact m7_); (case side2 => exact HC0_0.out); rintro e w' ⟨rfl, ⟨nd, rfl⟩⟩; (try exact m2_)) | (go_at_call 74; (with_reducible refine (impl_Plant_pairs.calls k _ _ l0_0 _ _ l0_1 _ _ l0_2 _ _ l0_3 _ _ ?side1 ?side2 ?side3 ?side4 ?side5 ?side6 ?side7 ?side8 (Aside0.out (by assumption))).mono ?_); (case side1 => exact m69_); (case side2 => exact HC0_0.out); (case side3 => exact m70_); (case side4 => exact HC0_1.out); (case side5 => exact m71_); (case side6 => exact HC0_2.out); (case side7 => exact m72_); (case side8 => exact HC0_3.out); rintro e w13 ⟨v238, rfl, ho0, hb⟩; have n0_ := Aside0.mk (Kd.R_lower ho0 (below_size m1_)); have n1_ := Aside0.mk (blk_below (g := gb235) (o := .cells #[.slice A0_0 l0_0.length c0_0, .slice A0_1 l0_1.length c0_1, .slice A0_2 l0_2.length c0_2, .slice A0_3 l0_3.length c0_3] 34 (0, 0)) m4_ hb); have n2_ := Aside0.mk (below_step m1_ hb); clear BK235; clear HB; have HO239 := n0_; have BK235 := n1_; have HB := n2_; clear n0_ n1_ n2_; (try clear hb); (try clear hb2); (try clear hk); (try clear hi); (try clear ho0); obtain ⟨Ao14, co14, eo14⟩ := Kd.R_slice HO239.out; subst eo14) | (go_at_call 73; (with_reducible refine (impl_foesOk.calls k _ _ t237 12 _ _ ?side1 ?side2 (Aside0.out (by assumption))).mono ?_); (case side1 => exact m68_); (case side2 => exact (Kd.R_reads' HO239.out).2.1); rintro e w15 ⟨rfl, hb⟩; have n0_ := Aside0.mk (Kd.R_below m90_ hb); have n1_ := Aside0.mk (blk_below (g := gb235) (o := .cells #[.slice A0_0 l0_0.length c0_0, .slice A0_1 l0_1.length c0_1, .slice A0_2 l0_2.length c0_2, .slice A0_3 l0_3.length c0_3] 34 (0, 0)) m4_ hb); have n2_ := Aside0.mk (below_step m1_ hb); clear HO239; clear BK235; clear HB; have HO239 := n0_; have BK235 := n1_; have HB := n2_; clear n0_ n1_ n2_; (try clear hb); (try clear hb2); (try clear hk); (try clear hi); obtain ⟨hcz16_0, hcz16_1, hcz16_2, hcz16_3⟩ := cz4_ BK235.out; obtain ⟨hfz16_0, hfz16_1, hfz16_2, hfz16_3⟩ := fz4_ BK235.out)); try go_wp2_with (first | (go_at_call 72; (with_reducible refine (impl_names.calls k _ _ l0_0 _ _ ?side1 ?side2 (Aside0.out (by assumption))).mono ?_); (case side1 => exact m7_); (case side2 => exact HC0_0.out); rintro e w' ⟨rfl, ⟨nd, rfl⟩⟩; (try exact m2_)) | (go_at_call 74; (with_reducible refine (impl_Plant_pairs.calls k _ _ l0_0 _ _ l0_1 _ _ l0_2 _ _ l0_3 _ _ ?side1 ?side2 ?side3 ?side4 ?side5 ?side6 ?side7 ?side8 (Aside0.out (by assumption))).mono ?_); (case side1 => exact m69_); (case side2 => exact HC0_0.out); (case side3 => exact m70_); (case side4 => exact HC0_1.out); (case side5 => exact m71_); (case side6 => exact HC0_2.out); (case side7 => exact m72_); (case side8 => exact HC0_3.out); rintro e w13 ⟨v238, rfl, ho0, hb⟩; have n0_ := Aside0.mk (Kd.R_lower ho0 (below_size m1_)); have n1_ := Aside0.mk (blk_below (g := gb235) (o := .cells #[.slice A0_0 l0_0.length c0_0, .slice A0_1 l0_1.length c0_1, .slice A0_2 l0_2.length c0_2, .slice A0_3 l0_3.length c0_3] 34 (0, 0)) m4_ hb); have n2_ := Aside0.mk (below_step m1_ hb); clear BK235; clear HB; have HO239 := n0_; have BK235 := n1_; have HB := n2_; clear n0_ n1_ n2_; (try clear hb); (try clear hb2); (try clear hk); (try clear hi); (try clear ho0); obtain ⟨Ao14, co14, eo14⟩ := Kd.R_slice HO239.out; subst eo14) | (go_at_call 73; (with_reducible refine (impl_foesOk.calls k _ _ t237 12 _ _ ?side1 ?side2 (Aside0.out (by assumption))).mono ?_); (case side1 => exact m68_); (case side2 => exact (Kd.R_reads' HO239.out).2.1); rintro e w15 ⟨rfl, hb⟩; have n0_ := Aside0.mk (Kd.R_below m90_ hb); have n1_ := Aside0.mk (blk_below (g := gb235) (o := .cells #[.slice A0_0 l0_0.length c0_0, .slice A0_1 l0_1.length c0_1, .slice A0_2 l0_2.length c0_2, .slice A0_3 l0_3.length c0_3] 34 (0, 0)) m4_ hb); have n2_ := Aside0.mk (below_step m1_ hb); clear HO239; clear BK235; clear HB; have HO239 := n0_; have BK235 := n1_; have HB := n2_; clear n0_ n1_ n2_; (try clear hb); (try clear hb2); (try clear hk); (try clear hi); obtain ⟨hcz16_0, hcz16_1, hcz16_2, hcz16_3⟩ := cz4_ BK235.out; obtain ⟨hfz16_0, hfz16_1, hfz16_2, hfz16_3⟩ := fz4_ BK235.out)))
     go_meet
     case rel => exact ⟨_, _, m8_, H', ⟨(by first | omega | exact Nat.le_refl _)⟩, ⟨m4_⟩, ⟨m1_⟩⟩)
    | (
     obtain ⟨hcz22_0, hcz22_1, hcz22_2, hcz22_3⟩ := cz4_ BK235.out
     obtain ⟨hfz22_0, hfz22_1, hfz22_2, hfz22_3⟩ := fz4_ BK235.out
     go_wp2_with (first | (go_at_call 72; (with_reducible refine (impl_names.calls k _ _ l0_0 _ _ ?side1 ?side2 (Aside0.out (by assumption))).mono ?_); (case side1 => exact m7_); (case side2 => exact HC0_0.out); rintro e w' ⟨rfl, ⟨nd, rfl⟩⟩; (try exact m2_)) | (go_at_call 74; (with_reducible refine (impl_Plant_pairs.calls k _ _ l0_0 _ _ l0_1 _ _ l0_2 _ _ l0_3 _ _ ?side1 ?side2 ?side3 ?side4 ?side5 ?side6 ?side7 ?side8 (Aside0.out (by assumption))).mono ?_); (case side1 => exact m69_); (case side2 => exact HC0_0.out); (case side3 => exact m70_); (case side4 => exact HC0_1.out); (case side5 => exact m71_); (case side6 => exact HC0_2.out); (case side7 => exact m72_); (case side8 => exact HC0_3.out); rintro e w23 ⟨v238, rfl, ho0, hb⟩; have n0_ := Aside0.mk (Kd.R_lower ho0 (below_size m1_)); have n1_ := Aside0.mk (blk_below (g := gb235) (o := .cells #[.slice A0_0 l0_0.length c0_0, .slice A0_1 l0_1.length c0_1, .slice A0_2 l0_2.length c0_2, .slice A0_3 l0_3.length c0_3] 34 (0, 0)) m4_ hb); have n2_ := Aside0.mk (below_step m1_ hb); clear BK235; clear HB; have HO239 := n0_; have BK235 := n1_; have HB := n2_; clear n0_ n1_ n2_; (try clear hb); (try clear hb2); (try clear hk); (try clear hi); (try clear ho0); obtain ⟨Ao24, co24, eo24⟩ := Kd.R_slice HO239.out; subst eo24) | (go_at_call 73; (with_reducible refine (impl_foesOk.calls k _ _ t237 12 _ _ ?side1 ?side2 (Aside0.out (by assumption))).mono ?_); (case side1 => exact m68_); (case side2 => exact (Kd.R_reads' HO239.out).2.1); rintro e w25 ⟨rfl, hb⟩; have n0_ := Aside0.mk (Kd.R_below m90_ hb); have n1_ := Aside0.mk (blk_below (g := gb235) (o := .cells #[.slice A0_0 l0_0.length c0_0, .slice A0_1 l0_1.length c0_1, .slice A0_2 l0_2.length c0_2, .slice A0_3 l0_3.length c0_3] 34 (0, 0)) m4_ hb); have n2_ := Aside0.mk (below_step m1_ hb); clear HO239; clear BK235; clear HB; have HO239 := n0_; have BK235 := n1_; have HB := n2_; clear n0_ n1_ n2_; (try clear hb); (try clear hb2); (try clear hk); (try clear hi)))
     repeat (go_quiet (first | (go_at_call 72; (with_reducible refine (impl_names.calls k _ _ l0_0 _ _ ?side1 ?side2 (Aside0.out (by assumption))).mono ?_); (case side1 => exact m7_); (case side2 => exact HC0_0.out); rintro e w' ⟨rfl, ⟨nd, rfl⟩⟩; (try exact m2_)) | (go_at_call 74; (with_reducible refine (impl_Plant_pairs.calls k _ _ l0_0 _ _ l0_1 _ _ l0_2 _ _ l0_3 _ _ ?side1 ?side2 ?side3 ?side4 ?side5 ?side6 ?side7 ?side8 (Aside0.out (by assumption))).mono ?_); (case side1 => exact m69_); (case side2 => exact HC0_0.out); (case side3 => exact m70_); (case side4 => exact HC0_1.out); (case side5 => exact m71_); (case side6 => exact HC0_2.out); (case side7 => exact m72_); (case side8 => exact HC0_3.out); rintro e w23 ⟨v238, rfl, ho0, hb⟩; have n0_ := Aside0.mk (Kd.R_lower ho0 (below_size m1_)); have n1_ := Aside0.mk (blk_below (g := gb235) (o := .cells #[.slice A0_0 l0_0.length c0_0, .slice A0_1 l0_1.length c0_1, .slice A0_2 l0_2.length c0_2, .slice A0_3 l0_3.length c0_3] 34 (0, 0)) m4_ hb); have n2_ := Aside0.mk (below_step m1_ hb); clear BK235; clear HB; have HO239 := n0_; have BK235 := n1_; have HB := n2_; clear n0_ n1_ n2_; (try clear hb); (try clear hb2); (try clear hk); (try clear hi); (try clear ho0); obtain ⟨Ao24, co24, eo24⟩ := Kd.R_slice HO239.out; subst eo24) | (go_at_call 73; (with_reducible refine (impl_foesOk.calls k _ _ t237 12 _ _ ?side1 ?side2 (Aside0.out (by assumption))).mono ?_); (case side1 => exact m68_); (case side2 => exact (Kd.R_reads' HO239.out).2.1); rintro e w25 ⟨rfl, hb⟩; have n0_ := Aside0.mk (Kd.R_below m90_ hb); have n1_ := Aside0.mk (blk_below (g := gb235) (o := .cells #[.slice A0_0 l0_0.length c0_0, .slice A0_1 l0_1.length c0_1, .slice A0_2 l0_2.length c0_2, .slice A0_3 l0_3.length c0_3] 34 (0, 0)) m4_ hb); have n2_ := Aside0.mk (below_step m1_ hb); clear HO239; clear BK235; clear HB; have HO239 := n0_; have BK235 := n1_; have HB := n2_; clear n0_ n1_ n2_; (try clear hb); (try clear hb2); (try clear hk); (try clear hi))); try go_wp2_with (first | (go_at_call 72; (with_reducible refine (impl_names.calls k _ _ l0_0 _ _ ?side1 ?side2 (Aside0.out (by assumption))).mono ?_); (case side1 => exact m7_); (case side2 => exact HC0_0.out); rintro e w' ⟨rfl, ⟨nd, rfl⟩⟩; (try exact m2_)) | (go_at_call 74; (with_reducible refine (impl_Plant_pairs.calls k _ _ l0_0 _ _ l0_1 _ _ l0_2 _ _ l0_3 _ _ ?side1 ?side2 ?side3 ?side4 ?side5 ?side6 ?side7 ?side8 (Aside0.out (by assumption))).mono ?_); (case side1 => exact m69_); (case side2 => exact HC0_0.out); (case side3 => exact m70_); (case side4 => exact HC0_1.out); (case side5 => exact m71_); (case side6 => exact HC0_2.out); (case side7 => exact m72_); (case side8 => exact HC0_3.out); rintro e w23 ⟨v238, rfl, ho0, hb⟩; have n0_ := Aside0.mk (Kd.R_lower ho0 (below_size m1_)); have n1_ := Aside0.mk (blk_below (g := gb235) (o := .cells #[.slice A0_0 l0_0.length c0_0, .slice A0_1 l0_1.length c0_1, .slice A0_2 l0_2.length c0_2, .slice A0_3 l0_3.length c0_3] 34 (0, 0)) m4_ hb); have n2_ := Aside0.mk (below_step m1_ hb); clear BK235; clear HB; have HO239 := n0_; have BK235 := n1_; have HB := n2_; clear n0_ n1_ n2_; (try clear hb); (try clear hb2); (try clear hk); (try clear hi); (try clear ho0); obtain ⟨Ao24, co24, eo24⟩ := Kd.R_slice HO239.out; subst eo24) | (go_at_call 73; (with_reducible refine (impl_foesOk.calls k _ _ t237 12 _ _ ?side1 ?side2 (Aside0.out (by assumption))).mono ?_); (case side1 => exact m68_); (case side2 => exact (Kd.R_reads' HO239.out).2.1); rintro e w25 ⟨rfl, hb⟩; have n0_ := Aside0.mk (Kd.R_below m90_ hb); have n1_ := Aside0.mk (blk_below (g := gb235) (o := .cells #[.slice A0_0 l0_0.length c0_0, .slice A0_1 l0_1.length c0_1, .slice A0_2 l0_2.length c0_2, .slice A0_3 l0_3.length c0_3] 34 (0, 0)) m4_ hb); have n2_ := Aside0.mk (below_step m1_ hb); clear HO239; clear BK235; clear HB; have HO239 := n0_; have BK235 := n1_; have HB := n2_; clear n0_ n1_ n2_; (try clear hb); (try clear hb2); (try clear hk); (try clear hi))))
     go_meet
     case rel => exact ⟨_, _, m8_, H', ⟨(by first | omega | exact Nat.le_refl _)⟩, ⟨m4_⟩, ⟨m1_⟩⟩)
    | (
     obtain ⟨hcz26_0, hcz26_1, hcz26_2, hcz26_3⟩ := cz4_ BK235.out
     obtain ⟨hfz26_0, hfz26_1, hfz26_2, hfz26_3⟩ := fz4_ BK235.out
     go_wp2_with (first | (go_at_call 72; (with_reducible refine (impl_names.calls k _ _ l0_0 _ _ ?side1 ?side2 (Aside0.out (by assumption))).mono ?_); (case side1 => exact m7_); (case side2 => exact HC0_0.out); rintro e w' ⟨rfl, ⟨nd, rfl⟩⟩; (try exact m2_)))
     repeat (go_quiet (first | (go_at_call 72; (with_reducible refine (impl_names.calls k _ _ l0_0 _ _ ?side1 ?side2 (Aside0.out (by assumption))).mono ?_); (case side1 => exact m7_); (case side2 => exact HC0_0.out); rintro e w' ⟨rfl, ⟨nd, rfl⟩⟩; (try exact m2_))); try go_wp2_with (first | (go_at_call 72; (with_reducible refine (impl_names.calls k _ _ l0_0 _ _ ?side1 ?side2 (Aside0.out (by assumption))).mono ?_); (case side1 => exact m7_); (case side2 => exact HC0_0.out); rintro e w' ⟨rfl, ⟨nd, rfl⟩⟩; (try exact m2_))))
     go_meet
     case rel => exact ⟨_, _, m8_, H', ⟨(by first | omega | exact Nat.le_refl _)⟩, ⟨m4_⟩, ⟨m1_⟩⟩)
 case rest =>
  clear HC2
  try clear c1
  try clear p2
  try clear c4
  try clear c4b0
  try clear c4b1
  try clear c7
  try clear c10
  try clear c11
  try clear c11b0
  try clear c11b1
  try clear c17
  try clear hcz12_0
  try clear hcz12_1
  try clear hcz12_2
  try clear hcz12_3
  try clear hcz16_0
  try clear hcz16_1
  try clear hcz16_2
  try clear hcz16_3
  try clear hcz17_0
  try clear hcz17_1
  try clear hcz17_2
  try clear hcz17_3
  try clear hcz21_0
  try clear hcz21_1
  try clear hcz21_2
  try clear hcz21_3
  try clear hcz22_0
  try clear hcz22_1
  try clear hcz22_2
  try clear hcz22_3
  try clear hcz26_0
  try clear hcz26_1
  try clear hcz26_2
  try clear hcz26_3
  try clear hcz5_0
  try clear hcz5_1
  try clear hcz5_2
  try clear hcz5_3
  try clear hfz12_0
  try clear hfz12_1
  try clear hfz12_2
  try clear hfz12_3
  try clear hfz16_0
  try clear hfz16_1
  try clear hfz16_2
  try clear hfz16_3
  try clear hfz17_0
  try clear hfz17_1
  try clear hfz17_2
  try clear hfz17_3
  try clear hfz21_0
  try clear hfz21_1
  try clear hfz21_2
  try clear hfz21_3
  try clear hfz22_0
  try clear hfz22_1
  try clear hfz22_2
  try clear hfz22_3
  try clear hfz26_0
  try clear hfz26_1
  try clear hfz26_2
  try clear hfz26_3
  try clear hfz5_0
  try clear hfz5_1
  try clear hfz5_2
  try clear hfz5_3
  obtain ⟨kq, x40_1, rfl, HA, HJ1, BK235, HB⟩ := hcut
  cases kq with
  | zero => exact absurd HA.out (by simp [impl_PlantValid.j0])
  | succ kj1 =>
   have H := HA.out
   clear HA
   simp only [impl_PlantValid.j0] at H
   by_cases c27 : x40_1 = true
   ·subst c27
    have H1 : (some false) = some r := by rw [if_pos rfl] at H; exact H
    clear H
    have H := H1
    clear H1
    obtain rfl := Option.some.inj H
    go_wp2
    repeat (go_quiet (fail); try go_wp2)
    go_ret
    exact ⟨m6_, m1_⟩
   ·replace c27 := Bool.eq_false_iff.mpr c27
    subst c27
    have H1 : (impl_PlantValid.l0 kj1 l0_1 (l0_1.length : Int) 0 l0_0 l0_1 l0_2 l0_3) = some r := by rw [if_neg (show ¬ (false = true) by decide)] at H; exact H
    clear H
    have H := H1
    clear H1
    have H' := Aside0.mk H
    clear H
    obtain ⟨hcz28_0, hcz28_1, hcz28_2, hcz28_3⟩ := cz4_ BK235.out
    obtain ⟨hfz28_0, hfz28_1, hfz28_2, hfz28_3⟩ := fz4_ BK235.out
    go_wp2
    repeat (go_quiet (fail); try go_wp2)
    go_loopg [44] kj1 (fun kq v44 w' => ∃ (x44_2 : Int), v44 = .int .i64 x44_2 ∧ Aside0 (impl_PlantValid.l0 kq l0_1 (l0_1.length : Int) x44_2 l0_0 l0_1 l0_2 l0_3 = some r) ∧ Aside0 (kq ≤ kj1) ∧ Aside0 (w'.heap[gb235]? = some (.cells #[(.slice A0_0 l0_0.length c0_0), (.slice A0_1 l0_1.length c0_1), (.slice A0_2 l0_2.length c0_2), (.slice A0_3 l0_3.length c0_3)] 34 (0, 0))) ∧ Aside0 (Below w.heap.size w w'))
    case atStart => exact ⟨(0), m8_, H', ⟨Nat.le_refl _⟩, ⟨m4_⟩, ⟨m1_⟩⟩
    case round =>
     clear H'
     try clear c1
     try clear c2
     try clear p2
     try clear c4
     try clear c4b0
     try clear c4b1
     try clear c7
     try clear c10
     try clear c11
     try clear c11b0
     try clear c11b1
     try clear c17
     try clear c27
     try clear hcz12_0
     try clear hcz12_1
     try clear hcz12_2
     try clear hcz12_3
     try clear hcz16_0
     try clear hcz16_1
     try clear hcz16_2
     try clear hcz16_3
     try clear hcz17_0
     try clear hcz17_1
     try clear hcz17_2
     try clear hcz17_3
     try clear hcz21_0
     try clear hcz21_1
     try clear hcz21_2
     try clear hcz21_3
     try clear hcz22_0
     try clear hcz22_1
     try clear hcz22_2
     try clear hcz22_3
     try clear hcz26_0
     try clear hcz26_1
     try clear hcz26_2
     try clear hcz26_3
     try clear hcz28_0
     try clear hcz28_1
     try clear hcz28_2
     try clear hcz28_3
     try clear hcz5_0
     try clear hcz5_1
     try clear hcz5_2
     try clear hcz5_3
     try clear hfz12_0
     try clear hfz12_1
     try clear hfz12_2
     try clear hfz12_3
     try clear hfz16_0
     try clear hfz16_1
     try clear hfz16_2
     try clear hfz16_3
     try clear hfz17_0
     try clear hfz17_1
     try clear hfz17_2
     try clear hfz17_3
     try clear hfz21_0
     try clear hfz21_1
     try clear hfz21_2
     try clear hfz21_3
     try clear hfz22_0
     try clear hfz22_1
     try clear hfz22_2
     try clear hfz22_3
     try clear hfz26_0
     try clear hfz26_1
     try clear hfz26_2
     try clear hfz26_3
     try clear hfz28_0
     try clear hfz28_1
     try clear hfz28_2
     try clear hfz28_3
     try clear hfz5_0
     try clear hfz5_1
     try clear hfz5_2
     try clear hfz5_3
     try clear p2
     obtain ⟨x44_2, rfl, HA, HK2, BK235, HB⟩ := hrel
     cases gk with
     | zero => exact absurd HA.out (by simp [impl_PlantValid.l0])
     | succ k2 =>
      have H := HA.out
      clear HA
      simp only [impl_PlantValid.l0] at H
      by_cases c29 : x44_2 < (l0_1.length : Int)
      ·rw [if_pos c29] at H
       have c29b0 : decide (x44_2 < (l0_1.length : Int)) = true := decide_eq_true c29
       clear c29
       by_cases c30 : 0 ≤ x44_2
       ·rw [if_pos c30] at H
        have c30b0 : decide (0 ≤ x44_2) = true := decide_eq_true c30
        clear c30
        by_cases c31 : x44_2 < (l0_1.length : Int)
        ·rw [if_pos c31] at H
         have c31b0 : decide (x44_2 < (l0_1.length : Int)) = true := decide_eq_true c31
         clear c31
         replace H := Option.bind_eq_some_iff.mp H
         obtain ⟨t243, A320, H⟩ := H
         replace H : (if t243 = true then ((impl_has.f k2 l0_0 ((rd_T105 l0_1 x44_2).f1)).bind fun t244 => (if t244 = true then (impl_PlantValid.l0 k2 l0_1 (l0_1.length : Int) (wrap64 (x44_2 + 1)) l0_0 l0_1 l0_2 l0_3) else (some false))) else (some false)) = some r := H
         have A32 := Aside0.mk A320
         clear A320
         by_cases c33 : t243 = true
         ·subst c33
          have H1 : ((impl_has.f k2 l0_0 ((rd_T105 l0_1 x44_2).f1)).bind fun t244 => (if t244 = true then (impl_PlantValid.l0 k2 l0_1 (l0_1.length : Int) (wrap64 (x44_2 + 1)) l0_0 l0_1 l0_2 l0_3) else (some false))) = some r := by rw [if_pos rfl] at H; exact H
          clear H
          have H := H1
          clear H1
          replace H := Option.bind_eq_some_iff.mp H
          obtain ⟨t244, A340, H⟩ := H
          replace H : (if t244 = true then (impl_PlantValid.l0 k2 l0_1 (l0_1.length : Int) (wrap64 (x44_2 + 1)) l0_0 l0_1 l0_2 l0_3) else (some false)) = some r := H
          have A34 := Aside0.mk A340
          clear A340
          by_cases c35 : t244 = true
          ·subst c35
           have H1 : (impl_PlantValid.l0 k2 l0_1 (l0_1.length : Int) (wrap64 (x44_2 + 1)) l0_0 l0_1 l0_2 l0_3) = some r := by rw [if_pos rfl] at H; exact H
           clear H
           have H := H1
           clear H1
           have H' := Aside0.mk H
           clear H
           have p241 : 0 ≤ (x44_2 : Int) := of_decide_eq_true m5_
           have q241 : x44_2 < (l0_1.length : Int) := of_decide_eq_true m5_
           obtain ⟨ad241, e241, hx241_0, hx241_1⟩ := at_T105 HR0_1.out x44_2 p241 q241
           cases e241
           replace hx241_0 := (HB.out.cell (World.block_lt_of_cell? w _ hx241_0)).trans hx241_0
           replace hx241_1 := (HB.out.cell (World.block_lt_of_cell? w _ hx241_1)).trans hx241_1
           replace p241 := eq_true p241
           replace q241 := eq_true q241
           go_wp2_with (first | ((with_reducible refine gate_dst (N := 4) rfl ?_); (try (refine gate_guard (by rfl) ?_; dsimp only)); refine box_event ?hg (N := 4) ?hd (cs := #[.string (⟨#[]⟩ : ByteArray), .string (⟨#[]⟩ : ByteArray)]) (t := 105) ?hr ?_; (case hd => rfl); (case hg => rfl); (case hr => first | (go_simp; done) | (go_simp; rfl)); intro gb242 hg w36 hbox hb; have n0_ := Aside0.mk (blk_below (g := gb235) (o := .cells #[.slice A0_0 l0_0.length c0_0, .slice (some ad241) l0_1.length c0_1, .slice A0_2 l0_2.length c0_2, .slice A0_3 l0_3.length c0_3] 34 (0, 0)) m4_ hb); have n1_ := Aside0.mk (below_step m1_ hb); have n2_ := Aside0.mk (hbox); have n3_ := Aside0.mk ((by rw [hg]; exact (below_size m1_) : w.heap.size ≤ gb242)); have n4_ := Aside0.mk ((by rw [hg]; exact (below_size m1_) : w.heap.size ≤ gb242)); have n5_ := Aside0.mk ((by rw [hg]; exact Nat.ne_of_lt (blk_lt (g := gb235) (o := .cells #[.slice A0_0 l0_0.length c0_0, .slice (some ad241) l0_1.length c0_1, .slice A0_2 l0_2.length c0_2, .slice A0_3 l0_3.length c0_3] 34 (0, 0)) m4_) : gb235 ≠ gb242)); have n6_ := Aside0.mk ((by rw [hg]; exact Nat.ne_of_gt (blk_lt (g := gb235) (o := .cells #[.slice A0_0 l0_0.length c0_0, .slice (some ad241) l0_1.length c0_1, .slice A0_2 l0_2.length c0_2, .slice A0_3 l0_3.length c0_3] 34 (0, 0)) m4_) : gb242 ≠ gb235)); clear BK235; clear HB; have BK235 := n0_; have HB := n1_; have BK242 := n2_; have GW242 := n3_; have GE242 := n4_; have NB235_242 := n5_; have NB242_235 := n6_; clear n0_ n1_ n2_ n3_ n4_ n5_ n6_; clear hb hbox hg; have hnb37 := NB242_235.out; have hnc37 := NB235_242.out; obtain ⟨hcz38_0, hcz38_1⟩ := cz2_ BK242.out; obtain ⟨hfz38_0, hfz38_1⟩ := fz2_ BK242.out; obtain ⟨hcz39_0, hcz39_1, hcz39_2, hcz39_3⟩ := cz4_ BK235.out; obtain ⟨hfz39_0, hfz39_1, hfz39_2, hfz39_3⟩ := fz4_ BK235.out) | (go_at_call 75; (with_reducible refine (impl_has.calls k2 _ _ l0_0 ((rd_T105 l0_1 x44_2).f0) true _ ?side1 ?side2 A32.out).mono ?_); (case side1 => exact Kd.C_below HR0_0.out m15_); (case side2 => exact HC0_0.out); rintro e w' ⟨rfl, ⟨nd, rfl⟩⟩; (try exact m2_)) | (go_at_call 75; (with_reducible refine (impl_has.calls k2 _ _ l0_0 ((rd_T105 l0_1 x44_2).f1) true _ ?side1 ?side2 A34.out).mono ?_); (case side1 => exact Kd.C_below HR0_0.out m15_); (case side2 => exact HC0_0.out); rintro e w' ⟨rfl, ⟨nd, rfl⟩⟩; (try exact m2_)))
           repeat (go_quiet (first | ((with_reducible refine gate_dst (N := 4) rfl ?_); (try (refine gate_guard (by rfl) ?_; dsimp only)); refine box_event ?hg (N := 4) ?hd (cs := #[.string (⟨#[]⟩ : ByteArray), .string (⟨#[]⟩ : ByteArray)]) (t := 105) ?hr ?_; (case hd => rfl); (case hg => rfl); (case hr => first | (go_simp; done) | (go_simp; rfl)); intro gb242 hg w36 hbox hb; have n0_ := Aside0.mk (blk_below (g := gb235) (o := .cells #[.slice A0_0 l0_0.length c0_0, .slice (some ad241) l0_1.length c0_1, .slice A0_2 l0_2.length c0_2, .slice A0_3 l0_3.length c0_3] 34 (0, 0)) m4_ hb); have n1_ := Aside0.mk (below_step m1_ hb); have n2_ := Aside0.mk (hbox); have n3_ := Aside0.mk ((by rw [hg]; exact (below_size m1_) : w.heap.size ≤ gb242)); have n4_ := Aside0.mk ((by rw [hg]; exact (below_size m1_) : w.heap.size ≤ gb242)); have n5_ := Aside0.mk ((by rw [hg]; exact Nat.ne_of_lt (blk_lt (g := gb235) (o := .cells #[.slice A0_0 l0_0.length c0_0, .slice (some ad241) l0_1.length c0_1, .slice A0_2 l0_2.length c0_2, .slice A0_3 l0_3.length c0_3] 34 (0, 0)) m4_) : gb235 ≠ gb242)); have n6_ := Aside0.mk ((by rw [hg]; exact Nat.ne_of_gt (blk_lt (g := gb235) (o := .cells #[.slice A0_0 l0_0.length c0_0, .slice (some ad241) l0_1.length c0_1, .slice A0_2 l0_2.length c0_2, .slice A0_3 l0_3.length c0_3] 34 (0, 0)) m4_) : gb242 ≠ gb235)); clear BK235; clear HB; have BK235 := n0_; have HB := n1_; have BK242 := n2_; have GW242 := n3_; have GE242 := n4_; have NB235_242 := n5_; have NB242_235 := n6_; clear n0_ n1_ n2_ n3_ n4_ n5_ n6_; clear hb hbox hg; have hnb37 := NB242_235.out; have hnc37 := NB235_242.out; obtain ⟨hcz38_0, hcz38_1⟩ := cz2_ BK242.out; obtain ⟨hfz38_0, hfz38_1⟩ := fz2_ BK242.out; obtain ⟨hcz39_0, hcz39_1, hcz39_2, hcz39_3⟩ := cz4_ BK235.out; obtain ⟨hfz39_0, hfz39_1, hfz39_2, hfz39_3⟩ := fz4_ BK235.out) | (go_at_call 75; (with_reducible refine (impl_has.calls k2 _ _ l0_0 ((rd_T105 l0_1 x44_2).f0) true _ ?side1 ?side2 A32.out).mono ?_); (case side1 => exact Kd.C_below HR0_0.out m15_); (case side2 => exact HC0_0.out); rintro e w' ⟨rfl, ⟨nd, rfl⟩⟩; (try exact m2_)) | (go_at_call 75; (with_reducible refine (impl_has.calls k2 _ _ l0_0 ((rd_T105 l0_1 x44_2).f1) true _ ?side1 ?side2 A34.out).mono ?_); (case side1 => exact Kd.C_below HR0_0.out m15_); (case side2 => exact HC0_0.out); rintro e w' ⟨rfl, ⟨nd, rfl⟩⟩; (try exact m2_))); try go_wp2_with (first | ((with_reducible refine gate_dst (N := 4) rfl ?_); (try (refine gate_guard (by rfl) ?_; dsimp only)); refine box_event ?hg (N := 4) ?hd (cs := #[.string (⟨#[]⟩ : ByteArray), .string (⟨#[]⟩ : ByteArray)]) (t := 105) ?hr ?_; (case hd => rfl); (case hg => rfl); (case hr => first | (go_simp; done) | (go_simp; rfl)); intro gb242 hg w36 hbox hb; have n0_ := Aside0.mk (blk_below (g := gb235) (o := .cells #[.slice A0_0 l0_0.length c0_0, .slice (some ad241) l0_1.length c0_1, .slice A0_2 l0_2.length c0_2, .slice A0_3 l0_3.length c0_3] 34 (0, 0)) m4_ hb); have n1_ := Aside0.mk (below_step m1_ hb); have n2_ := Aside0.mk (hbox); have n3_ := Aside0.mk ((by rw [hg]; exact (below_size m1_) : w.heap.size ≤ gb242)); have n4_ := Aside0.mk ((by rw [hg]; exact (below_size m1_) : w.heap.size ≤ gb242)); have n5_ := Aside0.mk ((by rw [hg]; exact Nat.ne_of_lt (blk_lt (g := gb235) (o := .cells #[.slice A0_0 l0_0.length c0_0, .slice (some ad241) l0_1.length c0_1, .slice A0_2 l0_2.length c0_2, .slice A0_3 l0_3.length c0_3] 34 (0, 0)) m4_) : gb235 ≠ gb242)); have n6_ := Aside0.mk ((by rw [hg]; exact Nat.ne_of_gt (blk_lt (g := gb235) (o := .cells #[.slice A0_0 l0_0.length c0_0, .slice (some ad241) l0_1.length c0_1, .slice A0_2 l0_2.length c0_2, .slice A0_3 l0_3.length c0_3] 34 (0, 0)) m4_) : gb242 ≠ gb235)); clear BK235; clear HB; have BK235 := n0_; have HB := n1_; have BK242 := n2_; have GW242 := n3_; have GE242 := n4_; have NB235_242 := n5_; have NB242_235 := n6_; clear n0_ n1_ n2_ n3_ n4_ n5_ n6_; clear hb hbox hg; have hnb37 := NB242_235.out; have hnc37 := NB235_242.out; obtain ⟨hcz38_0, hcz38_1⟩ := cz2_ BK242.out; obtain ⟨hfz38_0, hfz38_1⟩ := fz2_ BK242.out; obtain ⟨hcz39_0, hcz39_1, hcz39_2, hcz39_3⟩ := cz4_ BK235.out; obtain ⟨hfz39_0, hfz39_1, hfz39_2, hfz39_3⟩ := fz4_ BK235.out) | (go_at_call 75; (with_reducible refine (impl_has.calls k2 _ _ l0_0 ((rd_T105 l0_1 x44_2).f0) true _ ?side1 ?side2 A32.out).mono ?_); (case side1 => exact Kd.C_below HR0_0.out m15_); (case side2 => exact HC0_0.out); rintro e w' ⟨rfl, ⟨nd, rfl⟩⟩; (try exact m2_)) | (go_at_call 75; (with_reducible refine (impl_has.calls k2 _ _ l0_0 ((rd_T105 l0_1 x44_2).f1) true _ ?side1 ?side2 A34.out).mono ?_); (case side1 => exact Kd.C_below HR0_0.out m15_); (case side2 => exact HC0_0.out); rintro e w' ⟨rfl, ⟨nd, rfl⟩⟩; (try exact m2_))))
           go_roundg k2
           case measure => have := HJ1.out; have := HK2.out; omega
           case rel => exact ⟨(wrap64 (x44_2 + 1)), m8_, H', ⟨(by have := HJ1.out; have := HK2.out; omega)⟩, ⟨(by (with_reducible repeat (first | refine blk_drewN ?_ _ | refine blk_drew ?_ | refine blk_alloc ?_ _)); refine blk_far ?_ NB235_242.out _; (with_reducible repeat (first | refine blk_drewN ?_ _ | refine blk_drew ?_ | refine blk_alloc ?_ _)); refine blk_far ?_ NB235_242.out _; (with_reducible repeat (first | refine blk_drewN ?_ _ | refine blk_drew ?_ | refine blk_alloc ?_ _)); exact BK235.out)⟩, ⟨m15_⟩⟩
          ·replace c35 := Bool.eq_false_iff.mpr c35
           subst c35
           have H1 : (some false) = some r := by rw [if_neg (show ¬ (false = true) by decide)] at H; exact H
           clear H
           have H := H1
           clear H1
           obtain rfl := Option.some.inj H
           have p241 : 0 ≤ (x44_2 : Int) := of_decide_eq_true m5_
           have q241 : x44_2 < (l0_1.length : Int) := of_decide_eq_true m5_
           obtain ⟨ad241, e241, hx241_0, hx241_1⟩ := at_T105 HR0_1.out x44_2 p241 q241
           cases e241
           replace hx241_0 := (HB.out.cell (World.block_lt_of_cell? w _ hx241_0)).trans hx241_0
           replace hx241_1 := (HB.out.cell (World.block_lt_of_cell? w _ hx241_1)).trans hx241_1
           replace p241 := eq_true p241
           replace q241 := eq_true q241
           go_wp2_with (first | ((with_reducible refine gate_dst (N := 4) rfl ?_); (try (refine gate_guard (by rfl) ?_; dsimp only)); refine box_event ?hg (N := 4) ?hd (cs := #[.string (⟨#[]⟩ : ByteArray), .string (⟨#[]⟩ : ByteArray)]) (t := 105) ?hr ?_; (case hd => rfl); (case hg => rfl); (case hr => first | (go_simp; done) | (go_simp; rfl)); intro gb242 hg w40 hbox hb; have n0_ := Aside0.mk (blk_below (g := gb235) (o := .cells #[.slice A0_0 l0_0.length c0_0, .slice (some ad241) l0_1.length c0_1, .slice A0_2 l0_2.length c0_2, .slice A0_3 l0_3.length c0_3] 34 (0, 0)) m4_ hb); have n1_ := Aside0.mk (below_step m1_ hb); have n2_ := Aside0.mk (hbox); have n3_ := Aside0.mk ((by rw [hg]; exact (below_size m1_) : w.heap.size ≤ gb242)); have n4_ := Aside0.mk ((by rw [hg]; exact (below_size m1_) : w.heap.size ≤ gb242)); have n5_ := Aside0.mk ((by rw [hg]; exact Nat.ne_of_lt (blk_lt (g := gb235) (o := .cells #[.slice A0_0 l0_0.length c0_0, .slice (some ad241) l0_1.length c0_1, .slice A0_2 l0_2.length c0_2, .slice A0_3 l0_3.length c0_3] 34 (0, 0)) m4_) : gb235 ≠ gb242)); have n6_ := Aside0.mk ((by rw [hg]; exact Nat.ne_of_gt (blk_lt (g := gb235) (o := .cells #[.slice A0_0 l0_0.length c0_0, .slice (some ad241) l0_1.length c0_1, .slice A0_2 l0_2.length c0_2, .slice A0_3 l0_3.length c0_3] 34 (0, 0)) m4_) : gb242 ≠ gb235)); clear BK235; clear HB; have BK235 := n0_; have HB := n1_; have BK242 := n2_; have GW242 := n3_; have GE242 := n4_; have NB235_242 := n5_; have NB242_235 := n6_; clear n0_ n1_ n2_ n3_ n4_ n5_ n6_; clear hb hbox hg; have hnb41 := NB242_235.out; have hnc41 := NB235_242.out; obtain ⟨hcz42_0, hcz42_1⟩ := cz2_ BK242.out; obtain ⟨hfz42_0, hfz42_1⟩ := fz2_ BK242.out; obtain ⟨hcz43_0, hcz43_1, hcz43_2, hcz43_3⟩ := cz4_ BK235.out; obtain ⟨hfz43_0, hfz43_1, hfz43_2, hfz43_3⟩ := fz4_ BK235.out) | (go_at_call 75; (with_reducible refine (impl_has.calls k2 _ _ l0_0 ((rd_T105 l0_1 x44_2).f0) true _ ?side1 ?side2 A32.out).mono ?_); (case side1 => exact Kd.C_below HR0_0.out m15_); (case side2 => exact HC0_0.out); rintro e w' ⟨rfl, ⟨nd, rfl⟩⟩; (try exact m2_)) | (go_at_call 75; (with_reducible refine (impl_has.calls k2 _ _ l0_0 ((rd_T105 l0_1 x44_2).f1) false _ ?side1 ?side2 A34.out).mono ?_); (case side1 => exact Kd.C_below HR0_0.out m15_); (case side2 => exact HC0_0.out); rintro e w' ⟨rfl, ⟨nd, rfl⟩⟩; (try exact m2_)))
           repeat (go_quiet (first | ((with_reducible refine gate_dst (N := 4) rfl ?_); (try (refine gate_guard (by rfl) ?_; dsimp only)); refine box_event ?hg (N := 4) ?hd (cs := #[.string (⟨#[]⟩ : ByteArray), .string (⟨#[]⟩ : ByteArray)]) (t := 105) ?hr ?_; (case hd => rfl); (case hg => rfl); (case hr => first | (go_simp; done) | (go_simp; rfl)); intro gb242 hg w40 hbox hb; have n0_ := Aside0.mk (blk_below (g := gb235) (o := .cells #[.slice A0_0 l0_0.length c0_0, .slice (some ad241) l0_1.length c0_1, .slice A0_2 l0_2.length c0_2, .slice A0_3 l0_3.length c0_3] 34 (0, 0)) m4_ hb); have n1_ := Aside0.mk (below_step m1_ hb); have n2_ := Aside0.mk (hbox); have n3_ := Aside0.mk ((by rw [hg]; exact (below_size m1_) : w.heap.size ≤ gb242)); have n4_ := Aside0.mk ((by rw [hg]; exact (below_size m1_) : w.heap.size ≤ gb242)); have n5_ := Aside0.mk ((by rw [hg]; exact Nat.ne_of_lt (blk_lt (g := gb235) (o := .cells #[.slice A0_0 l0_0.length c0_0, .slice (some ad241) l0_1.length c0_1, .slice A0_2 l0_2.length c0_2, .slice A0_3 l0_3.length c0_3] 34 (0, 0)) m4_) : gb235 ≠ gb242)); have n6_ := Aside0.mk ((by rw [hg]; exact Nat.ne_of_gt (blk_lt (g := gb235) (o := .cells #[.slice A0_0 l0_0.length c0_0, .slice (some ad241) l0_1.length c0_1, .slice A0_2 l0_2.length c0_2, .slice A0_3 l0_3.length c0_3] 34 (0, 0)) m4_) : gb242 ≠ gb235)); clear BK235; clear HB; have BK235 := n0_; have HB := n1_; have BK242 := n2_; have GW242 := n3_; have GE242 := n4_; have NB235_242 := n5_; have NB242_235 := n6_; clear n0_ n1_ n2_ n3_ n4_ n5_ n6_; clear hb hbox hg; have hnb41 := NB242_235.out; have hnc41 := NB235_242.out; obtain ⟨hcz42_0, hcz42_1⟩ := cz2_ BK242.out; obtain ⟨hfz42_0, hfz42_1⟩ := fz2_ BK242.out; obtain ⟨hcz43_0, hcz43_1, hcz43_2, hcz43_3⟩ := cz4_ BK235.out; obtain ⟨hfz43_0, hfz43_1, hfz43_2, hfz43_3⟩ := fz4_ BK235.out) | (go_at_call 75; (with_reducible refine (impl_has.calls k2 _ _ l0_0 ((rd_T105 l0_1 x44_2).f0) true _ ?side1 ?side2 A32.out).mono ?_); (case side1 => exact Kd.C_below HR0_0.out m15_); (case side2 => exact HC0_0.out); rintro e w' ⟨rfl, ⟨nd, rfl⟩⟩; (try exact m2_)) | (go_at_call 75; (with_reducible refine (impl_has.calls k2 _ _ l0_0 ((rd_T105 l0_1 x44_2).f1) false _ ?side1 ?side2 A34.out).mono ?_); (case side1 => exact Kd.C_below HR0_0.out m15_); (case side2 => exact HC0_0.out); rintro e w' ⟨rfl, ⟨nd, rfl⟩⟩; (try exact m2_))); try go_wp2_with (first | ((with_reducible refine gate_dst (N := 4) rfl ?_); (try (refine gate_guard (by rfl) ?_; dsimp only)); refine box_event ?hg (N := 4) ?hd (cs := #[.string (⟨#[]⟩ : ByteArray), .string (⟨#[]⟩ : ByteArray)]) (t := 105) ?hr ?_; (case hd => rfl); (case hg => rfl); (case hr => first | (go_simp; done) | (go_simp; rfl)); intro gb242 hg w40 hbox hb; have n0_ := Aside0.mk (blk_below (g := gb235) (o := .cells #[.slice A0_0 l0_0.length c0_0, .slice (some ad241) l0_1.length c0_1, .slice A0_2 l0_2.length c0_2, .slice A0_3 l0_3.length c0_3] 34 (0, 0)) m4_ hb); have n1_ := Aside0.mk (below_step m1_ hb); have n2_ := Aside0.mk (hbox); have n3_ := Aside0.mk ((by rw [hg]; exact (below_size m1_) : w.heap.size ≤ gb242)); have n4_ := Aside0.mk ((by rw [hg]; exact (below_size m1_) : w.heap.size ≤ gb242)); have n5_ := Aside0.mk ((by rw [hg]; exact Nat.ne_of_lt (blk_lt (g := gb235) (o := .cells #[.slice A0_0 l0_0.length c0_0, .slice (some ad241) l0_1.length c0_1, .slice A0_2 l0_2.length c0_2, .slice A0_3 l0_3.length c0_3] 34 (0, 0)) m4_) : gb235 ≠ gb242)); have n6_ := Aside0.mk ((by rw [hg]; exact Nat.ne_of_gt (blk_lt (g := gb235) (o := .cells #[.slice A0_0 l0_0.length c0_0, .slice (some ad241) l0_1.length c0_1, .slice A0_2 l0_2.length c0_2, .slice A0_3 l0_3.length c0_3] 34 (0, 0)) m4_) : gb242 ≠ gb235)); clear BK235; clear HB; have BK235 := n0_; have HB := n1_; have BK242 := n2_; have GW242 := n3_; have GE242 := n4_; have NB235_242 := n5_; have NB242_235 := n6_; clear n0_ n1_ n2_ n3_ n4_ n5_ n6_; clear hb hbox hg; have hnb41 := NB242_235.out; have hnc41 := NB235_242.out; obtain ⟨hcz42_0, hcz42_1⟩ := cz2_ BK242.out; obtain ⟨hfz42_0, hfz42_1⟩ := fz2_ BK242.out; obtain ⟨hcz43_0, hcz43_1, hcz43_2, hcz43_3⟩ := cz4_ BK235.out; obtain ⟨hfz43_0, hfz43_1, hfz43_2, hfz43_3⟩ := fz4_ BK235.out) | (go_at_call 75; (with_reducible refine (impl_has.calls k2 _ _ l0_0 ((rd_T105 l0_1 x44_2).f0) true _ ?side1 ?side2 A32.out).mono ?_); (case side1 => exact Kd.C_below HR0_0.out m15_); (case side2 => exact HC0_0.out); rintro e w' ⟨rfl, ⟨nd, rfl⟩⟩; (try exact m2_)) | (go_at_call 75; (with_reducible refine (impl_has.calls k2 _ _ l0_0 ((rd_T105 l0_1 x44_2).f1) false _ ?side1 ?side2 A34.out).mono ?_); (case side1 => exact Kd.C_below HR0_0.out m15_); (case side2 => exact HC0_0.out); rintro e w' ⟨rfl, ⟨nd, rfl⟩⟩; (try exact m2_))))
           go_ret
           exact ⟨m6_, m15_⟩
         ·replace c33 := Bool.eq_false_iff.mpr c33
          subst c33
          have H1 : (some false) = some r := by rw [if_neg (show ¬ (false = true) by decide)] at H; exact H
          clear H
          have H := H1
          clear H1
          obtain rfl := Option.some.inj H
          have p241 : 0 ≤ (x44_2 : Int) := of_decide_eq_true m5_
          have q241 : x44_2 < (l0_1.length : Int) := of_decide_eq_true m5_
          obtain ⟨ad241, e241, hx241_0, hx241_1⟩ := at_T105 HR0_1.out x44_2 p241 q241
          cases e241
          replace hx241_0 := (HB.out.cell (World.block_lt_of_cell? w _ hx241_0)).trans hx241_0
          replace hx241_1 := (HB.out.cell (World.block_lt_of_cell? w _ hx241_1)).trans hx241_1
          replace p241 := eq_true p241
          replace q241 := eq_true q241
          go_wp2_with (first | ((with_reducible refine gate_dst (N := 4) rfl ?_); (try (refine gate_guard (by rfl) ?_; dsimp only)); refine box_event ?hg (N := 4) ?hd (cs := #[.string (⟨#[]⟩ : ByteArray), .string (⟨#[]⟩ : ByteArray)]) (t := 105) ?hr ?_; (case hd => rfl); (case hg => rfl); (case hr => first | (go_simp; done) | (go_simp; rfl)); intro gb242 hg w44 hbox hb; have n0_ := Aside0.mk (blk_below (g := gb235) (o := .cells #[.slice A0_0 l0_0.length c0_0, .slice (some ad241) l0_1.length c0_1, .slice A0_2 l0_2.length c0_2, .slice A0_3 l0_3.length c0_3] 34 (0, 0)) m4_ hb); have n1_ := Aside0.mk (below_step m1_ hb); have n2_ := Aside0.mk (hbox); have n3_ := Aside0.mk ((by rw [hg]; exact (below_size m1_) : w.heap.size ≤ gb242)); have n4_ := Aside0.mk ((by rw [hg]; exact (below_size m1_) : w.heap.size ≤ gb242)); have n5_ := Aside0.mk ((by rw [hg]; exact Nat.ne_of_lt (blk_lt (g := gb235) (o := .cells #[.slice A0_0 l0_0.length c0_0, .slice (some ad241) l0_1.length c0_1, .slice A0_2 l0_2.length c0_2, .slice A0_3 l0_3.length c0_3] 34 (0, 0)) m4_) : gb235 ≠ gb242)); have n6_ := Aside0.mk ((by rw [hg]; exact Nat.ne_of_gt (blk_lt (g := gb235) (o := .cells #[.slice A0_0 l0_0.length c0_0, .slice (some ad241) l0_1.length c0_1, .slice A0_2 l0_2.length c0_2, .slice A0_3 l0_3.length c0_3] 34 (0, 0)) m4_) : gb242 ≠ gb235)); clear BK235; clear HB; have BK235 := n0_; have HB := n1_; have BK242 := n2_; have GW242 := n3_; have GE242 := n4_; have NB235_242 := n5_; have NB242_235 := n6_; clear n0_ n1_ n2_ n3_ n4_ n5_ n6_; clear hb hbox hg; have hnb45 := NB242_235.out; have hnc45 := NB235_242.out; obtain ⟨hcz46_0, hcz46_1⟩ := cz2_ BK242.out; obtain ⟨hfz46_0, hfz46_1⟩ := fz2_ BK242.out; obtain ⟨hcz47_0, hcz47_1, hcz47_2, hcz47_3⟩ := cz4_ BK235.out; obtain ⟨hfz47_0, hfz47_1, hfz47_2, hfz47_3⟩ := fz4_ BK235.out) | (go_at_call 75; (with_reducible refine (impl_has.calls k2 _ _ l0_0 ((rd_T105 l0_1 x44_2).f0) false _ ?side1 ?side2 A32.out).mono ?_); (case side1 => exact Kd.C_below HR0_0.out m15_); (case side2 => exact HC0_0.out); rintro e w' ⟨rfl, ⟨nd, rfl⟩⟩; (try exact m2_)))
          repeat (go_quiet (first | ((with_reducible refine gate_dst (N := 4) rfl ?_); (try (refine gate_guard (by rfl) ?_; dsimp only)); refine box_event ?hg (N := 4) ?hd (cs := #[.string (⟨#[]⟩ : ByteArray), .string (⟨#[]⟩ : ByteArray)]) (t := 105) ?hr ?_; (case hd => rfl); (case hg => rfl); (case hr => first | (go_simp; done) | (go_simp; rfl)); intro gb242 hg w44 hbox hb; have n0_ := Aside0.mk (blk_below (g := gb235) (o := .cells #[.slice A0_0 l0_0.length c0_0, .slice (some ad241) l0_1.length c0_1, .slice A0_2 l0_2.length c0_2, .slice A0_3 l0_3.length c0_3] 34 (0, 0)) m4_ hb); have n1_ := Aside0.mk (below_step m1_ hb); have n2_ := Aside0.mk (hbox); have n3_ := Aside0.mk ((by rw [hg]; exact (below_size m1_) : w.heap.size ≤ gb242)); have n4_ := Aside0.mk ((by rw [hg]; exact (below_size m1_) : w.heap.size ≤ gb242)); have n5_ := Aside0.mk ((by rw [hg]; exact Nat.ne_of_lt (blk_lt (g := gb235) (o := .cells #[.slice A0_0 l0_0.length c0_0, .slice (some ad241) l0_1.length c0_1, .slice A0_2 l0_2.length c0_2, .slice A0_3 l0_3.length c0_3] 34 (0, 0)) m4_) : gb235 ≠ gb242)); have n6_ := Aside0.mk ((by rw [hg]; exact Nat.ne_of_gt (blk_lt (g := gb235) (o := .cells #[.slice A0_0 l0_0.length c0_0, .slice (some ad241) l0_1.length c0_1, .slice A0_2 l0_2.length c0_2, .slice A0_3 l0_3.length c0_3] 34 (0, 0)) m4_) : gb242 ≠ gb235)); clear BK235; clear HB; have BK235 := n0_; have HB := n1_; have BK242 := n2_; have GW242 := n3_; have GE242 := n4_; have NB235_242 := n5_; have NB242_235 := n6_; clear n0_ n1_ n2_ n3_ n4_ n5_ n6_; clear hb hbox hg; have hnb45 := NB242_235.out; have hnc45 := NB235_242.out; obtain ⟨hcz46_0, hcz46_1⟩ := cz2_ BK242.out; obtain ⟨hfz46_0, hfz46_1⟩ := fz2_ BK242.out; obtain ⟨hcz47_0, hcz47_1, hcz47_2, hcz47_3⟩ := cz4_ BK235.out; obtain ⟨hfz47_0, hfz47_1, hfz47_2, hfz47_3⟩ := fz4_ BK235.out) | (go_at_call 75; (with_reducible refine (impl_has.calls k2 _ _ l0_0 ((rd_T105 l0_1 x44_2).f0) false _ ?side1 ?side2 A32.out).mono ?_); (case side1 => exact Kd.C_below HR0_0.out m15_); (case side2 => exact HC0_0.out); rintro e w' ⟨rfl, ⟨nd, rfl⟩⟩; (try exact m2_))); try go_wp2_with (first | ((with_reducible refine gate_dst (N := 4) rfl ?_); (try (refine gate_guard (by rfl) ?_; dsimp only)); refine box_event ?hg (N := 4) ?hd (cs := #[.string (⟨#[]⟩ : ByteArray), .string (⟨#[]⟩ : ByteArray)]) (t := 105) ?hr ?_; (case hd => rfl); (case hg => rfl); (case hr => first | (go_simp; done) | (go_simp; rfl)); intro gb242 hg w44 hbox hb; have n0_ := Aside0.mk (blk_below (g := gb235) (o := .cells #[.slice A0_0 l0_0.length c0_0, .slice (some ad241) l0_1.length c0_1, .slice A0_2 l0_2.length c0_2, .slice A0_3 l0_3.length c0_3] 34 (0, 0)) m4_ hb); have n1_ := Aside0.mk (below_step m1_ hb); have n2_ := Aside0.mk (hbox); have n3_ := Aside0.mk ((by rw [hg]; exact (below_size m1_) : w.heap.size ≤ gb242)); have n4_ := Aside0.mk ((by rw [hg]; exact (below_size m1_) : w.heap.size ≤ gb242)); have n5_ := Aside0.mk ((by rw [hg]; exact Nat.ne_of_lt (blk_lt (g := gb235) (o := .cells #[.slice A0_0 l0_0.length c0_0, .slice (some ad241) l0_1.length c0_1, .slice A0_2 l0_2.length c0_2, .slice A0_3 l0_3.length c0_3] 34 (0, 0)) m4_) : gb235 ≠ gb242)); have n6_ := Aside0.mk ((by rw [hg]; exact Nat.ne_of_gt (blk_lt (g := gb235) (o := .cells #[.slice A0_0 l0_0.length c0_0, .slice (some ad241) l0_1.length c0_1, .slice A0_2 l0_2.length c0_2, .slice A0_3 l0_3.length c0_3] 34 (0, 0)) m4_) : gb242 ≠ gb235)); clear BK235; clear HB; have BK235 := n0_; have HB := n1_; have BK242 := n2_; have GW242 := n3_; have GE242 := n4_; have NB235_242 := n5_; have NB242_235 := n6_; clear n0_ n1_ n2_ n3_ n4_ n5_ n6_; clear hb hbox hg; have hnb45 := NB242_235.out; have hnc45 := NB235_242.out; obtain ⟨hcz46_0, hcz46_1⟩ := cz2_ BK242.out; obtain ⟨hfz46_0, hfz46_1⟩ := fz2_ BK242.out; obtain ⟨hcz47_0, hcz47_1, hcz47_2, hcz47_3⟩ := cz4_ BK235.out; obtain ⟨hfz47_0, hfz47_1, hfz47_2, hfz47_3⟩ := fz4_ BK235.out) | (go_at_call 75; (with_reducible refine (impl_has.calls k2 _ _ l0_0 ((rd_T105 l0_1 x44_2).f0) false _ ?side1 ?side2 A32.out).mono ?_); (case side1 => exact Kd.C_below HR0_0.out m15_); (case side2 => exact HC0_0.out); rintro e w' ⟨rfl, ⟨nd, rfl⟩⟩; (try exact m2_))))
          go_ret
          exact ⟨m6_, m15_⟩
        ·rw [if_neg c31] at H
         exact absurd H (by simp)
       ·rw [if_neg c30] at H
        exact absurd H (by simp)
      ·rw [if_neg c29] at H
       have c29b0 : decide (x44_2 < (l0_1.length : Int)) = false := decide_eq_false c29
       clear c29
       have H' := Aside0.mk H
       clear H
       obtain ⟨hcz48_0, hcz48_1, hcz48_2, hcz48_3⟩ := cz4_ BK235.out
       obtain ⟨hfz48_0, hfz48_1, hfz48_2, hfz48_3⟩ := fz4_ BK235.out
       go_wp2
       repeat (go_quiet (fail); try go_wp2)
       go_loopg [66] k2 (fun kq v66 w' => ∃ (x66_3 : Int), v66 = .int .i64 x66_3 ∧ Aside0 (impl_PlantValid.l1 kq l0_2 (l0_2.length : Int) x66_3 l0_0 l0_1 l0_2 l0_3 = some r) ∧ Aside0 (kq ≤ k2) ∧ Aside0 (w'.heap[gb235]? = some (.cells #[(.slice A0_0 l0_0.length c0_0), (.slice A0_1 l0_1.length c0_1), (.slice A0_2 l0_2.length c0_2), (.slice A0_3 l0_3.length c0_3)] 34 (0, 0))) ∧ Aside0 (Below w.heap.size w w'))
       case atStart => exact ⟨(0), m8_, H', ⟨Nat.le_refl _⟩, ⟨m4_⟩, ⟨m1_⟩⟩
       case round =>
        clear H'
        try clear c1
        try clear c2
        try clear p2
        try clear q2
        try clear hx2
        try clear c3
        try clear c4
        try clear c4b0
        try clear c4b1
        try clear p6
        try clear c7
        try clear c10
        try clear c11
        try clear c11b0
        try clear c11b1
        try clear c17
        try clear p24
        try clear q24
        try clear hx24
        try clear c27
        try clear c29
        try clear c29b0
        try clear c30
        try clear c30b0
        try clear c31
        try clear c31b0
        try clear c33
        try clear c35
        try clear c37
        try clear c41
        try clear c45
        try clear hcz12_0
        try clear hcz12_1
        try clear hcz12_2
        try clear hcz12_3
        try clear hcz16_0
        try clear hcz16_1
        try clear hcz16_2
        try clear hcz16_3
        try clear hcz17_0
        try clear hcz17_1
        try clear hcz17_2
        try clear hcz17_3
        try clear hcz21_0
        try clear hcz21_1
        try clear hcz21_2
        try clear hcz21_3
        try clear hcz22_0
        try clear hcz22_1
        try clear hcz22_2
        try clear hcz22_3
        try clear hcz26_0
        try clear hcz26_1
        try clear hcz26_2
        try clear hcz26_3
        try clear hcz28_0
        try clear hcz28_1
        try clear hcz28_2
        try clear hcz28_3
        try clear hcz38_0
        try clear hcz38_1
        try clear hcz39_0
        try clear hcz39_1
        try clear hcz39_2
        try clear hcz39_3
        try clear hcz42_0
        try clear hcz42_1
        try clear hcz43_0
        try clear hcz43_1
        try clear hcz43_2
        try clear hcz43_3
        try clear hcz46_0
        try clear hcz46_1
        try clear hcz47_0
        try clear hcz47_1
        try clear hcz47_2
        try clear hcz47_3
        try clear hcz48_0
        try clear hcz48_1
        try clear hcz48_2
        try clear hcz48_3
        try clear hcz5_0
        try clear hcz5_1
        try clear hcz5_2
        try clear hcz5_3
        try clear hfz12_0
        try clear hfz12_1
        try clear hfz12_2
        try clear hfz12_3
        try clear hfz16_0
        try clear hfz16_1
        try clear hfz16_2
        try clear hfz16_3
        try clear hfz17_0
        try clear hfz17_1
        try clear hfz17_2
        try clear hfz17_3
        try clear hfz21_0
        try clear hfz21_1
        try clear hfz21_2
        try clear hfz21_3
        try clear hfz22_0
        try clear hfz22_1
        try clear hfz22_2
        try clear hfz22_3
        try clear hfz26_0
        try clear hfz26_1
        try clear hfz26_2
        try clear hfz26_3
        try clear hfz28_0
        try clear hfz28_1
        try clear hfz28_2
        try clear hfz28_3
        try clear hfz38_0
        try clear hfz38_1
        try clear hfz39_0
        try clear hfz39_1
        try clear hfz39_2
        try clear hfz39_3
        try clear hfz42_0
        try clear hfz42_1
        try clear hfz43_0
        try clear hfz43_1
        try clear hfz43_2
        try clear hfz43_3
        try clear hfz46_0
        try clear hfz46_1
        try clear hfz47_0
        try clear hfz47_1
        try clear hfz47_2
        try clear hfz47_3
        try clear hfz48_0
        try clear hfz48_1
        try clear hfz48_2
        try clear hfz48_3
        try clear hfz5_0
        try clear hfz5_1
        try clear hfz5_2
        try clear hfz5_3
        try clear hx241_0
        try clear hx241_1
        try clear p2
        try clear p241
        try clear q241
        obtain ⟨x66_3, rfl, HA, HK3, BK235, HB⟩ := hrel
        cases gk with
        | zero => exact absurd HA.out (by simp [impl_PlantValid.l1])
        | succ k3 =>
         have H := HA.out
         clear HA
         simp only [impl_PlantValid.l1] at H
         by_cases c49 : x66_3 < (l0_2.length : Int)
         ·rw [if_pos c49] at H
          have c49b0 : decide (x66_3 < (l0_2.length : Int)) = true := decide_eq_true c49
          clear c49
          by_cases c50 : 0 ≤ x66_3
          ·rw [if_pos c50] at H
           have c50b0 : decide (0 ≤ x66_3) = true := decide_eq_true c50
           clear c50
           by_cases c51 : x66_3 < (l0_2.length : Int)
           ·rw [if_pos c51] at H
            have c51b0 : decide (x66_3 < (l0_2.length : Int)) = true := decide_eq_true c51
            clear c51
            have HC52 := Aside0.mk H
            clear H
            have p245 : 0 ≤ (x66_3 : Int) := of_decide_eq_true m5_
            have q245 : x66_3 < (l0_2.length : Int) := of_decide_eq_true m5_
            obtain ⟨ad245, e245, hx245_0, hx245_1, hx245_2⟩ := at_T86 HR0_2.out x66_3 p245 q245
            cases e245
            replace hx245_0 := (HB.out.cell (World.block_lt_of_cell? w _ hx245_0)).trans hx245_0
            replace hx245_1 := (HB.out.cell (World.block_lt_of_cell? w _ hx245_1)).trans hx245_1
            replace hx245_2 := (HB.out.cell (World.block_lt_of_cell? w _ hx245_2)).trans hx245_2
            replace p245 := eq_true p245
            replace q245 := eq_true q245
            go_upto_region 12 with (first | ((with_reducible refine gate_dst (N := 6) rfl ?_); (try (refine gate_guard (by rfl) ?_; dsimp only)); refine box_event ?hg (N := 6) ?hd (cs := #[.string (⟨#[]⟩ : ByteArray), .int .i64 0, .string (⟨#[]⟩ : ByteArray)]) (t := 86) ?hr ?_; (case hd => rfl); (case hg => rfl); (case hr => first | (go_simp; done) | (go_simp; rfl)); intro gb246 hg w53 hbox hb; have n0_ := Aside0.mk (blk_below (g := gb235) (o := .cells #[.slice A0_0 l0_0.length c0_0, .slice A0_1 l0_1.length c0_1, .slice (some ad245) l0_2.length c0_2, .slice A0_3 l0_3.length c0_3] 34 (0, 0)) m4_ hb); have n1_ := Aside0.mk (below_step m1_ hb); have n2_ := Aside0.mk (hbox); have n3_ := Aside0.mk ((by rw [hg]; exact (below_size m1_) : w.heap.size ≤ gb246)); have n4_ := Aside0.mk ((by rw [hg]; exact (below_size m1_) : w.heap.size ≤ gb246)); have n5_ := Aside0.mk ((by rw [hg]; exact Nat.ne_of_lt (blk_lt (g := gb235) (o := .cells #[.slice A0_0 l0_0.length c0_0, .slice A0_1 l0_1.length c0_1, .slice (some ad245) l0_2.length c0_2, .slice A0_3 l0_3.length c0_3] 34 (0, 0)) m4_) : gb235 ≠ gb246)); have n6_ := Aside0.mk ((by rw [hg]; exact Nat.ne_of_gt (blk_lt (g := gb235) (o := .cells #[.slice A0_0 l0_0.length c0_0, .slice A0_1 l0_1.length c0_1, .slice (some ad245) l0_2.length c0_2, .slice A0_3 l0_3.length c0_3] 34 (0, 0)) m4_) : gb246 ≠ gb235)); clear BK235; clear HB; have BK235 := n0_; have HB := n1_; have BK246 := n2_; have GW246 := n3_; have GE246 := n4_; have NB235_246 := n5_; have NB246_235 := n6_; clear n0_ n1_ n2_ n3_ n4_ n5_ n6_; clear hb hbox hg; have hnb54 := NB246_235.out; have hnc54 := NB235_246.out; obtain ⟨hcz55_0, hcz55_1, hcz55_2⟩ := cz3_ BK246.out; obtain ⟨hfz55_0, hfz55_1, hfz55_2⟩ := fz3_ BK246.out))
            repeat (go_quiet (first | ((with_reducible refine gate_dst (N := 6) rfl ?_); (try (refine gate_guard (by rfl) ?_; dsimp only)); refine box_event ?hg (N := 6) ?hd (cs := #[.string (⟨#[]⟩ : ByteArray), .int .i64 0, .string (⟨#[]⟩ : ByteArray)]) (t := 86) ?hr ?_; (case hd => rfl); (case hg => rfl); (case hr => first | (go_simp; done) | (go_simp; rfl)); intro gb246 hg w53 hbox hb; have n0_ := Aside0.mk (blk_below (g := gb235) (o := .cells #[.slice A0_0 l0_0.length c0_0, .slice A0_1 l0_1.length c0_1, .slice (some ad245) l0_2.length c0_2, .slice A0_3 l0_3.length c0_3] 34 (0, 0)) m4_ hb); have n1_ := Aside0.mk (below_step m1_ hb); have n2_ := Aside0.mk (hbox); have n3_ := Aside0.mk ((by rw [hg]; exact (below_size m1_) : w.heap.size ≤ gb246)); have n4_ := Aside0.mk ((by rw [hg]; exact (below_size m1_) : w.heap.size ≤ gb246)); have n5_ := Aside0.mk ((by rw [hg]; exact Nat.ne_of_lt (blk_lt (g := gb235) (o := .cells #[.slice A0_0 l0_0.length c0_0, .slice A0_1 l0_1.length c0_1, .slice (some ad245) l0_2.length c0_2, .slice A0_3 l0_3.length c0_3] 34 (0, 0)) m4_) : gb235 ≠ gb246)); have n6_ := Aside0.mk ((by rw [hg]; exact Nat.ne_of_gt (blk_lt (g := gb235) (o := .cells #[.slice A0_0 l0_0.length c0_0, .slice A0_1 l0_1.length c0_1, .slice (some ad245) l0_2.length c0_2, .slice A0_3 l0_3.length c0_3] 34 (0, 0)) m4_) : gb246 ≠ gb235)); clear BK235; clear HB; have BK235 := n0_; have HB := n1_; have BK246 := n2_; have GW246 := n3_; have GE246 := n4_; have NB235_246 := n5_; have NB246_235 := n6_; clear n0_ n1_ n2_ n3_ n4_ n5_ n6_; clear hb hbox hg; have hnb54 := NB246_235.out; have hnc54 := NB235_246.out; obtain ⟨hcz55_0, hcz55_1, hcz55_2⟩ := cz3_ BK246.out; obtain ⟨hfz55_0, hfz55_1, hfz55_2⟩ := fz3_ BK246.out)); go_upto_region 12 with (first | ((with_reducible refine gate_dst (N := 6) rfl ?_); (try (refine gate_guard (by rfl) ?_; dsimp only)); refine box_event ?hg (N := 6) ?hd (cs := #[.string (⟨#[]⟩ : ByteArray), .int .i64 0, .string (⟨#[]⟩ : ByteArray)]) (t := 86) ?hr ?_; (case hd => rfl); (case hg => rfl); (case hr => first | (go_simp; done) | (go_simp; rfl)); intro gb246 hg w53 hbox hb; have n0_ := Aside0.mk (blk_below (g := gb235) (o := .cells #[.slice A0_0 l0_0.length c0_0, .slice A0_1 l0_1.length c0_1, .slice (some ad245) l0_2.length c0_2, .slice A0_3 l0_3.length c0_3] 34 (0, 0)) m4_ hb); have n1_ := Aside0.mk (below_step m1_ hb); have n2_ := Aside0.mk (hbox); have n3_ := Aside0.mk ((by rw [hg]; exact (below_size m1_) : w.heap.size ≤ gb246)); have n4_ := Aside0.mk ((by rw [hg]; exact (below_size m1_) : w.heap.size ≤ gb246)); have n5_ := Aside0.mk ((by rw [hg]; exact Nat.ne_of_lt (blk_lt (g := gb235) (o := .cells #[.slice A0_0 l0_0.length c0_0, .slice A0_1 l0_1.length c0_1, .slice (some ad245) l0_2.length c0_2, .slice A0_3 l0_3.length c0_3] 34 (0, 0)) m4_) : gb235 ≠ gb246)); have n6_ := Aside0.mk ((by rw [hg]; exact Nat.ne_of_gt (blk_lt (g := gb235) (o := .cells #[.slice A0_0 l0_0.length c0_0, .slice A0_1 l0_1.length c0_1, .slice (some ad245) l0_2.length c0_2, .slice A0_3 l0_3.length c0_3] 34 (0, 0)) m4_) : gb246 ≠ gb235)); clear BK235; clear HB; have BK235 := n0_; have HB := n1_; have BK246 := n2_; have GW246 := n3_; have GE246 := n4_; have NB235_246 := n5_; have NB246_235 := n6_; clear n0_ n1_ n2_ n3_ n4_ n5_ n6_; clear hb hbox hg; have hnb54 := NB246_235.out; have hnc54 := NB235_246.out; obtain ⟨hcz55_0, hcz55_1, hcz55_2⟩ := cz3_ BK246.out; obtain ⟨hfz55_0, hfz55_1, hfz55_2⟩ := fz3_ BK246.out)))
            (try simp only [Act.put, List.setIfInBounds_toArray, List.set_cons_zero, List.set_cons_succ])
            go_cut [106] (fun v106 wc => ∃ (kq : Nat) (x106_51 : Bool), v106 = .bool x106_51 ∧ Aside0 (impl_PlantValid.j3 kq l0_2 (l0_2.length : Int) x66_3 x106_51 l0_0 l0_1 l0_2 l0_3 = some r) ∧ Aside0 (kq ≤ k3) ∧ Aside0 (wc.heap[gb235]? = some (.cells #[(.slice A0_0 l0_0.length c0_0), (.slice A0_1 l0_1.length c0_1), (.slice (some ad245) l0_2.length c0_2), (.slice A0_3 l0_3.length c0_3)] 34 (0, 0))) ∧ Aside0 (wc.heap[gb246]? = some (.cells #[.string ((rd_T86 l0_2 x66_3).f0), .int .i64 ((rd_T86 l0_2 x66_3).f1), .string ((rd_T86 l0_2 x66_3).f2)] 86 (0, 0))) ∧ Aside0 (Below w.heap.size w wc))
            case first =>
             have H := HC52.out
             clear HC52
             replace H := Option.bind_eq_some_iff.mp H
             obtain ⟨t247, A560, H⟩ := H
             replace H : (if t247 = true then (if ((rd_T86 l0_2 x66_3).f1) < 0 then (impl_PlantValid.j3 k3 l0_2 (l0_2.length : Int) x66_3 true l0_0 l0_1 l0_2 l0_3) else (if ((rd_T86 l0_2 x66_3).f1) > 1000 then (impl_PlantValid.j3 k3 l0_2 (l0_2.length : Int) x66_3 true l0_0 l0_1 l0_2 l0_3) else ((impl_isName.f k3 ((rd_T86 l0_2 x66_3).f2)).bind fun t248 => (if t248 = true then (if x66_3 > 0 then (if 0 ≤ (wrap64 (x66_3 - 1)) then (if (wrap64 (x66_3 - 1)) < (l0_2.length : Int) then (impl_PlantValid.j3 k3 l0_2 (l0_2.length : Int) x66_3 (!(Op.bytesLess (((rd_T86 l0_2 (wrap64 (x66_3 - 1))).f0).toList) (((rd_T86 l0_2 x66_3).f0).toList))) l0_0 l0_1 l0_2 l0_3) else (none)) else (none)) else (impl_PlantValid.j3 k3 l0_2 (l0_2.length : Int) x66_3 false l0_0 l0_1 l0_2 l0_3)) else (impl_PlantValid.j3 k3 l0_2 (l0_2.length : Int) x66_3 true l0_0 l0_1 l0_2 l0_3))))) else (impl_PlantValid.j3 k3 l0_2 (l0_2.length : Int) x66_3 true l0_0 l0_1 l0_2 l0_3)) = some r := H
             have A56 := Aside0.mk A560
             clear A560
             refine (Classical.em (t247 = true)).elim (fun c57 => ?yes17) (fun c57 => ?no17)
             case' yes17 =>
              subst c57
              have H1 : (if ((rd_T86 l0_2 x66_3).f1) < 0 then (impl_PlantValid.j3 k3 l0_2 (l0_2.length : Int) x66_3 true l0_0 l0_1 l0_2 l0_3) else (if ((rd_T86 l0_2 x66_3).f1) > 1000 then (impl_PlantValid.j3 k3 l0_2 (l0_2.length : Int) x66_3 true l0_0 l0_1 l0_2 l0_3) else ((impl_isName.f k3 ((rd_T86 l0_2 x66_3).f2)).bind fun t248 => (if t248 = true then (if x66_3 > 0 then (if 0 ≤ (wrap64 (x66_3 - 1)) then (if (wrap64 (x66_3 - 1)) < (l0_2.length : Int) then (impl_PlantValid.j3 k3 l0_2 (l0_2.length : Int) x66_3 (!(Op.bytesLess (((rd_T86 l0_2 (wrap64 (x66_3 - 1))).f0).toList) (((rd_T86 l0_2 x66_3).f0).toList))) l0_0 l0_1 l0_2 l0_3) else (none)) else (none)) else (impl_PlantValid.j3 k3 l0_2 (l0_2.length : Int) x66_3 false l0_0 l0_1 l0_2 l0_3)) else (impl_PlantValid.j3 k3 l0_2 (l0_2.length : Int) x66_3 true l0_0 l0_1 l0_2 l0_3))))) = some r := by rw [if_pos rfl] at H; exact H
              clear H
              have H := H1
              clear H1
              refine (Classical.em (((rd_T86 l0_2 x66_3).f1) < 0)).elim (fun c58 => ?yes18) (fun c58 => ?no18)
              case' yes18 =>
               rw [if_pos c58] at H
               have c58b0 : decide (((rd_T86 l0_2 x66_3).f1) < 0) = true := decide_eq_true c58
               clear c58
               (first | rw [c58b0] | (simp only [i64_w, i32_w]; rw [c58b0]) | skip)
               have H' := Aside0.mk H
               clear H
              case' no18 =>
               rw [if_neg c58] at H
               have c58b0 : decide (((rd_T86 l0_2 x66_3).f1) < 0) = false := decide_eq_false c58
               clear c58
               (first | rw [c58b0] | (simp only [i64_w, i32_w]; rw [c58b0]) | skip)
               refine (Classical.em (((rd_T86 l0_2 x66_3).f1) > 1000)).elim (fun c61 => ?yes19) (fun c61 => ?no19)
               case' yes19 =>
                rw [if_pos c61] at H
                have c61b0 : decide (1000 < ((rd_T86 l0_2 x66_3).f1)) = true := decide_eq_true c61
                clear c61
                have H' := Aside0.mk H
                clear H
               case' no19 =>
                rw [if_neg c61] at H
                have c61b0 : decide (1000 < ((rd_T86 l0_2 x66_3).f1)) = false := decide_eq_false c61
                clear c61
                replace H := Option.bind_eq_some_iff.mp H
                obtain ⟨t248, A640, H⟩ := H
                replace H : (if t248 = true then (if x66_3 > 0 then (if 0 ≤ (wrap64 (x66_3 - 1)) then (if (wrap64 (x66_3 - 1)) < (l0_2.length : Int) then (impl_PlantValid.j3 k3 l0_2 (l0_2.length : Int) x66_3 (!(Op.bytesLess (((rd_T86 l0_2 (wrap64 (x66_3 - 1))).f0).toList) (((rd_T86 l0_2 x66_3).f0).toList))) l0_0 l0_1 l0_2 l0_3) else (none)) else (none)) else (impl_PlantValid.j3 k3 l0_2 (l0_2.length : Int) x66_3 false l0_0 l0_1 l0_2 l0_3)) else (impl_PlantValid.j3 k3 l0_2 (l0_2.length : Int) x66_3 true l0_0 l0_1 l0_2 l0_3)) = some r := H
                have A64 := Aside0.mk A640
                clear A640
                refine (Classical.em (t248 = true)).elim (fun c65 => ?yes20) (fun c65 => ?no20)
                case' yes20 =>
                 subst c65
                 have H1 : (if x66_3 > 0 then (if 0 ≤ (wrap64 (x66_3 - 1)) then (if (wrap64 (x66_3 - 1)) < (l0_2.length : Int) then (impl_PlantValid.j3 k3 l0_2 (l0_2.length : Int) x66_3 (!(Op.bytesLess (((rd_T86 l0_2 (wrap64 (x66_3 - 1))).f0).toList) (((rd_T86 l0_2 x66_3).f0).toList))) l0_0 l0_1 l0_2 l0_3) else (none)) else (none)) else (impl_PlantValid.j3 k3 l0_2 (l0_2.length : Int) x66_3 false l0_0 l0_1 l0_2 l0_3)) = some r := by rw [if_pos rfl] at H; exact H
                 clear H
                 have H := H1
                 clear H1
                 refine (Classical.em (x66_3 > 0)).elim (fun c66 => ?yes21) (fun c66 => ?no21)
                 case' yes21 =>
                  rw [if_pos c66] at H
                  have c66b0 : decide (0 < x66_3) = true := decide_eq_true c66
                  clear c66
                  obtain ⟨ji67, hji67⟩ : ∃ j_ : Int, (wrap64 (x66_3 - 1)) = j_ := ⟨_, rfl⟩
                  replace H : (if 0 ≤ (ji67) then (if (ji67) < (l0_2.length : Int) then (impl_PlantValid.j3 k3 l0_2 (l0_2.length : Int) x66_3 (!(Op.bytesLess (((rd_T86 l0_2 (ji67)).f0).toList) (((rd_T86 l0_2 x66_3).f0).toList))) l0_0 l0_1 l0_2 l0_3) else (none)) else (none)) = some r := by first | (rw [hji67] at H; exact H) | (simp only [hji67] at H ⊢; exact H)
                  (try rw [hji67] at A56)
                  (try rw [hji67] at A64)
                  have hji67w : (IntKind.i64.wrap (x66_3 - 1)) = ji67 := (i64_w _).trans hji67
                  refine (Classical.em (0 ≤ (ji67))).elim (fun c68 => ?yes22) (fun c68 => ?no22)
                  case' yes22 =>
                   rw [if_pos c68] at H
                   have c68b0 : decide (0 ≤ (ji67)) = true := decide_eq_true c68
                   clear c68
                   refine (Classical.em ((ji67) < (l0_2.length : Int))).elim (fun c69 => ?yes23) (fun c69 => ?no23)
                   case' yes23 =>
                    rw [if_pos c69] at H
                    have c69b0 : decide ((ji67) < (l0_2.length : Int)) = true := decide_eq_true c69
                    clear c69
                    have H' := Aside0.mk H
                    clear H
                   case' no23 =>
                    rw [if_neg c69] at H
                    exact absurd H (by simp)
                  case' no22 =>
                   rw [if_neg c68] at H
                   exact absurd H (by simp)
                 case' no21 =>
                  rw [if_neg c66] at H
                  have c66b0 : decide (0 < x66_3) = false := decide_eq_false c66
                  clear c66
                  have H' := Aside0.mk H
                  clear H
                case' no20 =>
                 replace c65 := Bool.eq_false_iff.mpr c65
                 subst c65
                 have H1 : (impl_PlantValid.j3 k3 l0_2 (l0_2.length : Int) x66_3 true l0_0 l0_1 l0_2 l0_3) = some r := by rw [if_neg (show ¬ (false = true) by decide)] at H; exact H
                 clear H
                 have H := H1
                 clear H1
                 have H' := Aside0.mk H
                 clear H
             case' no17 =>
              replace c57 := Bool.eq_false_iff.mpr c57
              subst c57
              have H1 : (impl_PlantValid.j3 k3 l0_2 (l0_2.length : Int) x66_3 true l0_0 l0_1 l0_2 l0_3) = some r := by rw [if_neg (show ¬ (false = true) by decide)] at H; exact H
              clear H
              have H := H1
              clear H1
              have H' := Aside0.mk H
              clear H
             all_goals
              first
               | (
                have hnb59 := NB246_235.out
                have hnc59 := NB235_246.out
                obtain ⟨hcz60_0, hcz60_1, hcz60_2⟩ := cz3_ BK246.out
                obtain ⟨hfz60_0, hfz60_1, hfz60_2⟩ := fz3_ BK246.out
                go_wp2_with (first | (go_at_call 76; (with_reducible refine (impl_isName.calls k3 ((rd_T86 l0_2 x66_3).f0) _ _ (Aside0.out (by assumption))).mono ?_); rintro e w' ⟨rfl, ⟨nd, rfl⟩⟩; (try exact m2_)))
                repeat (go_quiet (first | (go_at_call 76; (with_reducible refine (impl_isName.calls k3 ((rd_T86 l0_2 x66_3).f0) _ _ (Aside0.out (by assumption))).mono ?_); rintro e w' ⟨rfl, ⟨nd, rfl⟩⟩; (try exact m2_))); try go_wp2_with (first | (go_at_call 76; (with_reducible refine (impl_isName.calls k3 ((rd_T86 l0_2 x66_3).f0) _ _ (Aside0.out (by assumption))).mono ?_); rintro e w' ⟨rfl, ⟨nd, rfl⟩⟩; (try exact m2_))))
                go_meet
                case rel => exact ⟨_, _, m8_, H', ⟨m119_⟩, ⟨m57_⟩, ⟨m37_⟩, ⟨m74_⟩⟩)
               | (
                have hnb70 := NB246_235.out
                have hnc70 := NB235_246.out
                obtain ⟨hcz71_0, hcz71_1, hcz71_2⟩ := cz3_ BK246.out
                obtain ⟨hfz71_0, hfz71_1, hfz71_2⟩ := fz3_ BK246.out
                go_wp2_with (first | (go_at_call 76; (with_reducible refine (impl_isName.calls k3 ((rd_T86 l0_2 x66_3).f0) _ _ (Aside0.out (by assumption))).mono ?_); rintro e w' ⟨rfl, ⟨nd, rfl⟩⟩; (try exact m2_)) | (go_at_call 76; (with_reducible refine (impl_isName.calls k3 ((rd_T86 l0_2 x66_3).f2) _ _ (Aside0.out (by assumption))).mono ?_); rintro e w' ⟨rfl, ⟨nd, rfl⟩⟩; (try exact m2_); obtain ⟨hcz72_0, hcz72_1, hcz72_2, hcz72_3⟩ := cz4_ BK235.out; obtain ⟨hfz72_0, hfz72_1, hfz72_2, hfz72_3⟩ := fz4_ BK235.out; have p249 : 0 ≤ ((ji67) : Int) := of_decide_eq_true m5_; have q249 : (ji67) < (l0_2.length : Int) := of_decide_eq_true m5_; obtain ⟨ad249, e249, hx249_0, hx249_1, hx249_2⟩ := at_T86 HR0_2.out (ji67) p249 q249; obtain rfl : ad245 = ad249 := (by injection e249); have hn249_0 : ad245.block ≠ gb246 := Nat.ne_of_lt (Nat.lt_of_lt_of_le m75_ GW246.out); have hn249_1 : ad245.block ≠ gb246 := Nat.ne_of_lt (Nat.lt_of_lt_of_le m75_ GW246.out); have hn249_2 : ad245.block ≠ gb246 := Nat.ne_of_lt (Nat.lt_of_lt_of_le m75_ GW246.out); replace hx249_0 := (HB.out.cell (World.block_lt_of_cell? w _ hx249_0)).trans hx249_0; replace hx249_1 := (HB.out.cell (World.block_lt_of_cell? w _ hx249_1)).trans hx249_1; replace hx249_2 := (HB.out.cell (World.block_lt_of_cell? w _ hx249_2)).trans hx249_2; replace hx249_0 := (cell_far (p := ⟨gb246, 0, none⟩) m64_ (.string ((rd_T86 l0_2 x66_3).f0))).trans hx249_0; replace hx249_1 := (cell_far (p := ⟨gb246, 0, none⟩) m64_ (.string ((rd_T86 l0_2 x66_3).f0))).trans hx249_1; replace hx249_2 := (cell_far (p := ⟨gb246, 0, none⟩) m64_ (.string ((rd_T86 l0_2 x66_3).f0))).trans hx249_2; replace hx249_0 := (cell_far (p := ⟨gb246, 1, none⟩) m65_ (.int .i64 ((rd_T86 l0_2 x66_3).f1))).trans hx249_0; replace hx249_1 := (cell_far (p := ⟨gb246, 1, none⟩) m65_ (.int .i64 ((rd_T86 l0_2 x66_3).f1))).trans hx249_1; replace hx249_2 := (cell_far (p := ⟨gb246, 1, none⟩) m65_ (.int .i64 ((rd_T86 l0_2 x66_3).f1))).trans hx249_2; replace hx249_0 := (cell_far (p := ⟨gb246, 2, none⟩) m66_ (.string ((rd_T86 l0_2 x66_3).f2))).trans hx249_0; replace hx249_1 := (cell_far (p := ⟨gb246, 2, none⟩) m66_ (.string ((rd_T86 l0_2 x66_3).f2))).trans hx249_1; replace hx249_2 := (cell_far (p := ⟨gb246, 2, none⟩) m66_ (.string ((rd_T86 l0_2 x66_3).f2))).trans hx249_2; (try have hy249_0 := fun (n_ : Nat) => (show (((((w53.drewN n_).setCell ⟨gb246, 0, none⟩ (.string ((rd_T86 l0_2 x66_3).f0))).setCell ⟨gb246, 1, none⟩ (.int .i64 ((rd_T86 l0_2 x66_3).f1))).setCell ⟨gb246, 2, none⟩ (.string ((rd_T86 l0_2 x66_3).f2)))).cell? _ = some _ from hx249_0)); (try have hy249_1 := fun (n_ : Nat) => (show (((((w53.drewN n_).setCell ⟨gb246, 0, none⟩ (.string ((rd_T86 l0_2 x66_3).f0))).setCell ⟨gb246, 1, none⟩ (.int .i64 ((rd_T86 l0_2 x66_3).f1))).setCell ⟨gb246, 2, none⟩ (.string ((rd_T86 l0_2 x66_3).f2)))).cell? _ = some _ from hx249_1)); (try have hy249_2 := fun (n_ : Nat) => (show (((((w53.drewN n_).setCell ⟨gb246, 0, none⟩ (.string ((rd_T86 l0_2 x66_3).f0))).setCell ⟨gb246, 1, none⟩ (.int .i64 ((rd_T86 l0_2 x66_3).f1))).setCell ⟨gb246, 2, none⟩ (.string ((rd_T86 l0_2 x66_3).f2)))).cell? _ = some _ from hx249_2)); clear hn249_0; clear hn249_1; clear hn249_2; replace p249 := eq_true p249; replace q249 := eq_true q249))
                repeat (go_quiet (first | (go_at_call 76; (with_reducible refine (impl_isName.calls k3 ((rd_T86 l0_2 x66_3).f0) _ _ (Aside0.out (by assumption))).mono ?_); rintro e w' ⟨rfl, ⟨nd, rfl⟩⟩; (try exact m2_)) | (go_at_call 76; (with_reducible refine (impl_isName.calls k3 ((rd_T86 l0_2 x66_3).f2) _ _ (Aside0.out (by assumption))).mono ?_); rintro e w' ⟨rfl, ⟨nd, rfl⟩⟩; (try exact m2_); obtain ⟨hcz72_0, hcz72_1, hcz72_2, hcz72_3⟩ := cz4_ BK235.out; obtain ⟨hfz72_0, hfz72_1, hfz72_2, hfz72_3⟩ := fz4_ BK235.out; have p249 : 0 ≤ ((ji67) : Int) := of_decide_eq_true m5_; have q249 : (ji67) < (l0_2.length : Int) := of_decide_eq_true m5_; obtain ⟨ad249, e249, hx249_0, hx249_1, hx249_2⟩ := at_T86 HR0_2.out (ji67) p249 q249; obtain rfl : ad245 = ad249 := (by injection e249); have hn249_0 : ad245.block ≠ gb246 := Nat.ne_of_lt (Nat.lt_of_lt_of_le m75_ GW246.out); have hn249_1 : ad245.block ≠ gb246 := Nat.ne_of_lt (Nat.lt_of_lt_of_le m75_ GW246.out); have hn249_2 : ad245.block ≠ gb246 := Nat.ne_of_lt (Nat.lt_of_lt_of_le m75_ GW246.out); replace hx249_0 := (HB.out.cell (World.block_lt_of_cell? w _ hx249_0)).trans hx249_0; replace hx249_1 := (HB.out.cell (World.block_lt_of_cell? w _ hx249_1)).trans hx249_1; replace hx249_2 := (HB.out.cell (World.block_lt_of_cell? w _ hx249_2)).trans hx249_2; replace hx249_0 := (cell_far (p := ⟨gb246, 0, none⟩) m64_ (.string ((rd_T86 l0_2 x66_3).f0))).trans hx249_0; replace hx249_1 := (cell_far (p := ⟨gb246, 0, none⟩) m64_ (.string ((rd_T86 l0_2 x66_3).f0))).trans hx249_1; replace hx249_2 := (cell_far (p := ⟨gb246, 0, none⟩) m64_ (.string ((rd_T86 l0_2 x66_3).f0))).trans hx249_2; replace hx249_0 := (cell_far (p := ⟨gb246, 1, none⟩) m65_ (.int .i64 ((rd_T86 l0_2 x66_3).f1))).trans hx249_0; replace hx249_1 := (cell_far (p := ⟨gb246, 1, none⟩) m65_ (.int .i64 ((rd_T86 l0_2 x66_3).f1))).trans hx249_1; replace hx249_2 := (cell_far (p := ⟨gb246, 1, none⟩) m65_ (.int .i64 ((rd_T86 l0_2 x66_3).f1))).trans hx249_2; replace hx249_0 := (cell_far (p := ⟨gb246, 2, none⟩) m66_ (.string ((rd_T86 l0_2 x66_3).f2))).trans hx249_0; replace hx249_1 := (cell_far (p := ⟨gb246, 2, none⟩) m66_ (.string ((rd_T86 l0_2 x66_3).f2))).trans hx249_1; replace hx249_2 := (cell_far (p := ⟨gb246, 2, none⟩) m66_ (.string ((rd_T86 l0_2 x66_3).f2))).trans hx249_2; (try have hy249_0 := fun (n_ : Nat) => (show (((((w53.drewN n_).setCell ⟨gb246, 0, none⟩ (.string ((rd_T86 l0_2 x66_3).f0))).setCell ⟨gb246, 1, none⟩ (.int .i64 ((rd_T86 l0_2 x66_3).f1))).setCell ⟨gb246, 2, none⟩ (.string ((rd_T86 l0_2 x66_3).f2)))).cell? _ = some _ from hx249_0)); (try have hy249_1 := fun (n_ : Nat) => (show (((((w53.drewN n_).setCell ⟨gb246, 0, none⟩ (.string ((rd_T86 l0_2 x66_3).f0))).setCell ⟨gb246, 1, none⟩ (.int .i64 ((rd_T86 l0_2 x66_3).f1))).setCell ⟨gb246, 2, none⟩ (.string ((rd_T86 l0_2 x66_3).f2)))).cell? _ = some _ from hx249_1)); (try have hy249_2 := fun (n_ : Nat) => (show (((((w53.drewN n_).setCell ⟨gb246, 0, none⟩ (.string ((rd_T86 l0_2 x66_3).f0))).setCell ⟨gb246, 1, none⟩ (.int .i64 ((rd_T86 l0_2 x66_3).f1))).setCell ⟨gb246, 2, none⟩ (.string ((rd_T86 l0_2 x66_3).f2)))).cell? _ = some _ from hx249_2)); clear hn249_0; clear hn249_1; clear hn249_2; replace p249 := eq_true p249; replace q249 := eq_true q249)); try go_wp2_with (first | (go_at_call 76; (with_reducible refine (impl_isName.calls k3 ((rd_T86 l0_2 x66_3).f0) _ _ (Aside0.out (by assumption))).mono ?_); rintro e w' ⟨rfl, ⟨nd, rfl⟩⟩; (try exact m2_)) | (go_at_call 76; (with_reducible refine (impl_isName.calls k3 ((rd_T86 l0_2 x66_3).f2) _ _ (Aside0.out (by assumption))).mono ?_); rintro e w' ⟨rfl, ⟨nd, rfl⟩⟩; (try exact m2_); obtain ⟨hcz72_0, hcz72_1, hcz72_2, hcz72_3⟩ := cz4_ BK235.out; obtain ⟨hfz72_0, hfz72_1, hfz72_2, hfz72_3⟩ := fz4_ BK235.out; have p249 : 0 ≤ ((ji67) : Int) := of_decide_eq_true m5_; have q249 : (ji67) < (l0_2.length : Int) := of_decide_eq_true m5_; obtain ⟨ad249, e249, hx249_0, hx249_1, hx249_2⟩ := at_T86 HR0_2.out (ji67) p249 q249; obtain rfl : ad245 = ad249 := (by injection e249); have hn249_0 : ad245.block ≠ gb246 := Nat.ne_of_lt (Nat.lt_of_lt_of_le m75_ GW246.out); have hn249_1 : ad245.block ≠ gb246 := Nat.ne_of_lt (Nat.lt_of_lt_of_le m75_ GW246.out); have hn249_2 : ad245.block ≠ gb246 := Nat.ne_of_lt (Nat.lt_of_lt_of_le m75_ GW246.out); replace hx249_0 := (HB.out.cell (World.block_lt_of_cell? w _ hx249_0)).trans hx249_0; replace hx249_1 := (HB.out.cell (World.block_lt_of_cell? w _ hx249_1)).trans hx249_1; replace hx249_2 := (HB.out.cell (World.block_lt_of_cell? w _ hx249_2)).trans hx249_2; replace hx249_0 := (cell_far (p := ⟨gb246, 0, none⟩) m64_ (.string ((rd_T86 l0_2 x66_3).f0))).trans hx249_0; replace hx249_1 := (cell_far (p := ⟨gb246, 0, none⟩) m64_ (.string ((rd_T86 l0_2 x66_3).f0))).trans hx249_1; replace hx249_2 := (cell_far (p := ⟨gb246, 0, none⟩) m64_ (.string ((rd_T86 l0_2 x66_3).f0))).trans hx249_2; replace hx249_0 := (cell_far (p := ⟨gb246, 1, none⟩) m65_ (.int .i64 ((rd_T86 l0_2 x66_3).f1))).trans hx249_0; replace hx249_1 := (cell_far (p := ⟨gb246, 1, none⟩) m65_ (.int .i64 ((rd_T86 l0_2 x66_3).f1))).trans hx249_1; replace hx249_2 := (cell_far (p := ⟨gb246, 1, none⟩) m65_ (.int .i64 ((rd_T86 l0_2 x66_3).f1))).trans hx249_2; replace hx249_0 := (cell_far (p := ⟨gb246, 2, none⟩) m66_ (.string ((rd_T86 l0_2 x66_3).f2))).trans hx249_0; replace hx249_1 := (cell_far (p := ⟨gb246, 2, none⟩) m66_ (.string ((rd_T86 l0_2 x66_3).f2))).trans hx249_1; replace hx249_2 := (cell_far (p := ⟨gb246, 2, none⟩) m66_ (.string ((rd_T86 l0_2 x66_3).f2))).trans hx249_2; (try have hy249_0 := fun (n_ : Nat) => (show (((((w53.drewN n_).setCell ⟨gb246, 0, none⟩ (.string ((rd_T86 l0_2 x66_3).f0))).setCell ⟨gb246, 1, none⟩ (.int .i64 ((rd_T86 l0_2 x66_3).f1))).setCell ⟨gb246, 2, none⟩ (.string ((rd_T86 l0_2 x66_3).f2)))).cell? _ = some _ from hx249_0)); (try have hy249_1 := fun (n_ : Nat) => (show (((((w53.drewN n_).setCell ⟨gb246, 0, none⟩ (.string ((rd_T86 l0_2 x66_3).f0))).setCell ⟨gb246, 1, none⟩ (.int .i64 ((rd_T86 l0_2 x66_3).f1))).setCell ⟨gb246, 2, none⟩ (.string ((rd_T86 l0_2 x66_3).f2)))).cell? _ = some _ from hx249_1)); (try have hy249_2 := fun (n_ : Nat) => (show (((((w53.drewN n_).setCell ⟨gb246, 0, none⟩ (.string ((rd_T86 l0_2 x66_3).f0))).setCell ⟨gb246, 1, none⟩ (.int .i64 ((rd_T86 l0_2 x66_3).f1))).setCell ⟨gb246, 2, none⟩ (.string ((rd_T86 l0_2 x66_3).f2)))).cell? _ = some _ from hx249_2)); clear hn249_0; clear hn249_1; clear hn249_2; replace p249 := eq_true p249; replace q249 := eq_true q249)))
                go_meet
                case rel => exact ⟨_, _, (by first | rfl | (simp; done) | (simp only [← hji67] <;> (first | rfl | simp)) | (simp [*]; done)), H', ⟨m119_⟩, ⟨m57_⟩, ⟨m37_⟩, ⟨m74_⟩⟩)
               | (
                have hnb73 := NB246_235.out
                have hnc73 := NB235_246.out
                obtain ⟨hcz74_0, hcz74_1, hcz74_2⟩ := cz3_ BK246.out
                obtain ⟨hfz74_0, hfz74_1, hfz74_2⟩ := fz3_ BK246.out
                go_wp2_with (first | (go_at_call 76; (with_reducible refine (impl_isName.calls k3 ((rd_T86 l0_2 x66_3).f0) _ _ (Aside0.out (by assumption))).mono ?_); rintro e w' ⟨rfl, ⟨nd, rfl⟩⟩; (try exact m2_)) | (go_at_call 76; (with_reducible refine (impl_isName.calls k3 ((rd_T86 l0_2 x66_3).f2) _ _ (Aside0.out (by assumption))).mono ?_); rintro e w' ⟨rfl, ⟨nd, rfl⟩⟩; (try exact m2_)))
                repeat (go_quiet (first | (go_at_call 76; (with_reducible refine (impl_isName.calls k3 ((rd_T86 l0_2 x66_3).f0) _ _ (Aside0.out (by assumption))).mono ?_); rintro e w' ⟨rfl, ⟨nd, rfl⟩⟩; (try exact m2_)) | (go_at_call 76; (with_reducible refine (impl_isName.calls k3 ((rd_T86 l0_2 x66_3).f2) _ _ (Aside0.out (by assumption))).mono ?_); rintro e w' ⟨rfl, ⟨nd, rfl⟩⟩; (try exact m2_))); try go_wp2_with (first | (go_at_call 76; (with_reducible refine (impl_isName.calls k3 ((rd_T86 l0_2 x66_3).f0) _ _ (Aside0.out (by assumption))).mono ?_); rintro e w' ⟨rfl, ⟨nd, rfl⟩⟩; (try exact m2_)) | (go_at_call 76; (with_reducible refine (impl_isName.calls k3 ((rd_T86 l0_2 x66_3).f2) _ _ (Aside0.out (by assumption))).mono ?_); rintro e w' ⟨rfl, ⟨nd, rfl⟩⟩; (try exact m2_))))
                go_meet
                case rel => exact ⟨_, _, m8_, H', ⟨m119_⟩, ⟨m57_⟩, ⟨m37_⟩, ⟨m74_⟩⟩)
            case rest =>
             clear HC52
             try clear c1
             try clear c2
             try clear p2
             try clear q2
             try clear hx2
             try clear c3
             try clear c4
             try clear c4b0
             try clear c4b1
             try clear c5
             try clear c6
             try clear p6
             try clear c7
             try clear c10
             try clear c11
             try clear c11b0
             try clear c11b1
             try clear c17
             try clear p24
             try clear q24
             try clear hx24
             try clear c27
             try clear c29
             try clear c29b0
             try clear c30
             try clear c30b0
             try clear c31
             try clear c31b0
             try clear c33
             try clear c35
             try clear c37
             try clear c41
             try clear c45
             try clear c49
             try clear c49b0
             try clear c50
             try clear c50b0
             try clear c51
             try clear c51b0
             try clear c54
             try clear c57
             try clear c58
             try clear c58b0
             try clear c59
             try clear c61
             try clear c61b0
             try clear c62
             try clear p64
             try clear c65
             try clear c66
             try clear c66b0
             try clear c68
             try clear c68b0
             try clear c69
             try clear c69b0
             try clear c70
             try clear c73
             try clear c75
             try clear c77
             try clear hcz12_0
             try clear hcz12_1
             try clear hcz12_2
             try clear hcz12_3
             try clear hcz16_0
             try clear hcz16_1
             try clear hcz16_2
             try clear hcz16_3
             try clear hcz17_0
             try clear hcz17_1
             try clear hcz17_2
             try clear hcz17_3
             try clear hcz21_0
             try clear hcz21_1
             try clear hcz21_2
             try clear hcz21_3
             try clear hcz22_0
             try clear hcz22_1
             try clear hcz22_2
             try clear hcz22_3
             try clear hcz26_0
             try clear hcz26_1
             try clear hcz26_2
             try clear hcz26_3
             try clear hcz28_0
             try clear hcz28_1
             try clear hcz28_2
             try clear hcz28_3
             try clear hcz38_0
             try clear hcz38_1
             try clear hcz39_0
             try clear hcz39_1
             try clear hcz39_2
             try clear hcz39_3
             try clear hcz42_0
             try clear hcz42_1
             try clear hcz43_0
             try clear hcz43_1
             try clear hcz43_2
             try clear hcz43_3
             try clear hcz46_0
             try clear hcz46_1
             try clear hcz47_0
             try clear hcz47_1
             try clear hcz47_2
             try clear hcz47_3
             try clear hcz48_0
             try clear hcz48_1
             try clear hcz48_2
             try clear hcz48_3
             try clear hcz55_0
             try clear hcz55_1
             try clear hcz55_2
             try clear hcz5_0
             try clear hcz5_1
             try clear hcz5_2
             try clear hcz5_3
             try clear hcz60_0
             try clear hcz60_1
             try clear hcz60_2
             try clear hcz63_0
             try clear hcz63_1
             try clear hcz63_2
             try clear hcz71_0
             try clear hcz71_1
             try clear hcz71_2
             try clear hcz72_0
             try clear hcz72_1
             try clear hcz72_2
             try clear hcz72_3
             try clear hcz74_0
             try clear hcz74_1
             try clear hcz74_2
             try clear hcz76_0
             try clear hcz76_1
             try clear hcz76_2
             try clear hcz78_0
             try clear hcz78_1
             try clear hcz78_2
             try clear hfz12_0
             try clear hfz12_1
             try clear hfz12_2
             try clear hfz12_3
             try clear hfz16_0
             try clear hfz16_1
             try clear hfz16_2
             try clear hfz16_3
             try clear hfz17_0
             try clear hfz17_1
             try clear hfz17_2
             try clear hfz17_3
             try clear hfz21_0
             try clear hfz21_1
             try clear hfz21_2
             try clear hfz21_3
             try clear hfz22_0
             try clear hfz22_1
             try clear hfz22_2
             try clear hfz22_3
             try clear hfz26_0
             try clear hfz26_1
             try clear hfz26_2
             try clear hfz26_3
             try clear hfz28_0
             try clear hfz28_1
             try clear hfz28_2
             try clear hfz28_3
             try clear hfz38_0
             try clear hfz38_1
             try clear hfz39_0
             try clear hfz39_1
             try clear hfz39_2
             try clear hfz39_3
             try clear hfz42_0
             try clear hfz42_1
             try clear hfz43_0
             try clear hfz43_1
             try clear hfz43_2
             try clear hfz43_3
             try clear hfz46_0
             try clear hfz46_1
             try clear hfz47_0
             try clear hfz47_1
             try clear hfz47_2
             try clear hfz47_3
             try clear hfz48_0
             try clear hfz48_1
             try clear hfz48_2
             try clear hfz48_3
             try clear hfz55_0
             try clear hfz55_1
             try clear hfz55_2
             try clear hfz5_0
             try clear hfz5_1
             try clear hfz5_2
             try clear hfz5_3
             try clear hfz60_0
             try clear hfz60_1
             try clear hfz60_2
             try clear hfz63_0
             try clear hfz63_1
             try clear hfz63_2
             try clear hfz71_0
             try clear hfz71_1
             try clear hfz71_2
             try clear hfz72_0
             try clear hfz72_1
             try clear hfz72_2
             try clear hfz72_3
             try clear hfz74_0
             try clear hfz74_1
             try clear hfz74_2
             try clear hfz76_0
             try clear hfz76_1
             try clear hfz76_2
             try clear hfz78_0
             try clear hfz78_1
             try clear hfz78_2
             try clear hx241_0
             try clear hx241_1
             try clear hx245_0
             try clear hx245_1
             try clear hx245_2
             try clear hx249_0
             try clear hx249_1
             try clear hx249_2
             try clear p2
             try clear p24
             try clear p241
             try clear p245
             try clear p249
             try clear p6
             try clear q2
             try clear q24
             try clear q241
             try clear q245
             try clear q249
             obtain ⟨kq, x106_51, rfl, HA, HJ51, BK235, BK246, HB⟩ := hcut
             cases kq with
             | zero => exact absurd HA.out (by simp [impl_PlantValid.j3])
             | succ kj51 =>
              have H := HA.out
              clear HA
              simp only [impl_PlantValid.j3] at H
              by_cases c79 : x106_51 = true
              ·subst c79
               have H1 : (some false) = some r := by rw [if_pos rfl] at H; exact H
               clear H
               have H := H1
               clear H1
               obtain rfl := Option.some.inj H
               go_wp2
               repeat (go_quiet (fail); try go_wp2)
               go_ret
               exact ⟨m6_, m74_⟩
              ·replace c79 := Bool.eq_false_iff.mpr c79
               subst c79
               have H1 : (impl_PlantValid.l1 kj51 l0_2 (l0_2.length : Int) (wrap64 (x66_3 + 1)) l0_0 l0_1 l0_2 l0_3) = some r := by rw [if_neg (show ¬ (false = true) by decide)] at H; exact H
               clear H
               have H := H1
               clear H1
               have H' := Aside0.mk H
               clear H
               go_wp2
               repeat (go_quiet (fail); try go_wp2)
               go_roundg kj51
               case measure => have := HJ1.out; have := HK2.out; have := HK3.out; have := HJ51.out; omega
               case rel => exact ⟨(wrap64 (x66_3 + 1)), m8_, H', ⟨(by have := HJ1.out; have := HK2.out; have := HK3.out; have := HJ51.out; omega)⟩, ⟨m4_⟩, ⟨m74_⟩⟩
           ·rw [if_neg c51] at H
            exact absurd H (by simp)
          ·rw [if_neg c50] at H
           exact absurd H (by simp)
         ·rw [if_neg c49] at H
          have c49b0 : decide (x66_3 < (l0_2.length : Int)) = false := decide_eq_false c49
          clear c49
          have H' := Aside0.mk H
          clear H
          obtain ⟨hcz80_0, hcz80_1, hcz80_2, hcz80_3⟩ := cz4_ BK235.out
          obtain ⟨hfz80_0, hfz80_1, hfz80_2, hfz80_3⟩ := fz4_ BK235.out
          go_wp2
          repeat (go_quiet (fail); try go_wp2)
          go_loopg [111] k3 (fun kq v111 w' => ∃ (x111_4 : Int), v111 = .int .i64 x111_4 ∧ Aside0 (impl_PlantValid.l2 kq l0_3 (l0_3.length : Int) x111_4 l0_0 l0_1 l0_2 l0_3 = some r) ∧ Aside0 (kq ≤ k3) ∧ Aside0 (w'.heap[gb235]? = some (.cells #[(.slice A0_0 l0_0.length c0_0), (.slice A0_1 l0_1.length c0_1), (.slice A0_2 l0_2.length c0_2), (.slice A0_3 l0_3.length c0_3)] 34 (0, 0))) ∧ Aside0 (Below w.heap.size w w'))
          case atStart => exact ⟨(0), m8_, H', ⟨Nat.le_refl _⟩, ⟨m4_⟩, ⟨m1_⟩⟩
          case round =>
           clear H'
           try clear c1
           try clear c2
           try clear p2
           try clear q2
           try clear hx2
           try clear c3
           try clear c4
           try clear c4b0
           try clear c4b1
           try clear c5
           try clear c6
           try clear p6
           try clear c7
           try clear c10
           try clear c11
           try clear c11b0
           try clear c11b1
           try clear c17
           try clear p24
           try clear q24
           try clear hx24
           try clear c27
           try clear c29
           try clear c29b0
           try clear c30
           try clear c30b0
           try clear c31
           try clear c31b0
           try clear c33
           try clear c35
           try clear c37
           try clear c41
           try clear c45
           try clear c49
           try clear c49b0
           try clear c50
           try clear c50b0
           try clear c51
           try clear c51b0
           try clear c54
           try clear c57
           try clear c58
           try clear c58b0
           try clear c59
           try clear c61
           try clear c61b0
           try clear c62
           try clear p64
           try clear c65
           try clear c66
           try clear c66b0
           try clear c68
           try clear c68b0
           try clear c69
           try clear c69b0
           try clear c70
           try clear c73
           try clear c75
           try clear c77
           try clear c79
           try clear hcz12_0
           try clear hcz12_1
           try clear hcz12_2
           try clear hcz12_3
           try clear hcz16_0
           try clear hcz16_1
           try clear hcz16_2
           try clear hcz16_3
           try clear hcz17_0
           try clear hcz17_1
           try clear hcz17_2
           try clear hcz17_3
           try clear hcz21_0
           try clear hcz21_1
           try clear hcz21_2
           try clear hcz21_3
           try clear hcz22_0
           try clear hcz22_1
           try clear hcz22_2
           try clear hcz22_3
           try clear hcz26_0
           try clear hcz26_1
           try clear hcz26_2
           try clear hcz26_3
           try clear hcz28_0
           try clear hcz28_1
           try clear hcz28_2
           try clear hcz28_3
           try clear hcz38_0
           try clear hcz38_1
           try clear hcz39_0
           try clear hcz39_1
           try clear hcz39_2
           try clear hcz39_3
           try clear hcz42_0
           try clear hcz42_1
           try clear hcz43_0
           try clear hcz43_1
           try clear hcz43_2
           try clear hcz43_3
           try clear hcz46_0
           try clear hcz46_1
           try clear hcz47_0
           try clear hcz47_1
           try clear hcz47_2
           try clear hcz47_3
           try clear hcz48_0
           try clear hcz48_1
           try clear hcz48_2
           try clear hcz48_3
           try clear hcz55_0
           try clear hcz55_1
           try clear hcz55_2
           try clear hcz5_0
           try clear hcz5_1
           try clear hcz5_2
           try clear hcz5_3
           try clear hcz60_0
           try clear hcz60_1
           try clear hcz60_2
           try clear hcz63_0
           try clear hcz63_1
           try clear hcz63_2
           try clear hcz71_0
           try clear hcz71_1
           try clear hcz71_2
           try clear hcz72_0
           try clear hcz72_1
           try clear hcz72_2
           try clear hcz72_3
           try clear hcz74_0
           try clear hcz74_1
           try clear hcz74_2
           try clear hcz76_0
           try clear hcz76_1
           try clear hcz76_2
           try clear hcz78_0
           try clear hcz78_1
           try clear hcz78_2
           try clear hcz80_0
           try clear hcz80_1
           try clear hcz80_2
           try clear hcz80_3
           try clear hfz12_0
           try clear hfz12_1
           try clear hfz12_2
           try clear hfz12_3
           try clear hfz16_0
           try clear hfz16_1
           try clear hfz16_2
           try clear hfz16_3
           try clear hfz17_0
           try clear hfz17_1
           try clear hfz17_2
           try clear hfz17_3
           try clear hfz21_0
           try clear hfz21_1
           try clear hfz21_2
           try clear hfz21_3
           try clear hfz22_0
           try clear hfz22_1
           try clear hfz22_2
           try clear hfz22_3
           try clear hfz26_0
           try clear hfz26_1
           try clear hfz26_2
           try clear hfz26_3
           try clear hfz28_0
           try clear hfz28_1
           try clear hfz28_2
           try clear hfz28_3
           try clear hfz38_0
           try clear hfz38_1
           try clear hfz39_0
           try clear hfz39_1
           try clear hfz39_2
           try clear hfz39_3
           try clear hfz42_0
           try clear hfz42_1
           try clear hfz43_0
           try clear hfz43_1
           try clear hfz43_2
           try clear hfz43_3
           try clear hfz46_0
           try clear hfz46_1
           try clear hfz47_0
           try clear hfz47_1
           try clear hfz47_2
           try clear hfz47_3
           try clear hfz48_0
           try clear hfz48_1
           try clear hfz48_2
           try clear hfz48_3
           try clear hfz55_0
           try clear hfz55_1
           try clear hfz55_2
           try clear hfz5_0
           try clear hfz5_1
           try clear hfz5_2
           try clear hfz5_3
           try clear hfz60_0
           try clear hfz60_1
           try clear hfz60_2
           try clear hfz63_0
           try clear hfz63_1
           try clear hfz63_2
           try clear hfz71_0
           try clear hfz71_1
           try clear hfz71_2
           try clear hfz72_0
           try clear hfz72_1
           try clear hfz72_2
           try clear hfz72_3
           try clear hfz74_0
           try clear hfz74_1
           try clear hfz74_2
           try clear hfz76_0
           try clear hfz76_1
           try clear hfz76_2
           try clear hfz78_0
           try clear hfz78_1
           try clear hfz78_2
           try clear hfz80_0
           try clear hfz80_1
           try clear hfz80_2
           try clear hfz80_3
           try clear hx241_0
           try clear hx241_1
           try clear hx245_0
           try clear hx245_1
           try clear hx245_2
           try clear hx249_0
           try clear hx249_1
           try clear hx249_2
           try clear p2
           try clear p24
           try clear p241
           try clear p245
           try clear p249
           try clear p6
           try clear p64
           try clear q2
           try clear q24
           try clear q241
           try clear q245
           try clear q249
           obtain ⟨x111_4, rfl, HA, HK4, BK235, HB⟩ := hrel
           cases gk with
           | zero => exact absurd HA.out (by simp [impl_PlantValid.l2])
           | succ k4 =>
            have H := HA.out
            clear HA
            simp only [impl_PlantValid.l2] at H
            by_cases c81 : x111_4 < (l0_3.length : Int)
            ·rw [if_pos c81] at H
             have c81b0 : decide (x111_4 < (l0_3.length : Int)) = true := decide_eq_true c81
             clear c81
             by_cases c82 : 0 ≤ x111_4
             ·rw [if_pos c82] at H
              have c82b0 : decide (0 ≤ x111_4) = true := decide_eq_true c82
              clear c82
              by_cases c83 : x111_4 < (l0_3.length : Int)
              ·rw [if_pos c83] at H
               have c83b0 : decide (x111_4 < (l0_3.length : Int)) = true := decide_eq_true c83
               clear c83
               replace H := Option.bind_eq_some_iff.mp H
               obtain ⟨⟨t252, t253, t254, t255⟩, A840, H⟩ := H
               replace H : ((impl_Plant_place.f k4 l0_0 l0_1 l0_2 l0_3 ((rd_T108 l0_3 x111_4).f2)).bind fun bt257 => ((impl_isName.f k4 ((rd_T108 l0_3 x111_4).f0)).bind fun t262 => (if t262 = true then (if t255 = true then (if bt257.2.2.2 = true then (if ((Op.bytesLess (((rd_T108 l0_3 x111_4).f1).toList) (((rd_T108 l0_3 x111_4).f2).toList)) = true) then ((impl_isName.f k4 ((rd_T108 l0_3 x111_4).f3)).bind fun t263 => (if t263 = true then (if x111_4 > 0 then (if 0 ≤ (wrap64 (x111_4 - 1)) then (if (wrap64 (x111_4 - 1)) < (l0_3.length : Int) then (impl_PlantValid.j5 k4 l0_3 (l0_3.length : Int) x111_4 (!(Op.bytesLess (((rd_T108 l0_3 (wrap64 (x111_4 - 1))).f0).toList) (((rd_T108 l0_3 x111_4).f0).toList))) l0_0 l0_1 l0_2 l0_3) else (none)) else (none)) else (impl_PlantValid.j5 k4 l0_3 (l0_3.length : Int) x111_4 false l0_0 l0_1 l0_2 l0_3)) else (impl_PlantValid.j5 k4 l0_3 (l0_3.length : Int) x111_4 true l0_0 l0_1 l0_2 l0_3))) else (impl_PlantValid.j5 k4 l0_3 (l0_3.length : Int) x111_4 true l0_0 l0_1 l0_2 l0_3)) else (impl_PlantValid.j5 k4 l0_3 (l0_3.length : Int) x111_4 true l0_0 l0_1 l0_2 l0_3)) else (impl_PlantValid.j5 k4 l0_3 (l0_3.length : Int) x111_4 true l0_0 l0_1 l0_2 l0_3)) else (impl_PlantValid.j5 k4 l0_3 (l0_3.length : Int) x111_4 true l0_0 l0_1 l0_2 l0_3)))) = some r := H
               have A84 := Aside0.mk A840
               clear A840
               replace H := Option.bind_eq_some_iff.mp H
               obtain ⟨⟨t257, t258, t259, t260⟩, A850, H⟩ := H
               replace H : ((impl_isName.f k4 ((rd_T108 l0_3 x111_4).f0)).bind fun t262 => (if t262 = true then (if t255 = true then (if t260 = true then (if ((Op.bytesLess (((rd_T108 l0_3 x111_4).f1).toList) (((rd_T108 l0_3 x111_4).f2).toList)) = true) then ((impl_isName.f k4 ((rd_T108 l0_3 x111_4).f3)).bind fun t263 => (if t263 = true then (if x111_4 > 0 then (if 0 ≤ (wrap64 (x111_4 - 1)) then (if (wrap64 (x111_4 - 1)) < (l0_3.length : Int) then (impl_PlantValid.j5 k4 l0_3 (l0_3.length : Int) x111_4 (!(Op.bytesLess (((rd_T108 l0_3 (wrap64 (x111_4 - 1))).f0).toList) (((rd_T108 l0_3 x111_4).f0).toList))) l0_0 l0_1 l0_2 l0_3) else (none)) else (none)) else (impl_PlantValid.j5 k4 l0_3 (l0_3.length : Int) x111_4 false l0_0 l0_1 l0_2 l0_3)) else (impl_PlantValid.j5 k4 l0_3 (l0_3.length : Int) x111_4 true l0_0 l0_1 l0_2 l0_3))) else (impl_PlantValid.j5 k4 l0_3 (l0_3.length : Int) x111_4 true l0_0 l0_1 l0_2 l0_3)) else (impl_PlantValid.j5 k4 l0_3 (l0_3.length : Int) x111_4 true l0_0 l0_1 l0_2 l0_3)) else (impl_PlantValid.j5 k4 l0_3 (l0_3.length : Int) x111_4 true l0_0 l0_1 l0_2 l0_3)) else (impl_PlantValid.j5 k4 l0_3 (l0_3.length : Int) x111_4 true l0_0 l0_1 l0_2 l0_3))) = some r := H
               have A85 := Aside0.mk A850
               clear A850
               have HC86 := Aside0.mk H
               clear H
               have p250 : 0 ≤ (x111_4 : Int) := of_decide_eq_true m5_
               have q250 : x111_4 < (l0_3.length : Int) := of_decide_eq_true m5_
               obtain ⟨ad250, e250, hx250_0, hx250_1, hx250_2, hx250_3⟩ := at_T108 HR0_3.out x111_4 p250 q250
               cases e250
               replace hx250_0 := (HB.out.cell (World.block_lt_of_cell? w _ hx250_0)).trans hx250_0
               replace hx250_1 := (HB.out.cell (World.block_lt_of_cell? w _ hx250_1)).trans hx250_1
               replace hx250_2 := (HB.out.cell (World.block_lt_of_cell? w _ hx250_2)).trans hx250_2
               replace hx250_3 := (HB.out.cell (World.block_lt_of_cell? w _ hx250_3)).trans hx250_3
               replace p250 := eq_true p250
               replace q250 := eq_true q250
               go_upto_region 20 with (first | ((with_reducible refine gate_dst (N := 8) rfl ?_); (try (refine gate_guard (by rfl) ?_; dsimp only)); refine box_event ?hg (N := 8) ?hd (cs := #[.string (⟨#[]⟩ : ByteArray), .string (⟨#[]⟩ : ByteArray), .string (⟨#[]⟩ : ByteArray), .string (⟨#[]⟩ : ByteArray)]) (t := 108) ?hr ?_; (case hd => rfl); (case hg => rfl); (case hr => first | (go_simp; done) | (go_simp; rfl)); intro gb251 hg w87 hbox hb; have n0_ := Aside0.mk (blk_below (g := gb235) (o := .cells #[.slice A0_0 l0_0.length c0_0, .slice A0_1 l0_1.length c0_1, .slice A0_2 l0_2.length c0_2, .slice (some ad250) l0_3.length c0_3] 34 (0, 0)) m4_ hb); have n1_ := Aside0.mk (below_step m1_ hb); have n2_ := Aside0.mk (hbox); have n3_ := Aside0.mk ((by rw [hg]; exact (below_size m1_) : w.heap.size ≤ gb251)); have n4_ := Aside0.mk ((by rw [hg]; exact (below_size m1_) : w.heap.size ≤ gb251)); have n5_ := Aside0.mk ((by rw [hg]; exact Nat.ne_of_lt (blk_lt (g := gb235) (o := .cells #[.slice A0_0 l0_0.length c0_0, .slice A0_1 l0_1.length c0_1, .slice A0_2 l0_2.length c0_2, .slice (some ad250) l0_3.length c0_3] 34 (0, 0)) m4_) : gb235 ≠ gb251)); have n6_ := Aside0.mk ((by rw [hg]; exact Nat.ne_of_gt (blk_lt (g := gb235) (o := .cells #[.slice A0_0 l0_0.length c0_0, .slice A0_1 l0_1.length c0_1, .slice A0_2 l0_2.length c0_2, .slice (some ad250) l0_3.length c0_3] 34 (0, 0)) m4_) : gb251 ≠ gb235)); clear BK235; clear HB; have BK235 := n0_; have HB := n1_; have BK251 := n2_; have GW251 := n3_; have GE251 := n4_; have NB235_251 := n5_; have NB251_235 := n6_; clear n0_ n1_ n2_ n3_ n4_ n5_ n6_; clear hb hbox hg; have hnb88 := NB251_235.out; have hnc88 := NB235_251.out; obtain ⟨hcz89_0, hcz89_1, hcz89_2, hcz89_3⟩ := cz4_ BK251.out; obtain ⟨hfz89_0, hfz89_1, hfz89_2, hfz89_3⟩ := fz4_ BK251.out; obtain ⟨hcz90_0, hcz90_1, hcz90_2, hcz90_3⟩ := cz4_ BK235.out; obtain ⟨hfz90_0, hfz90_1, hfz90_2, hfz90_3⟩ := fz4_ BK235.out) | (go_at_call 77; (with_reducible refine (impl_Plant_place.calls k4 _ _ l0_0 _ _ l0_1 _ _ l0_2 _ _ l0_3 ((rd_T108 l0_3 x111_4).f1) t252 t253 t254 t255 _ ?side1 ?side2 ?side3 ?side4 ?side5 ?side6 ?side7 ?side8 A84.out).mono ?_); (case side1 => exact Kd.C_below HR0_0.out m11_); (case side2 => exact HC0_0.out); (case side3 => exact Kd.C_below HR0_1.out m11_); (case side4 => exact HC0_1.out); (case side5 => exact Kd.C_below HR0_2.out m11_); (case side6 => exact HC0_2.out); (case side7 => exact Kd.C_below HR0_3.out m11_); (case side8 => exact HC0_3.out); rintro e w91 ⟨rfl, hb⟩; have n0_ := Aside0.mk (blk_below (g := gb235) (o := .cells #[.slice A0_0 l0_0.length c0_0, .slice A0_1 l0_1.length c0_1, .slice A0_2 l0_2.length c0_2, .slice (some ad250) l0_3.length c0_3] 34 (0, 0)) m48_ hb); have n1_ := Aside0.mk (blk_below (g := gb251) (o := .cells #[.string ((rd_T108 l0_3 x111_4).f0), .string ((rd_T108 l0_3 x111_4).f1), .string ((rd_T108 l0_3 x111_4).f2), .string ((rd_T108 l0_3 x111_4).f3)] 108 (0, 0)) m26_ hb); have n2_ := Aside0.mk (below_step m11_ hb); clear BK235; clear BK251; clear HB; have BK235 := n0_; have BK251 := n1_; have HB := n2_; clear n0_ n1_ n2_; (try clear hb); (try clear hb2); (try clear hk); (try clear hi)) | ((with_reducible refine gate_dst (N := 9) rfl ?_); (try (refine gate_guard (by rfl) ?_; dsimp only)); refine box_event ?hg (N := 9) ?hd (cs := #[.string (⟨#[]⟩ : ByteArray), .int .i64 0, .string (⟨#[]⟩ : ByteArray)]) (t := 86) ?hr ?_; (case hd => rfl); (case hg => rfl); (case hr => first | (go_simp; done) | (go_simp; rfl)); intro gb256 hg w92 hbox hb; have n0_ := Aside0.mk (blk_below (g := gb235) (o := .cells #[.slice A0_0 l0_0.length c0_0, .slice A0_1 l0_1.length c0_1, .slice A0_2 l0_2.length c0_2, .slice (some ad250) l0_3.length c0_3] 34 (0, 0)) m4_ hb); have n1_ := Aside0.mk (blk_below (g := gb251) (o := .cells #[.string ((rd_T108 l0_3 x111_4).f0), .string ((rd_T108 l0_3 x111_4).f1), .string ((rd_T108 l0_3 x111_4).f2), .string ((rd_T108 l0_3 x111_4).f3)] 108 (0, 0)) m27_ hb); have n2_ := Aside0.mk (below_step m11_ hb); have n3_ := Aside0.mk (hbox); have n4_ := Aside0.mk ((by rw [hg]; exact (below_size m11_) : w.heap.size ≤ gb256)); have n5_ := Aside0.mk ((by rw [hg]; exact (below_size m11_) : w.heap.size ≤ gb256)); have n6_ := Aside0.mk ((by rw [hg]; exact Nat.ne_of_lt (blk_lt (g := gb235) (o := .cells #[.slice A0_0 l0_0.length c0_0, .slice A0_1 l0_1.length c0_1, .slice A0_2 l0_2.length c0_2, .slice (some ad250) l0_3.length c0_3] 34 (0, 0)) m4_) : gb235 ≠ gb256)); have n7_ := Aside0.mk ((by rw [hg]; exact Nat.ne_of_gt (blk_lt (g := gb235) (o := .cells #[.slice A0_0 l0_0.length c0_0, .slice A0_1 l0_1.length c0_1, .slice A0_2 l0_2.length c0_2, .slice (some ad250) l0_3.length c0_3] 34 (0, 0)) m4_) : gb256 ≠ gb235)); have n8_ := Aside0.mk ((by rw [hg]; exact Nat.ne_of_lt (blk_lt (g := gb251) (o := .cells #[.string ((rd_T108 l0_3 x111_4).f0), .string ((rd_T108 l0_3 x111_4).f1), .string ((rd_T108 l0_3 x111_4).f2), .string ((rd_T108 l0_3 x111_4).f3)] 108 (0, 0)) m27_) : gb251 ≠ gb256)); have n9_ := Aside0.mk ((by rw [hg]; exact Nat.ne_of_gt (blk_lt (g := gb251) (o := .cells #[.string ((rd_T108 l0_3 x111_4).f0), .string ((rd_T108 l0_3 x111_4).f1), .string ((rd_T108 l0_3 x111_4).f2), .string ((rd_T108 l0_3 x111_4).f3)] 108 (0, 0)) m27_) : gb256 ≠ gb251)); clear BK235; clear BK251; clear HB; have BK235 := n0_; have BK251 := n1_; have HB := n2_; have BK256 := n3_; have GW256 := n4_; have GE256 := n5_; have NB235_256 := n6_; have NB256_235 := n7_; have NB251_256 := n8_; have NB256_251 := n9_; clear n0_ n1_ n2_ n3_ n4_ n5_ n6_ n7_ n8_ n9_; clear hb hbox hg; have hnb93 := NB256_235.out; have hnc93 := NB235_256.out; have hnb94 := NB256_251.out; have hnc94 := NB251_256.out; obtain ⟨hcz95_0, hcz95_1, hcz95_2⟩ := cz3_ BK256.out; obtain ⟨hfz95_0, hfz95_1, hfz95_2⟩ := fz3_ BK256.out; obtain ⟨hcz96_0, hcz96_1, hcz96_2, hcz96_3⟩ := cz4_ BK235.out; obtain ⟨hfz96_0, hfz96_1, hfz96_2, hfz96_3⟩ := fz4_ BK235.out; obtain ⟨hcz97_0, hcz97_1, hcz97_2, hcz97_3⟩ := cz4_ BK251.out; obtain ⟨hfz97_0, hfz97_1, hfz97_2, hfz97_3⟩ := fz4_ BK251.out) | (go_at_call 77; (with_reducible refine (impl_Plant_place.calls k4 _ _ l0_0 _ _ l0_1 _ _ l0_2 _ _ l0_3 ((rd_T108 l0_3 x111_4).f2) t257 t258 t259 t260 _ ?side1 ?side2 ?side3 ?side4 ?side5 ?side6 ?side7 ?side8 A85.out).mono ?_); (case side1 => exact Kd.C_below HR0_0.out m9_); (case side2 => exact HC0_0.out); (case side3 => exact Kd.C_below HR0_1.out m9_); (case side4 => exact HC0_1.out); (case side5 => exact Kd.C_below HR0_2.out m9_); (case side6 => exact HC0_2.out); (case side7 => exact Kd.C_below HR0_3.out m9_); (case side8 => exact HC0_3.out); rintro e w98 ⟨rfl, hb⟩; have n0_ := Aside0.mk (blk_below (g := gb235) (o := .cells #[.slice A0_0 l0_0.length c0_0, .slice A0_1 l0_1.length c0_1, .slice A0_2 l0_2.length c0_2, .slice (some ad250) l0_3.length c0_3] 34 (0, 0)) m58_ hb); have n1_ := Aside0.mk (blk_below (g := gb251) (o := .cells #[.string ((rd_T108 l0_3 x111_4).f0), .string ((rd_T108 l0_3 x111_4).f1), .string ((rd_T108 l0_3 x111_4).f2), .string ((rd_T108 l0_3 x111_4).f3)] 108 (0, 0)) m59_ hb); have n2_ := Aside0.mk (blk_below (g := gb256) (o := .cells #[.string t252, .int .i64 t253, .string t254] 86 (0, 0)) m38_ hb); have n3_ := Aside0.mk (below_step m9_ hb); clear BK235; clear BK251; clear BK256; clear HB; have BK235 := n0_; have BK251 := n1_; have BK256 := n2_; have HB := n3_; clear n0_ n1_ n2_ n3_; (try clear hb); (try clear hb2); (try clear hk); (try clear hi)) | ((with_reducible refine gate_dst (N := 11) rfl ?_); (try (refine gate_guard (by rfl) ?_; dsimp only)); refine box_event ?hg (N := 11) ?hd (cs := #[.string (⟨#[]⟩ : ByteArray), .int .i64 0, .string (⟨#[]⟩ : ByteArray)]) (t := 86) ?hr ?_; (case hd => rfl); (case hg => rfl); (case hr => first | (go_simp; done) | (go_simp; rfl)); intro gb261 hg w99 hbox hb; have n0_ := Aside0.mk (blk_below (g := gb235) (o := .cells #[.slice A0_0 l0_0.length c0_0, .slice A0_1 l0_1.length c0_1, .slice A0_2 l0_2.length c0_2, .slice (some ad250) l0_3.length c0_3] 34 (0, 0)) m4_ hb); have n1_ := Aside0.mk (blk_below (g := gb251) (o := .cells #[.string ((rd_T108 l0_3 x111_4).f0), .string ((rd_T108 l0_3 x111_4).f1), .string ((rd_T108 l0_3 x111_4).f2), .string ((rd_T108 l0_3 x111_4).f3)] 108 (0, 0)) m27_ hb); have n2_ := Aside0.mk (blk_below (g := gb256) (o := .cells #[.string t252, .int .i64 t253, .string t254] 86 (0, 0)) m67_ hb); have n3_ := Aside0.mk (below_step m9_ hb); have n4_ := Aside0.mk (hbox); have n5_ := Aside0.mk ((by rw [hg]; exact (below_size m9_) : w.heap.size ≤ gb261)); have n6_ := Aside0.mk ((by rw [hg]; exact (below_size m9_) : w.heap.size ≤ gb261)); have n7_ := Aside0.mk ((by rw [hg]; exact Nat.ne_of_lt (blk_lt (g := gb235) (o := .cells #[.slice A0_0 l0_0.length c0_0, .slice A0_1 l0_1.length c0_1, .slice A0_2 l0_2.length c0_2, .slice (some ad250) l0_3.length c0_3] 34 (0, 0)) m4_) : gb235 ≠ gb261)); have n8_ := Aside0.mk ((by rw [hg]; exact Nat.ne_of_gt (blk_lt (g := gb235) (o := .cells #[.slice A0_0 l0_0.length c0_0, .slice A0_1 l0_1.length c0_1, .slice A0_2 l0_2.length c0_2, .slice (some ad250) l0_3.length c0_3] 34 (0, 0)) m4_) : gb261 ≠ gb235)); have n9_ := Aside0.mk ((by rw [hg]; exact Nat.ne_of_lt (blk_lt (g := gb251) (o := .cells #[.string ((rd_T108 l0_3 x111_4).f0), .string ((rd_T108 l0_3 x111_4).f1), .string ((rd_T108 l0_3 x111_4).f2), .string ((rd_T108 l0_3 x111_4).f3)] 108 (0, 0)) m27_) : gb251 ≠ gb261)); have n10_ := Aside0.mk ((by rw [hg]; exact Nat.ne_of_gt (blk_lt (g := gb251) (o := .cells #[.string ((rd_T108 l0_3 x111_4).f0), .string ((rd_T108 l0_3 x111_4).f1), .string ((rd_T108 l0_3 x111_4).f2), .string ((rd_T108 l0_3 x111_4).f3)] 108 (0, 0)) m27_) : gb261 ≠ gb251)); have n11_ := Aside0.mk ((by rw [hg]; exact Nat.ne_of_lt (blk_lt (g := gb256) (o := .cells #[.string t252, .int .i64 t253, .string t254] 86 (0, 0)) m67_) : gb256 ≠ gb261)); have n12_ := Aside0.mk ((by rw [hg]; exact Nat.ne_of_gt (blk_lt (g := gb256) (o := .cells #[.string t252, .int .i64 t253, .string t254] 86 (0, 0)) m67_) : gb261 ≠ gb256)); clear BK235; clear BK251; clear BK256; clear HB; have BK235 := n0_; have BK251 := n1_; have BK256 := n2_; have HB := n3_; have BK261 := n4_; have GW261 := n5_; have GE261 := n6_; have NB235_261 := n7_; have NB261_235 := n8_; have NB251_261 := n9_; have NB261_251 := n10_; have NB256_261 := n11_; have NB261_256 := n12_; clear n0_ n1_ n2_ n3_ n4_ n5_ n6_ n7_ n8_ n9_ n10_ n11_ n12_; clear hb hbox hg; have hnb100 := NB261_235.out; have hnc100 := NB235_261.out; have hnb101 := NB261_251.out; have hnc101 := NB251_261.out; have hnb102 := NB261_256.out; have hnc102 := NB256_261.out; obtain ⟨hcz103_0, hcz103_1, hcz103_2⟩ := cz3_ BK261.out; obtain ⟨hfz103_0, hfz103_1, hfz103_2⟩ := fz3_ BK261.out))
               repeat (go_quiet (first | ((with_reducible refine gate_dst (N := 8) rfl ?_); (try (refine gate_guard (by rfl) ?_; dsimp only)); refine box_event ?hg (N := 8) ?hd (cs := #[.string (⟨#[]⟩ : ByteArray), .string (⟨#[]⟩ : ByteArray), .string (⟨#[]⟩ : ByteArray), .string (⟨#[]⟩ : ByteArray)]) (t := 108) ?hr ?_; (case hd => rfl); (case hg => rfl); (case hr => first | (go_simp; done) | (go_simp; rfl)); intro gb251 hg w87 hbox hb; have n0_ := Aside0.mk (blk_below (g := gb235) (o := .cells #[.slice A0_0 l0_0.length c0_0, .slice A0_1 l0_1.length c0_1, .slice A0_2 l0_2.length c0_2, .slice (some ad250) l0_3.length c0_3] 34 (0, 0)) m4_ hb); have n1_ := Aside0.mk (below_step m1_ hb); have n2_ := Aside0.mk (hbox); have n3_ := Aside0.mk ((by rw [hg]; exact (below_size m1_) : w.heap.size ≤ gb251)); have n4_ := Aside0.mk ((by rw [hg]; exact (below_size m1_) : w.heap.size ≤ gb251)); have n5_ := Aside0.mk ((by rw [hg]; exact Nat.ne_of_lt (blk_lt (g := gb235) (o := .cells #[.slice A0_0 l0_0.length c0_0, .slice A0_1 l0_1.length c0_1, .slice A0_2 l0_2.length c0_2, .slice (some ad250) l0_3.length c0_3] 34 (0, 0)) m4_) : gb235 ≠ gb251)); have n6_ := Aside0.mk ((by rw [hg]; exact Nat.ne_of_gt (blk_lt (g := gb235) (o := .cells #[.slice A0_0 l0_0.length c0_0, .slice A0_1 l0_1.length c0_1, .slice A0_2 l0_2.length c0_2, .slice (some ad250) l0_3.length c0_3] 34 (0, 0)) m4_) : gb251 ≠ gb235)); clear BK235; clear HB; have BK235 := n0_; have HB := n1_; have BK251 := n2_; have GW251 := n3_; have GE251 := n4_; have NB235_251 := n5_; have NB251_235 := n6_; clear n0_ n1_ n2_ n3_ n4_ n5_ n6_; clear hb hbox hg; have hnb88 := NB251_235.out; have hnc88 := NB235_251.out; obtain ⟨hcz89_0, hcz89_1, hcz89_2, hcz89_3⟩ := cz4_ BK251.out; obtain ⟨hfz89_0, hfz89_1, hfz89_2, hfz89_3⟩ := fz4_ BK251.out; obtain ⟨hcz90_0, hcz90_1, hcz90_2, hcz90_3⟩ := cz4_ BK235.out; obtain ⟨hfz90_0, hfz90_1, hfz90_2, hfz90_3⟩ := fz4_ BK235.out) | (go_at_call 77; (with_reducible refine (impl_Plant_place.calls k4 _ _ l0_0 _ _ l0_1 _ _ l0_2 _ _ l0_3 ((rd_T108 l0_3 x111_4).f1) t252 t253 t254 t255 _ ?side1 ?side2 ?side3 ?side4 ?side5 ?side6 ?side7 ?side8 A84.out).mono ?_); (case side1 => exact Kd.C_below HR0_0.out m11_); (case side2 => exact HC0_0.out); (case side3 => exact Kd.C_below HR0_1.out m11_); (case side4 => exact HC0_1.out); (case side5 => exact Kd.C_below HR0_2.out m11_); (case side6 => exact HC0_2.out); (case side7 => exact Kd.C_below HR0_3.out m11_); (case side8 => exact HC0_3.out); rintro e w91 ⟨rfl, hb⟩; have n0_ := Aside0.mk (blk_below (g := gb235) (o := .cells #[.slice A0_0 l0_0.length c0_0, .slice A0_1 l0_1.length c0_1, .slice A0_2 l0_2.length c0_2, .slice (some ad250) l0_3.length c0_3] 34 (0, 0)) m48_ hb); have n1_ := Aside0.mk (blk_below (g := gb251) (o := .cells #[.string ((rd_T108 l0_3 x111_4).f0), .string ((rd_T108 l0_3 x111_4).f1), .string ((rd_T108 l0_3 x111_4).f2), .string ((rd_T108 l0_3 x111_4).f3)] 108 (0, 0)) m26_ hb); have n2_ := Aside0.mk (below_step m11_ hb); clear BK235; clear BK251; clear HB; have BK235 := n0_; have BK251 := n1_; have HB := n2_; clear n0_ n1_ n2_; (try clear hb); (try clear hb2); (try clear hk); (try clear hi)) | ((with_reducible refine gate_dst (N := 9) rfl ?_); (try (refine gate_guard (by rfl) ?_; dsimp only)); refine box_event ?hg (N := 9) ?hd (cs := #[.string (⟨#[]⟩ : ByteArray), .int .i64 0, .string (⟨#[]⟩ : ByteArray)]) (t := 86) ?hr ?_; (case hd => rfl); (case hg => rfl); (case hr => first | (go_simp; done) | (go_simp; rfl)); intro gb256 hg w92 hbox hb; have n0_ := Aside0.mk (blk_below (g := gb235) (o := .cells #[.slice A0_0 l0_0.length c0_0, .slice A0_1 l0_1.length c0_1, .slice A0_2 l0_2.length c0_2, .slice (some ad250) l0_3.length c0_3] 34 (0, 0)) m4_ hb); have n1_ := Aside0.mk (blk_below (g := gb251) (o := .cells #[.string ((rd_T108 l0_3 x111_4).f0), .string ((rd_T108 l0_3 x111_4).f1), .string ((rd_T108 l0_3 x111_4).f2), .string ((rd_T108 l0_3 x111_4).f3)] 108 (0, 0)) m27_ hb); have n2_ := Aside0.mk (below_step m11_ hb); have n3_ := Aside0.mk (hbox); have n4_ := Aside0.mk ((by rw [hg]; exact (below_size m11_) : w.heap.size ≤ gb256)); have n5_ := Aside0.mk ((by rw [hg]; exact (below_size m11_) : w.heap.size ≤ gb256)); have n6_ := Aside0.mk ((by rw [hg]; exact Nat.ne_of_lt (blk_lt (g := gb235) (o := .cells #[.slice A0_0 l0_0.length c0_0, .slice A0_1 l0_1.length c0_1, .slice A0_2 l0_2.length c0_2, .slice (some ad250) l0_3.length c0_3] 34 (0, 0)) m4_) : gb235 ≠ gb256)); have n7_ := Aside0.mk ((by rw [hg]; exact Nat.ne_of_gt (blk_lt (g := gb235) (o := .cells #[.slice A0_0 l0_0.length c0_0, .slice A0_1 l0_1.length c0_1, .slice A0_2 l0_2.length c0_2, .slice (some ad250) l0_3.length c0_3] 34 (0, 0)) m4_) : gb256 ≠ gb235)); have n8_ := Aside0.mk ((by rw [hg]; exact Nat.ne_of_lt (blk_lt (g := gb251) (o := .cells #[.string ((rd_T108 l0_3 x111_4).f0), .string ((rd_T108 l0_3 x111_4).f1), .string ((rd_T108 l0_3 x111_4).f2), .string ((rd_T108 l0_3 x111_4).f3)] 108 (0, 0)) m27_) : gb251 ≠ gb256)); have n9_ := Aside0.mk ((by rw [hg]; exact Nat.ne_of_gt (blk_lt (g := gb251) (o := .cells #[.string ((rd_T108 l0_3 x111_4).f0), .string ((rd_T108 l0_3 x111_4).f1), .string ((rd_T108 l0_3 x111_4).f2), .string ((rd_T108 l0_3 x111_4).f3)] 108 (0, 0)) m27_) : gb256 ≠ gb251)); clear BK235; clear BK251; clear HB; have BK235 := n0_; have BK251 := n1_; have HB := n2_; have BK256 := n3_; have GW256 := n4_; have GE256 := n5_; have NB235_256 := n6_; have NB256_235 := n7_; have NB251_256 := n8_; have NB256_251 := n9_; clear n0_ n1_ n2_ n3_ n4_ n5_ n6_ n7_ n8_ n9_; clear hb hbox hg; have hnb93 := NB256_235.out; have hnc93 := NB235_256.out; have hnb94 := NB256_251.out; have hnc94 := NB251_256.out; obtain ⟨hcz95_0, hcz95_1, hcz95_2⟩ := cz3_ BK256.out; obtain ⟨hfz95_0, hfz95_1, hfz95_2⟩ := fz3_ BK256.out; obtain ⟨hcz96_0, hcz96_1, hcz96_2, hcz96_3⟩ := cz4_ BK235.out; obtain ⟨hfz96_0, hfz96_1, hfz96_2, hfz96_3⟩ := fz4_ BK235.out; obtain ⟨hcz97_0, hcz97_1, hcz97_2, hcz97_3⟩ := cz4_ BK251.out; obtain ⟨hfz97_0, hfz97_1, hfz97_2, hfz97_3⟩ := fz4_ BK251.out) | (go_at_call 77; (with_reducible refine (impl_Plant_place.calls k4 _ _ l0_0 _ _ l0_1 _ _ l0_2 _ _ l0_3 ((rd_T108 l0_3 x111_4).f2) t257 t258 t259 t260 _ ?side1 ?side2 ?side3 ?side4 ?side5 ?side6 ?side7 ?side8 A85.out).mono ?_); (case side1 => exact Kd.C_below HR0_0.out m9_); (case side2 => exact HC0_0.out); (case side3 => exact Kd.C_below HR0_1.out m9_); (case side4 => exact HC0_1.out); (case side5 => exact Kd.C_below HR0_2.out m9_); (case side6 => exact HC0_2.out); (case side7 => exact Kd.C_below HR0_3.out m9_); (case side8 => exact HC0_3.out); rintro e w98 ⟨rfl, hb⟩; have n0_ := Aside0.mk (blk_below (g := gb235) (o := .cells #[.slice A0_0 l0_0.length c0_0, .slice A0_1 l0_1.length c0_1, .slice A0_2 l0_2.length c0_2, .slice (some ad250) l0_3.length c0_3] 34 (0, 0)) m58_ hb); have n1_ := Aside0.mk (blk_below (g := gb251) (o := .cells #[.string ((rd_T108 l0_3 x111_4).f0), .string ((rd_T108 l0_3 x111_4).f1), .string ((rd_T108 l0_3 x111_4).f2), .string ((rd_T108 l0_3 x111_4).f3)] 108 (0, 0)) m59_ hb); have n2_ := Aside0.mk (blk_below (g := gb256) (o := .cells #[.string t252, .int .i64 t253, .string t254] 86 (0, 0)) m38_ hb); have n3_ := Aside0.mk (below_step m9_ hb); clear BK235; clear BK251; clear BK256; clear HB; have BK235 := n0_; have BK251 := n1_; have BK256 := n2_; have HB := n3_; clear n0_ n1_ n2_ n3_; (try clear hb); (try clear hb2); (try clear hk); (try clear hi)) | ((with_reducible refine gate_dst (N := 11) rfl ?_); (try (refine gate_guard (by rfl) ?_; dsimp only)); refine box_event ?hg (N := 11) ?hd (cs := #[.string (⟨#[]⟩ : ByteArray), .int .i64 0, .string (⟨#[]⟩ : ByteArray)]) (t := 86) ?hr ?_; (case hd => rfl); (case hg => rfl); (case hr => first | (go_simp; done) | (go_simp; rfl)); intro gb261 hg w99 hbox hb; have n0_ := Aside0.mk (blk_below (g := gb235) (o := .cells #[.slice A0_0 l0_0.length c0_0, .slice A0_1 l0_1.length c0_1, .slice A0_2 l0_2.length c0_2, .slice (some ad250) l0_3.length c0_3] 34 (0, 0)) m4_ hb); have n1_ := Aside0.mk (blk_below (g := gb251) (o := .cells #[.string ((rd_T108 l0_3 x111_4).f0), .string ((rd_T108 l0_3 x111_4).f1), .string ((rd_T108 l0_3 x111_4).f2), .string ((rd_T108 l0_3 x111_4).f3)] 108 (0, 0)) m27_ hb); have n2_ := Aside0.mk (blk_below (g := gb256) (o := .cells #[.string t252, .int .i64 t253, .string t254] 86 (0, 0)) m67_ hb); have n3_ := Aside0.mk (below_step m9_ hb); have n4_ := Aside0.mk (hbox); have n5_ := Aside0.mk ((by rw [hg]; exact (below_size m9_) : w.heap.size ≤ gb261)); have n6_ := Aside0.mk ((by rw [hg]; exact (below_size m9_) : w.heap.size ≤ gb261)); have n7_ := Aside0.mk ((by rw [hg]; exact Nat.ne_of_lt (blk_lt (g := gb235) (o := .cells #[.slice A0_0 l0_0.length c0_0, .slice A0_1 l0_1.length c0_1, .slice A0_2 l0_2.length c0_2, .slice (some ad250) l0_3.length c0_3] 34 (0, 0)) m4_) : gb235 ≠ gb261)); have n8_ := Aside0.mk ((by rw [hg]; exact Nat.ne_of_gt (blk_lt (g := gb235) (o := .cells #[.slice A0_0 l0_0.length c0_0, .slice A0_1 l0_1.length c0_1, .slice A0_2 l0_2.length c0_2, .slice (some ad250) l0_3.length c0_3] 34 (0, 0)) m4_) : gb261 ≠ gb235)); have n9_ := Aside0.mk ((by rw [hg]; exact Nat.ne_of_lt (blk_lt (g := gb251) (o := .cells #[.string ((rd_T108 l0_3 x111_4).f0), .string ((rd_T108 l0_3 x111_4).f1), .string ((rd_T108 l0_3 x111_4).f2), .string ((rd_T108 l0_3 x111_4).f3)] 108 (0, 0)) m27_) : gb251 ≠ gb261)); have n10_ := Aside0.mk ((by rw [hg]; exact Nat.ne_of_gt (blk_lt (g := gb251) (o := .cells #[.string ((rd_T108 l0_3 x111_4).f0), .string ((rd_T108 l0_3 x111_4).f1), .string ((rd_T108 l0_3 x111_4).f2), .string ((rd_T108 l0_3 x111_4).f3)] 108 (0, 0)) m27_) : gb261 ≠ gb251)); have n11_ := Aside0.mk ((by rw [hg]; exact Nat.ne_of_lt (blk_lt (g := gb256) (o := .cells #[.string t252, .int .i64 t253, .string t254] 86 (0, 0)) m67_) : gb256 ≠ gb261)); have n12_ := Aside0.mk ((by rw [hg]; exact Nat.ne_of_gt (blk_lt (g := gb256) (o := .cells #[.string t252, .int .i64 t253, .string t254] 86 (0, 0)) m67_) : gb261 ≠ gb256)); clear BK235; clear BK251; clear BK256; clear HB; have BK235 := n0_; have BK251 := n1_; have BK256 := n2_; have HB := n3_; have BK261 := n4_; have GW261 := n5_; have GE261 := n6_; have NB235_261 := n7_; have NB261_235 := n8_; have NB251_261 := n9_; have NB261_251 := n10_; have NB256_261 := n11_; have NB261_256 := n12_; clear n0_ n1_ n2_ n3_ n4_ n5_ n6_ n7_ n8_ n9_ n10_ n11_ n12_; clear hb hbox hg; have hnb100 := NB261_235.out; have hnc100 := NB235_261.out; have hnb101 := NB261_251.out; have hnc101 := NB251_261.out; have hnb102 := NB261_256.out; have hnc102 := NB256_261.out; obtain ⟨hcz103_0, hcz103_1, hcz103_2⟩ := cz3_ BK261.out; obtain ⟨hfz103_0, hfz103_1, hfz103_2⟩ := fz3_ BK261.out)); go_upto_region 20 with (first | ((with_reducible refine gate_dst (N := 8) rfl ?_); (try (refine gate_guard (by rfl) ?_; dsimp only)); refine box_event ?hg (N := 8) ?hd (cs := #[.string (⟨#[]⟩ : ByteArray), .string (⟨#[]⟩ : ByteArray), .string (⟨#[]⟩ : ByteArray), .string (⟨#[]⟩ : ByteArray)]) (t := 108) ?hr ?_; (case hd => rfl); (case hg => rfl); (case hr => first | (go_simp; done) | (go_simp; rfl)); intro gb251 hg w87 hbox hb; have n0_ := Aside0.mk (blk_below (g := gb235) (o := .cells #[.slice A0_0 l0_0.length c0_0, .slice A0_1 l0_1.length c0_1, .slice A0_2 l0_2.length c0_2, .slice (some ad250) l0_3.length c0_3] 34 (0, 0)) m4_ hb); have n1_ := Aside0.mk (below_step m1_ hb); have n2_ := Aside0.mk (hbox); have n3_ := Aside0.mk ((by rw [hg]; exact (below_size m1_) : w.heap.size ≤ gb251)); have n4_ := Aside0.mk ((by rw [hg]; exact (below_size m1_) : w.heap.size ≤ gb251)); have n5_ := Aside0.mk ((by rw [hg]; exact Nat.ne_of_lt (blk_lt (g := gb235) (o := .cells #[.slice A0_0 l0_0.length c0_0, .slice A0_1 l0_1.length c0_1, .slice A0_2 l0_2.length c0_2, .slice (some ad250) l0_3.length c0_3] 34 (0, 0)) m4_) : gb235 ≠ gb251)); have n6_ := Aside0.mk ((by rw [hg]; exact Nat.ne_of_gt (blk_lt (g := gb235) (o := .cells #[.slice A0_0 l0_0.length c0_0, .slice A0_1 l0_1.length c0_1, .slice A0_2 l0_2.length c0_2, .slice (some ad250) l0_3.length c0_3] 34 (0, 0)) m4_) : gb251 ≠ gb235)); clear BK235; clear HB; have BK235 := n0_; have HB := n1_; have BK251 := n2_; have GW251 := n3_; have GE251 := n4_; have NB235_251 := n5_; have NB251_235 := n6_; clear n0_ n1_ n2_ n3_ n4_ n5_ n6_; clear hb hbox hg; have hnb88 := NB251_235.out; have hnc88 := NB235_251.out; obtain ⟨hcz89_0, hcz89_1, hcz89_2, hcz89_3⟩ := cz4_ BK251.out; obtain ⟨hfz89_0, hfz89_1, hfz89_2, hfz89_3⟩ := fz4_ BK251.out; obtain ⟨hcz90_0, hcz90_1, hcz90_2, hcz90_3⟩ := cz4_ BK235.out; obtain ⟨hfz90_0, hfz90_1, hfz90_2, hfz90_3⟩ := fz4_ BK235.out) | (go_at_call 77; (with_reducible refine (impl_Plant_place.calls k4 _ _ l0_0 _ _ l0_1 _ _ l0_2 _ _ l0_3 ((rd_T108 l0_3 x111_4).f1) t252 t253 t254 t255 _ ?side1 ?side2 ?side3 ?side4 ?side5 ?side6 ?side7 ?side8 A84.out).mono ?_); (case side1 => exact Kd.C_below HR0_0.out m11_); (case side2 => exact HC0_0.out); (case side3 => exact Kd.C_below HR0_1.out m11_); (case side4 => exact HC0_1.out); (case side5 => exact Kd.C_below HR0_2.out m11_); (case side6 => exact HC0_2.out); (case side7 => exact Kd.C_below HR0_3.out m11_); (case side8 => exact HC0_3.out); rintro e w91 ⟨rfl, hb⟩; have n0_ := Aside0.mk (blk_below (g := gb235) (o := .cells #[.slice A0_0 l0_0.length c0_0, .slice A0_1 l0_1.length c0_1, .slice A0_2 l0_2.length c0_2, .slice (some ad250) l0_3.length c0_3] 34 (0, 0)) m48_ hb); have n1_ := Aside0.mk (blk_below (g := gb251) (o := .cells #[.string ((rd_T108 l0_3 x111_4).f0), .string ((rd_T108 l0_3 x111_4).f1), .string ((rd_T108 l0_3 x111_4).f2), .string ((rd_T108 l0_3 x111_4).f3)] 108 (0, 0)) m26_ hb); have n2_ := Aside0.mk (below_step m11_ hb); clear BK235; clear BK251; clear HB; have BK235 := n0_; have BK251 := n1_; have HB := n2_; clear n0_ n1_ n2_; (try clear hb); (try clear hb2); (try clear hk); (try clear hi)) | ((with_reducible refine gate_dst (N := 9) rfl ?_); (try (refine gate_guard (by rfl) ?_; dsimp only)); refine box_event ?hg (N := 9) ?hd (cs := #[.string (⟨#[]⟩ : ByteArray), .int .i64 0, .string (⟨#[]⟩ : ByteArray)]) (t := 86) ?hr ?_; (case hd => rfl); (case hg => rfl); (case hr => first | (go_simp; done) | (go_simp; rfl)); intro gb256 hg w92 hbox hb; have n0_ := Aside0.mk (blk_below (g := gb235) (o := .cells #[.slice A0_0 l0_0.length c0_0, .slice A0_1 l0_1.length c0_1, .slice A0_2 l0_2.length c0_2, .slice (some ad250) l0_3.length c0_3] 34 (0, 0)) m4_ hb); have n1_ := Aside0.mk (blk_below (g := gb251) (o := .cells #[.string ((rd_T108 l0_3 x111_4).f0), .string ((rd_T108 l0_3 x111_4).f1), .string ((rd_T108 l0_3 x111_4).f2), .string ((rd_T108 l0_3 x111_4).f3)] 108 (0, 0)) m27_ hb); have n2_ := Aside0.mk (below_step m11_ hb); have n3_ := Aside0.mk (hbox); have n4_ := Aside0.mk ((by rw [hg]; exact (below_size m11_) : w.heap.size ≤ gb256)); have n5_ := Aside0.mk ((by rw [hg]; exact (below_size m11_) : w.heap.size ≤ gb256)); have n6_ := Aside0.mk ((by rw [hg]; exact Nat.ne_of_lt (blk_lt (g := gb235) (o := .cells #[.slice A0_0 l0_0.length c0_0, .slice A0_1 l0_1.length c0_1, .slice A0_2 l0_2.length c0_2, .slice (some ad250) l0_3.length c0_3] 34 (0, 0)) m4_) : gb235 ≠ gb256)); have n7_ := Aside0.mk ((by rw [hg]; exact Nat.ne_of_gt (blk_lt (g := gb235) (o := .cells #[.slice A0_0 l0_0.length c0_0, .slice A0_1 l0_1.length c0_1, .slice A0_2 l0_2.length c0_2, .slice (some ad250) l0_3.length c0_3] 34 (0, 0)) m4_) : gb256 ≠ gb235)); have n8_ := Aside0.mk ((by rw [hg]; exact Nat.ne_of_lt (blk_lt (g := gb251) (o := .cells #[.string ((rd_T108 l0_3 x111_4).f0), .string ((rd_T108 l0_3 x111_4).f1), .string ((rd_T108 l0_3 x111_4).f2), .string ((rd_T108 l0_3 x111_4).f3)] 108 (0, 0)) m27_) : gb251 ≠ gb256)); have n9_ := Aside0.mk ((by rw [hg]; exact Nat.ne_of_gt (blk_lt (g := gb251) (o := .cells #[.string ((rd_T108 l0_3 x111_4).f0), .string ((rd_T108 l0_3 x111_4).f1), .string ((rd_T108 l0_3 x111_4).f2), .string ((rd_T108 l0_3 x111_4).f3)] 108 (0, 0)) m27_) : gb256 ≠ gb251)); clear BK235; clear BK251; clear HB; have BK235 := n0_; have BK251 := n1_; have HB := n2_; have BK256 := n3_; have GW256 := n4_; have GE256 := n5_; have NB235_256 := n6_; have NB256_235 := n7_; have NB251_256 := n8_; have NB256_251 := n9_; clear n0_ n1_ n2_ n3_ n4_ n5_ n6_ n7_ n8_ n9_; clear hb hbox hg; have hnb93 := NB256_235.out; have hnc93 := NB235_256.out; have hnb94 := NB256_251.out; have hnc94 := NB251_256.out; obtain ⟨hcz95_0, hcz95_1, hcz95_2⟩ := cz3_ BK256.out; obtain ⟨hfz95_0, hfz95_1, hfz95_2⟩ := fz3_ BK256.out; obtain ⟨hcz96_0, hcz96_1, hcz96_2, hcz96_3⟩ := cz4_ BK235.out; obtain ⟨hfz96_0, hfz96_1, hfz96_2, hfz96_3⟩ := fz4_ BK235.out; obtain ⟨hcz97_0, hcz97_1, hcz97_2, hcz97_3⟩ := cz4_ BK251.out; obtain ⟨hfz97_0, hfz97_1, hfz97_2, hfz97_3⟩ := fz4_ BK251.out) | (go_at_call 77; (with_reducible refine (impl_Plant_place.calls k4 _ _ l0_0 _ _ l0_1 _ _ l0_2 _ _ l0_3 ((rd_T108 l0_3 x111_4).f2) t257 t258 t259 t260 _ ?side1 ?side2 ?side3 ?side4 ?side5 ?side6 ?side7 ?side8 A85.out).mono ?_); (case side1 => exact Kd.C_below HR0_0.out m9_); (case side2 => exact HC0_0.out); (case side3 => exact Kd.C_below HR0_1.out m9_); (case side4 => exact HC0_1.out); (case side5 => exact Kd.C_below HR0_2.out m9_); (case side6 => exact HC0_2.out); (case side7 => exact Kd.C_below HR0_3.out m9_); (case side8 => exact HC0_3.out); rintro e w98 ⟨rfl, hb⟩; have n0_ := Aside0.mk (blk_below (g := gb235) (o := .cells #[.slice A0_0 l0_0.length c0_0, .slice A0_1 l0_1.length c0_1, .slice A0_2 l0_2.length c0_2, .slice (some ad250) l0_3.length c0_3] 34 (0, 0)) m58_ hb); have n1_ := Aside0.mk (blk_below (g := gb251) (o := .cells #[.string ((rd_T108 l0_3 x111_4).f0), .string ((rd_T108 l0_3 x111_4).f1), .string ((rd_T108 l0_3 x111_4).f2), .string ((rd_T108 l0_3 x111_4).f3)] 108 (0, 0)) m59_ hb); have n2_ := Aside0.mk (blk_below (g := gb256) (o := .cells #[.string t252, .int .i64 t253, .string t254] 86 (0, 0)) m38_ hb); have n3_ := Aside0.mk (below_step m9_ hb); clear BK235; clear BK251; clear BK256; clear HB; have BK235 := n0_; have BK251 := n1_; have BK256 := n2_; have HB := n3_; clear n0_ n1_ n2_ n3_; (try clear hb); (try clear hb2); (try clear hk); (try clear hi)) | ((with_reducible refine gate_dst (N := 11) rfl ?_); (try (refine gate_guard (by rfl) ?_; dsimp only)); refine box_event ?hg (N := 11) ?hd (cs := #[.string (⟨#[]⟩ : ByteArray), .int .i64 0, .string (⟨#[]⟩ : ByteArray)]) (t := 86) ?hr ?_; (case hd => rfl); (case hg => rfl); (case hr => first | (go_simp; done) | (go_simp; rfl)); intro gb261 hg w99 hbox hb; have n0_ := Aside0.mk (blk_below (g := gb235) (o := .cells #[.slice A0_0 l0_0.length c0_0, .slice A0_1 l0_1.length c0_1, .slice A0_2 l0_2.length c0_2, .slice (some ad250) l0_3.length c0_3] 34 (0, 0)) m4_ hb); have n1_ := Aside0.mk (blk_below (g := gb251) (o := .cells #[.string ((rd_T108 l0_3 x111_4).f0), .string ((rd_T108 l0_3 x111_4).f1), .string ((rd_T108 l0_3 x111_4).f2), .string ((rd_T108 l0_3 x111_4).f3)] 108 (0, 0)) m27_ hb); have n2_ := Aside0.mk (blk_below (g := gb256) (o := .cells #[.string t252, .int .i64 t253, .string t254] 86 (0, 0)) m67_ hb); have n3_ := Aside0.mk (below_step m9_ hb); have n4_ := Aside0.mk (hbox); have n5_ := Aside0.mk ((by rw [hg]; exact (below_size m9_) : w.heap.size ≤ gb261)); have n6_ := Aside0.mk ((by rw [hg]; exact (below_size m9_) : w.heap.size ≤ gb261)); have n7_ := Aside0.mk ((by rw [hg]; exact Nat.ne_of_lt (blk_lt (g := gb235) (o := .cells #[.slice A0_0 l0_0.length c0_0, .slice A0_1 l0_1.length c0_1, .slice A0_2 l0_2.length c0_2, .slice (some ad250) l0_3.length c0_3] 34 (0, 0)) m4_) : gb235 ≠ gb261)); have n8_ := Aside0.mk ((by rw [hg]; exact Nat.ne_of_gt (blk_lt (g := gb235) (o := .cells #[.slice A0_0 l0_0.length c0_0, .slice A0_1 l0_1.length c0_1, .slice A0_2 l0_2.length c0_2, .slice (some ad250) l0_3.length c0_3] 34 (0, 0)) m4_) : gb261 ≠ gb235)); have n9_ := Aside0.mk ((by rw [hg]; exact Nat.ne_of_lt (blk_lt (g := gb251) (o := .cells #[.string ((rd_T108 l0_3 x111_4).f0), .string ((rd_T108 l0_3 x111_4).f1), .string ((rd_T108 l0_3 x111_4).f2), .string ((rd_T108 l0_3 x111_4).f3)] 108 (0, 0)) m27_) : gb251 ≠ gb261)); have n10_ := Aside0.mk ((by rw [hg]; exact Nat.ne_of_gt (blk_lt (g := gb251) (o := .cells #[.string ((rd_T108 l0_3 x111_4).f0), .string ((rd_T108 l0_3 x111_4).f1), .string ((rd_T108 l0_3 x111_4).f2), .string ((rd_T108 l0_3 x111_4).f3)] 108 (0, 0)) m27_) : gb261 ≠ gb251)); have n11_ := Aside0.mk ((by rw [hg]; exact Nat.ne_of_lt (blk_lt (g := gb256) (o := .cells #[.string t252, .int .i64 t253, .string t254] 86 (0, 0)) m67_) : gb256 ≠ gb261)); have n12_ := Aside0.mk ((by rw [hg]; exact Nat.ne_of_gt (blk_lt (g := gb256) (o := .cells #[.string t252, .int .i64 t253, .string t254] 86 (0, 0)) m67_) : gb261 ≠ gb256)); clear BK235; clear BK251; clear BK256; clear HB; have BK235 := n0_; have BK251 := n1_; have BK256 := n2_; have HB := n3_; have BK261 := n4_; have GW261 := n5_; have GE261 := n6_; have NB235_261 := n7_; have NB261_235 := n8_; have NB251_261 := n9_; have NB261_251 := n10_; have NB256_261 := n11_; have NB261_256 := n12_; clear n0_ n1_ n2_ n3_ n4_ n5_ n6_ n7_ n8_ n9_ n10_ n11_ n12_; clear hb hbox hg; have hnb100 := NB261_235.out; have hnc100 := NB235_261.out; have hnb101 := NB261_251.out; have hnc101 := NB251_261.out; have hnb102 := NB261_256.out; have hnc102 := NB256_261.out; obtain ⟨hcz103_0, hcz103_1, hcz103_2⟩ := cz3_ BK261.out; obtain ⟨hfz103_0, hfz103_1, hfz103_2⟩ := fz3_ BK261.out)))
               (try simp only [Act.put, List.setIfInBounds_toArray, List.set_cons_zero, List.set_cons_succ])
               go_cut [170] (fun v170 wc => ∃ (kq : Nat) (x170_85 : Bool), v170 = .bool x170_85 ∧ Aside0 (impl_PlantValid.j5 kq l0_3 (l0_3.length : Int) x111_4 x170_85 l0_0 l0_1 l0_2 l0_3 = some r) ∧ Aside0 (kq ≤ k4) ∧ Aside0 (wc.heap[gb235]? = some (.cells #[(.slice A0_0 l0_0.length c0_0), (.slice A0_1 l0_1.length c0_1), (.slice A0_2 l0_2.length c0_2), (.slice (some ad250) l0_3.length c0_3)] 34 (0, 0))) ∧ Aside0 (wc.heap[gb251]? = some (.cells #[.string ((rd_T108 l0_3 x111_4).f0), .string ((rd_T108 l0_3 x111_4).f1), .string ((rd_T108 l0_3 x111_4).f2), .string ((rd_T108 l0_3 x111_4).f3)] 108 (0, 0))) ∧ Aside0 (wc.heap[gb256]? = some (.cells #[.string t252, .int .i64 t253, .string t254] 86 (0, 0))) ∧ Aside0 (wc.heap[gb261]? = some (.cells #[.string t257, .int .i64 t258, .string t259] 86 (0, 0))) ∧ Aside0 (Below w.heap.size w wc))
               case first =>
                have H := HC86.out
                clear HC86
                replace H := Option.bind_eq_some_iff.mp H
                obtain ⟨t262, A1040, H⟩ := H
                replace H : (if t262 = true then (if t255 = true then (if t260 = true then (if ((Op.bytesLess (((rd_T108 l0_3 x111_4).f1).toList) (((rd_T108 l0_3 x111_4).f2).toList)) = true) then ((impl_isName.f k4 ((rd_T108 l0_3 x111_4).f3)).bind fun t263 => (if t263 = true then (if x111_4 > 0 then (if 0 ≤ (wrap64 (x111_4 - 1)) then (if (wrap64 (x111_4 - 1)) < (l0_3.length : Int) then (impl_PlantValid.j5 k4 l0_3 (l0_3.length : Int) x111_4 (!(Op.bytesLess (((rd_T108 l0_3 (wrap64 (x111_4 - 1))).f0).toList) (((rd_T108 l0_3 x111_4).f0).toList))) l0_0 l0_1 l0_2 l0_3) else (none)) else (none)) else (impl_PlantValid.j5 k4 l0_3 (l0_3.length : Int) x111_4 false l0_0 l0_1 l0_2 l0_3)) else (impl_PlantValid.j5 k4 l0_3 (l0_3.length : Int) x111_4 true l0_0 l0_1 l0_2 l0_3))) else (impl_PlantValid.j5 k4 l0_3 (l0_3.length : Int) x111_4 true l0_0 l0_1 l0_2 l0_3)) else (impl_PlantValid.j5 k4 l0_3 (l0_3.length : Int) x111_4 true l0_0 l0_1 l0_2 l0_3)) else (impl_PlantValid.j5 k4 l0_3 (l0_3.length : Int) x111_4 true l0_0 l0_1 l0_2 l0_3)) else (impl_PlantValid.j5 k4 l0_3 (l0_3.length : Int) x111_4 true l0_0 l0_1 l0_2 l0_3)) = some r := H
                have A104 := Aside0.mk A1040
                clear A1040
                refine (Classical.em (t262 = true)).elim (fun c105 => ?yes24) (fun c105 => ?no24)
                case' yes24 =>
                 subst c105
                 have H1 : (if t255 = true then (if t260 = true then (if ((Op.bytesLess (((rd_T108 l0_3 x111_4).f1).toList) (((rd_T108 l0_3 x111_4).f2).toList)) = true) then ((impl_isName.f k4 ((rd_T108 l0_3 x111_4).f3)).bind fun t263 => (if t263 = true then (if x111_4 > 0 then (if 0 ≤ (wrap64 (x111_4 - 1)) then (if (wrap64 (x111_4 - 1)) < (l0_3.length : Int) then (impl_PlantValid.j5 k4 l0_3 (l0_3.length : Int) x111_4 (!(Op.bytesLess (((rd_T108 l0_3 (wrap64 (x111_4 - 1))).f0).toList) (((rd_T108 l0_3 x111_4).f0).toList))) l0_0 l0_1 l0_2 l0_3) else (none)) else (none)) else (impl_PlantValid.j5 k4 l0_3 (l0_3.length : Int) x111_4 false l0_0 l0_1 l0_2 l0_3)) else (impl_PlantValid.j5 k4 l0_3 (l0_3.length : Int) x111_4 true l0_0 l0_1 l0_2 l0_3))) else (impl_PlantValid.j5 k4 l0_3 (l0_3.length : Int) x111_4 true l0_0 l0_1 l0_2 l0_3)) else (impl_PlantValid.j5 k4 l0_3 (l0_3.length : Int) x111_4 true l0_0 l0_1 l0_2 l0_3)) else (impl_PlantValid.j5 k4 l0_3 (l0_3.length : Int) x111_4 true l0_0 l0_1 l0_2 l0_3)) = some r := by rw [if_pos rfl] at H; exact H
                 clear H
                 have H := H1
                 clear H1
                 refine (Classical.em (t255 = true)).elim (fun c106 => ?yes25) (fun c106 => ?no25)
                 case' yes25 =>
                  subst c106
                  have H1 : (if t260 = true then (if ((Op.bytesLess (((rd_T108 l0_3 x111_4).f1).toList) (((rd_T108 l0_3 x111_4).f2).toList)) = true) then ((impl_isName.f k4 ((rd_T108 l0_3 x111_4).f3)).bind fun t263 => (if t263 = true then (if x111_4 > 0 then (if 0 ≤ (wrap64 (x111_4 - 1)) then (if (wrap64 (x111_4 - 1)) < (l0_3.length : Int) then (impl_PlantValid.j5 k4 l0_3 (l0_3.length : Int) x111_4 (!(Op.bytesLess (((rd_T108 l0_3 (wrap64 (x111_4 - 1))).f0).toList) (((rd_T108 l0_3 x111_4).f0).toList))) l0_0 l0_1 l0_2 l0_3) else (none)) else (none)) else (impl_PlantValid.j5 k4 l0_3 (l0_3.length : Int) x111_4 false l0_0 l0_1 l0_2 l0_3)) else (impl_PlantValid.j5 k4 l0_3 (l0_3.length : Int) x111_4 true l0_0 l0_1 l0_2 l0_3))) else (impl_PlantValid.j5 k4 l0_3 (l0_3.length : Int) x111_4 true l0_0 l0_1 l0_2 l0_3)) else (impl_PlantValid.j5 k4 l0_3 (l0_3.length : Int) x111_4 true l0_0 l0_1 l0_2 l0_3)) = some r := by rw [if_pos rfl] at H; exact H
                  clear H
                  have H := H1
                  clear H1
                  refine (Classical.em (t260 = true)).elim (fun c107 => ?yes26) (fun c107 => ?no26)
                  case' yes26 =>
                   subst c107
                   have H1 : (if ((Op.bytesLess (((rd_T108 l0_3 x111_4).f1).toList) (((rd_T108 l0_3 x111_4).f2).toList)) = true) then ((impl_isName.f k4 ((rd_T108 l0_3 x111_4).f3)).bind fun t263 => (if t263 = true then (if x111_4 > 0 then (if 0 ≤ (wrap64 (x111_4 - 1)) then (if (wrap64 (x111_4 - 1)) < (l0_3.length : Int) then (impl_PlantValid.j5 k4 l0_3 (l0_3.length : Int) x111_4 (!(Op.bytesLess (((rd_T108 l0_3 (wrap64 (x111_4 - 1))).f0).toList) (((rd_T108 l0_3 x111_4).f0).toList))) l0_0 l0_1 l0_2 l0_3) else (none)) else (none)) else (impl_PlantValid.j5 k4 l0_3 (l0_3.length : Int) x111_4 false l0_0 l0_1 l0_2 l0_3)) else (impl_PlantValid.j5 k4 l0_3 (l0_3.length : Int) x111_4 true l0_0 l0_1 l0_2 l0_3))) else (impl_PlantValid.j5 k4 l0_3 (l0_3.length : Int) x111_4 true l0_0 l0_1 l0_2 l0_3)) = some r := by rw [if_pos rfl] at H; exact H
                   clear H
                   have H := H1
                   clear H1
                   refine (Classical.em (((Op.bytesLess (((rd_T108 l0_3 x111_4).f1).toList) (((rd_T108 l0_3 x111_4).f2).toList)) = true))).elim (fun c108 => ?yes27) (fun c108 => ?no27)
                   case' yes27 =>
                    rw [if_pos c108] at H
                    have c108b0 : (Op.bytesLess (((rd_T108 l0_3 x111_4).f1).toList) (((rd_T108 l0_3 x111_4).f2).toList)) = true := c108
                    clear c108
                    (first | rw [c108b0] | (simp only [i64_w, i32_w]; rw [c108b0]) | skip)
                    replace H := Option.bind_eq_some_iff.mp H
                    obtain ⟨t263, A1090, H⟩ := H
                    replace H : (if t263 = true then (if x111_4 > 0 then (if 0 ≤ (wrap64 (x111_4 - 1)) then (if (wrap64 (x111_4 - 1)) < (l0_3.length : Int) then (impl_PlantValid.j5 k4 l0_3 (l0_3.length : Int) x111_4 (!(Op.bytesLess (((rd_T108 l0_3 (wrap64 (x111_4 - 1))).f0).toList) (((rd_T108 l0_3 x111_4).f0).toList))) l0_0 l0_1 l0_2 l0_3) else (none)) else (none)) else (impl_PlantValid.j5 k4 l0_3 (l0_3.length : Int) x111_4 false l0_0 l0_1 l0_2 l0_3)) else (impl_PlantValid.j5 k4 l0_3 (l0_3.length : Int) x111_4 true l0_0 l0_1 l0_2 l0_3)) = some r := H
                    have A109 := Aside0.mk A1090
                    clear A1090
                    refine (Classical.em (t263 = true)).elim (fun c110 => ?yes28) (fun c110 => ?no28)
                    case' yes28 =>
                     subst c110
                     have H1 : (if x111_4 > 0 then (if 0 ≤ (wrap64 (x111_4 - 1)) then (if (wrap64 (x111_4 - 1)) < (l0_3.length : Int) then (impl_PlantValid.j5 k4 l0_3 (l0_3.length : Int) x111_4 (!(Op.bytesLess (((rd_T108 l0_3 (wrap64 (x111_4 - 1))).f0).toList) (((rd_T108 l0_3 x111_4).f0).toList))) l0_0 l0_1 l0_2 l0_3) else (none)) else (none)) else (impl_PlantValid.j5 k4 l0_3 (l0_3.length : Int) x111_4 false l0_0 l0_1 l0_2 l0_3)) = some r := by rw [if_pos rfl] at H; exact H
                     clear H
                     have H := H1
                     clear H1
                     refine (Classical.em (x111_4 > 0)).elim (fun c111 => ?yes29) (fun c111 => ?no29)
                     case' yes29 =>
                      rw [if_pos c111] at H
                      have c111b0 : decide (0 < x111_4) = true := decide_eq_true c111
                      clear c111
                      obtain ⟨ji112, hji112⟩ : ∃ j_ : Int, (wrap64 (x111_4 - 1)) = j_ := ⟨_, rfl⟩
                      replace H : (if 0 ≤ (ji112) then (if (ji112) < (l0_3.length : Int) then (impl_PlantValid.j5 k4 l0_3 (l0_3.length : Int) x111_4 (!(Op.bytesLess (((rd_T108 l0_3 (ji112)).f0).toList) (((rd_T108 l0_3 x111_4).f0).toList))) l0_0 l0_1 l0_2 l0_3) else (none)) else (none)) = some r := by first | (rw [hji112] at H; exact H) | (simp only [hji112] at H ⊢; exact H)
                      (try rw [hji112] at A104)
                      (try rw [hji112] at A109)
                      have hji112w : (IntKind.i64.wrap (x111_4 - 1)) = ji112 := (i64_w _).trans hji112
                      refine (Classical.em (0 ≤ (ji112))).elim (fun c113 => ?yes30) (fun c113 => ?no30)
                      case' yes30 =>
                       rw [if_pos c113] at H
                       have c113b0 : decide (0 ≤ (ji112)) = true := decide_eq_true c113
                       clear c113
                       refine (Classical.em ((ji112) < (l0_3.length : Int))).elim (fun c114 => ?yes31) (fun c114 => ?no31)
                       case' yes31 =>
                        rw [if_pos c114] at H
                        have c114b0 : decide ((ji112) < (l0_3.length : Int)) = true := decide_eq_true c114
                        clear c114
                        have H' := Aside0.mk H
                        clear H
                       case' no31 =>
                        rw [if_neg c114] at H
                        exact absurd H (by simp)
                      case' no30 =>
                       rw [if_neg c113] at H
                       exact absurd H (by simp)
                     case' no29 =>
                      rw [if_neg c111] at H
                      have c111b0 : decide (0 < x111_4) = false := decide_eq_false c111
                      clear c111
                      have H' := Aside0.mk H
                      clear H
                    case' no28 =>
                     replace c110 := Bool.eq_false_iff.mpr c110
                     subst c110
                     have H1 : (impl_PlantValid.j5 k4 l0_3 (l0_3.length : Int) x111_4 true l0_0 l0_1 l0_2 l0_3) = some r := by rw [if_neg (show ¬ (false = true) by decide)] at H; exact H
                     clear H
                     have H := H1
                     clear H1
                     have H' := Aside0.mk H
                     clear H
                   case' no27 =>
                    rw [if_neg c108] at H
                    have c108b0 : (Op.bytesLess (((rd_T108 l0_3 x111_4).f1).toList) (((rd_T108 l0_3 x111_4).f2).toList)) = false := by simpa using c108
                    clear c108
                    (first | rw [c108b0] | (simp only [i64_w, i32_w]; rw [c108b0]) | skip)
                    have H' := Aside0.mk H
                    clear H
                  case' no26 =>
                   replace c107 := Bool.eq_false_iff.mpr c107
                   subst c107
                   have H1 : (impl_PlantValid.j5 k4 l0_3 (l0_3.length : Int) x111_4 true l0_0 l0_1 l0_2 l0_3) = some r := by rw [if_neg (show ¬ (false = true) by decide)] at H; exact H
                   clear H
                   have H := H1
                   clear H1
                   have H' := Aside0.mk H
                   clear H
                 case' no25 =>
                  replace c106 := Bool.eq_false_iff.mpr c106
                  subst c106
                  have H1 : (impl_PlantValid.j5 k4 l0_3 (l0_3.length : Int) x111_4 true l0_0 l0_1 l0_2 l0_3) = some r := by rw [if_neg (show ¬ (false = true) by decide)] at H; exact H
                  clear H
                  have H := H1
                  clear H1
                  have H' := Aside0.mk H
                  clear H
                case' no24 =>
                 replace c105 := Bool.eq_false_iff.mpr c105
                 subst c105
                 have H1 : (impl_PlantValid.j5 k4 l0_3 (l0_3.length : Int) x111_4 true l0_0 l0_1 l0_2 l0_3) = some r := by rw [if_neg (show ¬ (false = true) by decide)] at H; exact H
                 clear H
                 have H := H1
                 clear H1
                 have H' := Aside0.mk H
                 clear H
                all_goals
                 first
                  | (
                   have hnb115 := NB251_235.out
                   have hnc115 := NB235_251.out
                   have hnb116 := NB251_256.out
                   have hnc116 := NB256_251.out
                   have hnb117 := NB251_261.out
                   have hnc117 := NB261_251.out
                   obtain ⟨hcz118_0, hcz118_1, hcz118_2, hcz118_3⟩ := cz4_ BK251.out
                   obtain ⟨hfz118_0, hfz118_1, hfz118_2, hfz118_3⟩ := fz4_ BK251.out
                   go_wp2_with (first | (go_at_call 76; (with_reducible refine (impl_isName.calls k4 ((rd_T108 l0_3 x111_4).f0) _ _ (Aside0.out (by assumption))).mono ?_); rintro e w' ⟨rfl, ⟨nd, rfl⟩⟩; (try exact m2_)) | (go_at_call 76; (with_reducible refine (impl_isName.calls k4 ((rd_T108 l0_3 x111_4).f3) _ _ (Aside0.out (by assumption))).mono ?_); rintro e w' ⟨rfl, ⟨nd, rfl⟩⟩; (try exact m2_); have hnb119 := NB235_256.out; have hnc119 := NB256_235.out; have hnb120 := NB235_261.out; have hnc120 := NB261_235.out; obtain ⟨hcz121_0, hcz121_1, hcz121_2, hcz121_3⟩ := cz4_ BK235.out; obtain ⟨hfz121_0, hfz121_1, hfz121_2, hfz121_3⟩ := fz4_ BK235.out; have p264 : 0 ≤ ((ji112) : Int) := of_decide_eq_true m5_; have q264 : (ji112) < (l0_3.length : Int) := of_decide_eq_true m5_; obtain ⟨ad264, e264, hx264_0, hx264_1, hx264_2, hx264_3⟩ := at_T108 HR0_3.out (ji112) p264 q264; obtain rfl : ad250 = ad264 := (by injection e264); have hn264_0 : ad250.block ≠ gb261 := Nat.ne_of_lt (Nat.lt_of_lt_of_le m76_ GW261.out); have hn264_1 : ad250.block ≠ gb261 := Nat.ne_of_lt (Nat.lt_of_lt_of_le m76_ GW261.out); have hn264_2 : ad250.block ≠ gb261 := Nat.ne_of_lt (Nat.lt_of_lt_of_le m76_ GW261.out); replace hx264_0 := (HB.out.cell (World.block_lt_of_cell? w _ hx264_0)).trans hx264_0; replace hx264_1 := (HB.out.cell (World.block_lt_of_cell? w _ hx264_1)).trans hx264_1; replace hx264_2 := (HB.out.cell (World.block_lt_of_cell? w _ hx264_2)).trans hx264_2; replace hx264_3 := (HB.out.cell (World.block_lt_of_cell? w _ hx264_3)).trans hx264_3; replace hx264_0 := (cell_far (p := ⟨gb261, 0, none⟩) m43_ (.string t257)).trans hx264_0; replace hx264_1 := (cell_far (p := ⟨gb261, 0, none⟩) m43_ (.string t257)).trans hx264_1; replace hx264_2 := (cell_far (p := ⟨gb261, 0, none⟩) m43_ (.string t257)).trans hx264_2; replace hx264_3 := (cell_far (p := ⟨gb261, 0, none⟩) m43_ (.string t257)).trans hx264_3; replace hx264_0 := (cell_far (p := ⟨gb261, 1, none⟩) m44_ (.int .i64 t258)).trans hx264_0; replace hx264_1 := (cell_far (p := ⟨gb261, 1, none⟩) m44_ (.int .i64 t258)).trans hx264_1; replace hx264_2 := (cell_far (p := ⟨gb261, 1, none⟩) m44_ (.int .i64 t258)).trans hx264_2; replace hx264_3 := (cell_far (p := ⟨gb261, 1, none⟩) m44_ (.int .i64 t258)).trans hx264_3; replace hx264_0 := (cell_far (p := ⟨gb261, 2, none⟩) m45_ (.string t259)).trans hx264_0; replace hx264_1 := (cell_far (p := ⟨gb261, 2, none⟩) m45_ (.string t259)).trans hx264_1; replace hx264_2 := (cell_far (p := ⟨gb261, 2, none⟩) m45_ (.string t259)).trans hx264_2; replace hx264_3 := (cell_far (p := ⟨gb261, 2, none⟩) m45_ (.string t259)).trans hx264_3; (try have hy264_0 := fun (n_ : Nat) => (show (((((w99.drewN n_).setCell ⟨gb261, 0, none⟩ (.string t257)).setCell ⟨gb261, 1, none⟩ (.int .i64 t258)).setCell ⟨gb261, 2, none⟩ (.string t259))).cell? _ = some _ from hx264_0)); (try have hy264_1 := fun (n_ : Nat) => (show (((((w99.drewN n_).setCell ⟨gb261, 0, none⟩ (.string t257)).setCell ⟨gb261, 1, none⟩ (.int .i64 t258)).setCell ⟨gb261, 2, none⟩ (.string t259))).cell? _ = some _ from hx264_1)); (try have hy264_2 := fun (n_ : Nat) => (show (((((w99.drewN n_).setCell ⟨gb261, 0, none⟩ (.string t257)).setCell ⟨gb261, 1, none⟩ (.int .i64 t258)).setCell ⟨gb261, 2, none⟩ (.string t259))).cell? _ = some _ from hx264_2)); (try have hy264_3 := fun (n_ : Nat) => (show (((((w99.drewN n_).setCell ⟨gb261, 0, none⟩ (.string t257)).setCell ⟨gb261, 1, none⟩ (.int .i64 t258)).setCell ⟨gb261, 2, none⟩ (.string t259))).cell? _ = some _ from hx264_3)); clear hn264_0; clear hn264_1; clear hn264_2; replace p264 := eq_true p264; replace q264 := eq_true q264))
                   repeat (go_quiet (first | (go_at_call 76; (with_reducible refine (impl_isName.calls k4 ((rd_T108 l0_3 x111_4).f0) _ _ (Aside0.out (by assumption))).mono ?_); rintro e w' ⟨rfl, ⟨nd, rfl⟩⟩; (try exact m2_)) | (go_at_call 76; (with_reducible refine (impl_isName.calls k4 ((rd_T108 l0_3 x111_4).f3) _ _ (Aside0.out (by assumption))).mono ?_); rintro e w' ⟨rfl, ⟨nd, rfl⟩⟩; (try exact m2_); have hnb119 := NB235_256.out; have hnc119 := NB256_235.out; have hnb120 := NB235_261.out; have hnc120 := NB261_235.out; obtain ⟨hcz121_0, hcz121_1, hcz121_2, hcz121_3⟩ := cz4_ BK235.out; obtain ⟨hfz121_0, hfz121_1, hfz121_2, hfz121_3⟩ := fz4_ BK235.out; have p264 : 0 ≤ ((ji112) : Int) := of_decide_eq_true m5_; have q264 : (ji112) < (l0_3.length : Int) := of_decide_eq_true m5_; obtain ⟨ad264, e264, hx264_0, hx264_1, hx264_2, hx264_3⟩ := at_T108 HR0_3.out (ji112) p264 q264; obtain rfl : ad250 = ad264 := (by injection e264); have hn264_0 : ad250.block ≠ gb261 := Nat.ne_of_lt (Nat.lt_of_lt_of_le m76_ GW261.out); have hn264_1 : ad250.block ≠ gb261 := Nat.ne_of_lt (Nat.lt_of_lt_of_le m76_ GW261.out); have hn264_2 : ad250.block ≠ gb261 := Nat.ne_of_lt (Nat.lt_of_lt_of_le m76_ GW261.out); replace hx264_0 := (HB.out.cell (World.block_lt_of_cell? w _ hx264_0)).trans hx264_0; replace hx264_1 := (HB.out.cell (World.block_lt_of_cell? w _ hx264_1)).trans hx264_1; replace hx264_2 := (HB.out.cell (World.block_lt_of_cell? w _ hx264_2)).trans hx264_2; replace hx264_3 := (HB.out.cell (World.block_lt_of_cell? w _ hx264_3)).trans hx264_3; replace hx264_0 := (cell_far (p := ⟨gb261, 0, none⟩) m43_ (.string t257)).trans hx264_0; replace hx264_1 := (cell_far (p := ⟨gb261, 0, none⟩) m43_ (.string t257)).trans hx264_1; replace hx264_2 := (cell_far (p := ⟨gb261, 0, none⟩) m43_ (.string t257)).trans hx264_2; replace hx264_3 := (cell_far (p := ⟨gb261, 0, none⟩) m43_ (.string t257)).trans hx264_3; replace hx264_0 := (cell_far (p := ⟨gb261, 1, none⟩) m44_ (.int .i64 t258)).trans hx264_0; replace hx264_1 := (cell_far (p := ⟨gb261, 1, none⟩) m44_ (.int .i64 t258)).trans hx264_1; replace hx264_2 := (cell_far (p := ⟨gb261, 1, none⟩) m44_ (.int .i64 t258)).trans hx264_2; replace hx264_3 := (cell_far (p := ⟨gb261, 1, none⟩) m44_ (.int .i64 t258)).trans hx264_3; replace hx264_0 := (cell_far (p := ⟨gb261, 2, none⟩) m45_ (.string t259)).trans hx264_0; replace hx264_1 := (cell_far (p := ⟨gb261, 2, none⟩) m45_ (.string t259)).trans hx264_1; replace hx264_2 := (cell_far (p := ⟨gb261, 2, none⟩) m45_ (.string t259)).trans hx264_2; replace hx264_3 := (cell_far (p := ⟨gb261, 2, none⟩) m45_ (.string t259)).trans hx264_3; (try have hy264_0 := fun (n_ : Nat) => (show (((((w99.drewN n_).setCell ⟨gb261, 0, none⟩ (.string t257)).setCell ⟨gb261, 1, none⟩ (.int .i64 t258)).setCell ⟨gb261, 2, none⟩ (.string t259))).cell? _ = some _ from hx264_0)); (try have hy264_1 := fun (n_ : Nat) => (show (((((w99.drewN n_).setCell ⟨gb261, 0, none⟩ (.string t257)).setCell ⟨gb261, 1, none⟩ (.int .i64 t258)).setCell ⟨gb261, 2, none⟩ (.string t259))).cell? _ = some _ from hx264_1)); (try have hy264_2 := fun (n_ : Nat) => (show (((((w99.drewN n_).setCell ⟨gb261, 0, none⟩ (.string t257)).setCell ⟨gb261, 1, none⟩ (.int .i64 t258)).setCell ⟨gb261, 2, none⟩ (.string t259))).cell? _ = some _ from hx264_2)); (try have hy264_3 := fun (n_ : Nat) => (show (((((w99.drewN n_).setCell ⟨gb261, 0, none⟩ (.string t257)).setCell ⟨gb261, 1, none⟩ (.int .i64 t258)).setCell ⟨gb261, 2, none⟩ (.string t259))).cell? _ = some _ from hx264_3)); clear hn264_0; clear hn264_1; clear hn264_2; replace p264 := eq_true p264; replace q264 := eq_true q264)); try go_wp2_with (first | (go_at_call 76; (with_reducible refine (impl_isName.calls k4 ((rd_T108 l0_3 x111_4).f0) _ _ (Aside0.out (by assumption))).mono ?_); rintro e w' ⟨rfl, ⟨nd, rfl⟩⟩; (try exact m2_)) | (go_at_call 76; (with_reducible refine (impl_isName.calls k4 ((rd_T108 l0_3 x111_4).f3) _ _ (Aside0.out (by assumption))).mono ?_); rintro e w' ⟨rfl, ⟨nd, rfl⟩⟩; (try exact m2_); have hnb119 := NB235_256.out; have hnc119 := NB256_235.out; have hnb120 := NB235_261.out; have hnc120 := NB261_235.out; obtain ⟨hcz121_0, hcz121_1, hcz121_2, hcz121_3⟩ := cz4_ BK235.out; obtain ⟨hfz121_0, hfz121_1, hfz121_2, hfz121_3⟩ := fz4_ BK235.out; have p264 : 0 ≤ ((ji112) : Int) := of_decide_eq_true m5_; have q264 : (ji112) < (l0_3.length : Int) := of_decide_eq_true m5_; obtain ⟨ad264, e264, hx264_0, hx264_1, hx264_2, hx264_3⟩ := at_T108 HR0_3.out (ji112) p264 q264; obtain rfl : ad250 = ad264 := (by injection e264); have hn264_0 : ad250.block ≠ gb261 := Nat.ne_of_lt (Nat.lt_of_lt_of_le m76_ GW261.out); have hn264_1 : ad250.block ≠ gb261 := Nat.ne_of_lt (Nat.lt_of_lt_of_le m76_ GW261.out); have hn264_2 : ad250.block ≠ gb261 := Nat.ne_of_lt (Nat.lt_of_lt_of_le m76_ GW261.out); replace hx264_0 := (HB.out.cell (World.block_lt_of_cell? w _ hx264_0)).trans hx264_0; replace hx264_1 := (HB.out.cell (World.block_lt_of_cell? w _ hx264_1)).trans hx264_1; replace hx264_2 := (HB.out.cell (World.block_lt_of_cell? w _ hx264_2)).trans hx264_2; replace hx264_3 := (HB.out.cell (World.block_lt_of_cell? w _ hx264_3)).trans hx264_3; replace hx264_0 := (cell_far (p := ⟨gb261, 0, none⟩) m43_ (.string t257)).trans hx264_0; replace hx264_1 := (cell_far (p := ⟨gb261, 0, none⟩) m43_ (.string t257)).trans hx264_1; replace hx264_2 := (cell_far (p := ⟨gb261, 0, none⟩) m43_ (.string t257)).trans hx264_2; replace hx264_3 := (cell_far (p := ⟨gb261, 0, none⟩) m43_ (.string t257)).trans hx264_3; replace hx264_0 := (cell_far (p := ⟨gb261, 1, none⟩) m44_ (.int .i64 t258)).trans hx264_0; replace hx264_1 := (cell_far (p := ⟨gb261, 1, none⟩) m44_ (.int .i64 t258)).trans hx264_1; replace hx264_2 := (cell_far (p := ⟨gb261, 1, none⟩) m44_ (.int .i64 t258)).trans hx264_2; replace hx264_3 := (cell_far (p := ⟨gb261, 1, none⟩) m44_ (.int .i64 t258)).trans hx264_3; replace hx264_0 := (cell_far (p := ⟨gb261, 2, none⟩) m45_ (.string t259)).trans hx264_0; replace hx264_1 := (cell_far (p := ⟨gb261, 2, none⟩) m45_ (.string t259)).trans hx264_1; replace hx264_2 := (cell_far (p := ⟨gb261, 2, none⟩) m45_ (.string t259)).trans hx264_2; replace hx264_3 := (cell_far (p := ⟨gb261, 2, none⟩) m45_ (.string t259)).trans hx264_3; (try have hy264_0 := fun (n_ : Nat) => (show (((((w99.drewN n_).setCell ⟨gb261, 0, none⟩ (.string t257)).setCell ⟨gb261, 1, none⟩ (.int .i64 t258)).setCell ⟨gb261, 2, none⟩ (.string t259))).cell? _ = some _ from hx264_0)); (try have hy264_1 := fun (n_ : Nat) => (show (((((w99.drewN n_).setCell ⟨gb261, 0, none⟩ (.string t257)).setCell ⟨gb261, 1, none⟩ (.int .i64 t258)).setCell ⟨gb261, 2, none⟩ (.string t259))).cell? _ = some _ from hx264_1)); (try have hy264_2 := fun (n_ : Nat) => (show (((((w99.drewN n_).setCell ⟨gb261, 0, none⟩ (.string t257)).setCell ⟨gb261, 1, none⟩ (.int .i64 t258)).setCell ⟨gb261, 2, none⟩ (.string t259))).cell? _ = some _ from hx264_2)); (try have hy264_3 := fun (n_ : Nat) => (show (((((w99.drewN n_).setCell ⟨gb261, 0, none⟩ (.string t257)).setCell ⟨gb261, 1, none⟩ (.int .i64 t258)).setCell ⟨gb261, 2, none⟩ (.string t259))).cell? _ = some _ from hx264_3)); clear hn264_0; clear hn264_1; clear hn264_2; replace p264 := eq_true p264; replace q264 := eq_true q264)))
                   go_meet
                   case rel => exact ⟨_, _, (by first | rfl | (simp; done) | (simp only [← hji112] <;> (first | rfl | simp)) | (simp [*]; done)), H', ⟨(by have := HJ1.out; have := HK2.out; have := HK3.out; have := HK4.out; first | omega | exact Nat.le_refl _)⟩, ⟨m60_⟩, ⟨m61_⟩, ⟨m62_⟩, ⟨m39_⟩, ⟨m63_⟩⟩)
                  | (
                   have hnb122 := NB251_235.out
                   have hnc122 := NB235_251.out
                   have hnb123 := NB251_256.out
                   have hnc123 := NB256_251.out
                   have hnb124 := NB251_261.out
                   have hnc124 := NB261_251.out
                   obtain ⟨hcz125_0, hcz125_1, hcz125_2, hcz125_3⟩ := cz4_ BK251.out
                   obtain ⟨hfz125_0, hfz125_1, hfz125_2, hfz125_3⟩ := fz4_ BK251.out
                   go_wp2_with (first | (go_at_call 76; (with_reducible refine (impl_isName.calls k4 ((rd_T108 l0_3 x111_4).f0) _ _ (Aside0.out (by assumption))).mono ?_); rintro e w' ⟨rfl, ⟨nd, rfl⟩⟩; (try exact m2_)) | (go_at_call 76; (with_reducible refine (impl_isName.calls k4 ((rd_T108 l0_3 x111_4).f3) _ _ (Aside0.out (by assumption))).mono ?_); rintro e w' ⟨rfl, ⟨nd, rfl⟩⟩; (try exact m2_)))
                   repeat (go_quiet (first | (go_at_call 76; (with_reducible refine (impl_isName.calls k4 ((rd_T108 l0_3 x111_4).f0) _ _ (Aside0.out (by assumption))).mono ?_); rintro e w' ⟨rfl, ⟨nd, rfl⟩⟩; (try exact m2_)) | (go_at_call 76; (with_reducible refine (impl_isName.calls k4 ((rd_T108 l0_3 x111_4).f3) _ _ (Aside0.out (by assumption))).mono ?_); rintro e w' ⟨rfl, ⟨nd, rfl⟩⟩; (try exact m2_))); try go_wp2_with (first | (go_at_call 76; (with_reducible refine (impl_isName.calls k4 ((rd_T108 l0_3 x111_4).f0) _ _ (Aside0.out (by assumption))).mono ?_); rintro e w' ⟨rfl, ⟨nd, rfl⟩⟩; (try exact m2_)) | (go_at_call 76; (with_reducible refine (impl_isName.calls k4 ((rd_T108 l0_3 x111_4).f3) _ _ (Aside0.out (by assumption))).mono ?_); rintro e w' ⟨rfl, ⟨nd, rfl⟩⟩; (try exact m2_))))
                   go_meet
                   case rel => exact ⟨_, _, m8_, H', ⟨(by have := HJ1.out; have := HK2.out; have := HK3.out; have := HK4.out; first | omega | exact Nat.le_refl _)⟩, ⟨m60_⟩, ⟨m61_⟩, ⟨m62_⟩, ⟨m39_⟩, ⟨m63_⟩⟩)
                  | (
                   have hnb130 := NB251_235.out
                   have hnc130 := NB235_251.out
                   have hnb131 := NB251_256.out
                   have hnc131 := NB256_251.out
                   have hnb132 := NB251_261.out
                   have hnc132 := NB261_251.out
                   obtain ⟨hcz133_0, hcz133_1, hcz133_2, hcz133_3⟩ := cz4_ BK251.out
                   obtain ⟨hfz133_0, hfz133_1, hfz133_2, hfz133_3⟩ := fz4_ BK251.out
                   go_wp2_with (first | (go_at_call 76; (with_reducible refine (impl_isName.calls k4 ((rd_T108 l0_3 x111_4).f0) _ _ (Aside0.out (by assumption))).mono ?_); rintro e w' ⟨rfl, ⟨nd, rfl⟩⟩; (try exact m2_)))
                   repeat (go_quiet (first | (go_at_call 76; (with_reducible refine (impl_isName.calls k4 ((rd_T108 l0_3 x111_4).f0) _ _ (Aside0.out (by assumption))).mono ?_); rintro e w' ⟨rfl, ⟨nd, rfl⟩⟩; (try exact m2_))); try go_wp2_with (first | (go_at_call 76; (with_reducible refine (impl_isName.calls k4 ((rd_T108 l0_3 x111_4).f0) _ _ (Aside0.out (by assumption))).mono ?_); rintro e w' ⟨rfl, ⟨nd, rfl⟩⟩; (try exact m2_))))
                   go_meet
                   case rel => exact ⟨_, _, m8_, H', ⟨(by have := HJ1.out; have := HK2.out; have := HK3.out; have := HK4.out; first | omega | exact Nat.le_refl _)⟩, ⟨m60_⟩, ⟨m61_⟩, ⟨m62_⟩, ⟨m39_⟩, ⟨m63_⟩⟩)
               case rest =>
                clear HC86
                try clear c1
                try clear c2
                try clear p2
                try clear q2
                try clear hx2
                try clear c3
                try clear c4
                try clear c4b0
                try clear c4b1
                try clear c5
                try clear c6
                try clear p6
                try clear c7
                try clear c8
                try clear c9
                try clear c10
                try clear c11
                try clear c11b0
                try clear c11b1
                try clear c12
                try clear c13
                try clear c14
                try clear c17
                try clear p24
                try clear q24
                try clear hx24
                try clear p25
                try clear q25
                try clear hx25
                try clear p26
                try clear q26
                try clear hx26
                try clear c27
                try clear c29
                try clear c29b0
                try clear c30
                try clear c30b0
                try clear c31
                try clear c31b0
                try clear c33
                try clear c35
                try clear c37
                try clear c41
                try clear c45
                try clear c49
                try clear c49b0
                try clear c50
                try clear c50b0
                try clear c51
                try clear c51b0
                try clear c54
                try clear c57
                try clear c58
                try clear c58b0
                try clear c59
                try clear c61
                try clear c61b0
                try clear c62
                try clear p64
                try clear c65
                try clear c66
                try clear c66b0
                try clear c68
                try clear c68b0
                try clear c69
                try clear c69b0
                try clear c70
                try clear c73
                try clear c75
                try clear c77
                try clear c79
                try clear c81
                try clear c81b0
                try clear c82
                try clear c82b0
                try clear c83
                try clear c83b0
                try clear c88
                try clear c93
                try clear c94
                try clear c100
                try clear c101
                try clear c102
                try clear c105
                try clear c106
                try clear c107
                try clear c108
                try clear c108b0
                try clear c110
                try clear c111
                try clear c111b0
                try clear c113
                try clear c113b0
                try clear c114
                try clear c114b0
                try clear c115
                try clear c116
                try clear c117
                try clear c119
                try clear c120
                try clear c122
                try clear c123
                try clear c124
                try clear c126
                try clear c127
                try clear c128
                try clear c130
                try clear c131
                try clear c132
                try clear c134
                try clear c135
                try clear c136
                try clear c138
                try clear c139
                try clear c140
                try clear c142
                try clear c143
                try clear c144
                try clear hcz103_0
                try clear hcz103_1
                try clear hcz103_2
                try clear hcz118_0
                try clear hcz118_1
                try clear hcz118_2
                try clear hcz118_3
                try clear hcz121_0
                try clear hcz121_1
                try clear hcz121_2
                try clear hcz121_3
                try clear hcz125_0
                try clear hcz125_1
                try clear hcz125_2
                try clear hcz125_3
                try clear hcz129_0
                try clear hcz129_1
                try clear hcz129_2
                try clear hcz129_3
                try clear hcz12_0
                try clear hcz12_1
                try clear hcz12_2
                try clear hcz12_3
                try clear hcz133_0
                try clear hcz133_1
                try clear hcz133_2
                try clear hcz133_3
                try clear hcz137_0
                try clear hcz137_1
                try clear hcz137_2
                try clear hcz137_3
                try clear hcz141_0
                try clear hcz141_1
                try clear hcz141_2
                try clear hcz141_3
                try clear hcz145_0
                try clear hcz145_1
                try clear hcz145_2
                try clear hcz145_3
                try clear hcz16_0
                try clear hcz16_1
                try clear hcz16_2
                try clear hcz16_3
                try clear hcz17_0
                try clear hcz17_1
                try clear hcz17_2
                try clear hcz17_3
                try clear hcz21_0
                try clear hcz21_1
                try clear hcz21_2
                try clear hcz21_3
                try clear hcz22_0
                try clear hcz22_1
                try clear hcz22_2
                try clear hcz22_3
                try clear hcz26_0
                try clear hcz26_1
                try clear hcz26_2
                try clear hcz26_3
                try clear hcz28_0
                try clear hcz28_1
                try clear hcz28_2
                try clear hcz28_3
                try clear hcz38_0
                try clear hcz38_1
                try clear hcz39_0
                try clear hcz39_1
                try clear hcz39_2
                try clear hcz39_3
                try clear hcz42_0
                try clear hcz42_1
                try clear hcz43_0
                try clear hcz43_1
                try clear hcz43_2
                try clear hcz43_3
                try clear hcz46_0
                try clear hcz46_1
                try clear hcz47_0
                try clear hcz47_1
                try clear hcz47_2
                try clear hcz47_3
                try clear hcz48_0
                try clear hcz48_1
                try clear hcz48_2
                try clear hcz48_3
                try clear hcz55_0
                try clear hcz55_1
                try clear hcz55_2
                try clear hcz5_0
                try clear hcz5_1
                try clear hcz5_2
                try clear hcz5_3
                try clear hcz60_0
                try clear hcz60_1
                try clear hcz60_2
                try clear hcz63_0
                try clear hcz63_1
                try clear hcz63_2
                try clear hcz71_0
                try clear hcz71_1
                try clear hcz71_2
                try clear hcz72_0
                try clear hcz72_1
                try clear hcz72_2
                try clear hcz72_3
                try clear hcz74_0
                try clear hcz74_1
                try clear hcz74_2
                try clear hcz76_0
                try clear hcz76_1
                try clear hcz76_2
                try clear hcz78_0
                try clear hcz78_1
                try clear hcz78_2
                try clear hcz80_0
                try clear hcz80_1
                try clear hcz80_2
                try clear hcz80_3
                try clear hcz89_0
                try clear hcz89_1
                try clear hcz89_2
                try clear hcz89_3
                try clear hcz90_0
                try clear hcz90_1
                try clear hcz90_2
                try clear hcz90_3
                try clear hcz95_0
                try clear hcz95_1
                try clear hcz95_2
                try clear hcz96_0
                try clear hcz96_1
                try clear hcz96_2
                try clear hcz96_3
                try clear hcz97_0
                try clear hcz97_1
                try clear hcz97_2
                try clear hcz97_3
                try clear hfz103_0
                try clear hfz103_1
                try clear hfz103_2
                try clear hfz118_0
                try clear hfz118_1
                try clear hfz118_2
                try clear hfz118_3
                try clear hfz121_0
                try clear hfz121_1
                try clear hfz121_2
                try clear hfz121_3
                try clear hfz125_0
                try clear hfz125_1
                try clear hfz125_2
                try clear hfz125_3
                try clear hfz129_0
                try clear hfz129_1
                try clear hfz129_2
                try clear hfz129_3
                try clear hfz12_0
                try clear hfz12_1
                try clear hfz12_2
                try clear hfz12_3
                try clear hfz133_0
                try clear hfz133_1
                try clear hfz133_2
                try clear hfz133_3
                try clear hfz137_0
                try clear hfz137_1
                try clear hfz137_2
                try clear hfz137_3
                try clear hfz141_0
                try clear hfz141_1
                try clear hfz141_2
                try clear hfz141_3
                try clear hfz145_0
                try clear hfz145_1
                try clear hfz145_2
                try clear hfz145_3
                try clear hfz16_0
                try clear hfz16_1
                try clear hfz16_2
                try clear hfz16_3
                try clear hfz17_0
                try clear hfz17_1
                try clear hfz17_2
                try clear hfz17_3
                try clear hfz21_0
                try clear hfz21_1
                try clear hfz21_2
                try clear hfz21_3
                try clear hfz22_0
                try clear hfz22_1
                try clear hfz22_2
                try clear hfz22_3
                try clear hfz26_0
                try clear hfz26_1
                try clear hfz26_2
                try clear hfz26_3
                try clear hfz28_0
                try clear hfz28_1
                try clear hfz28_2
                try clear hfz28_3
                try clear hfz38_0
                try clear hfz38_1
                try clear hfz39_0
                try clear hfz39_1
                try clear hfz39_2
                try clear hfz39_3
                try clear hfz42_0
                try clear hfz42_1
                try clear hfz43_0
                try clear hfz43_1
                try clear hfz43_2
                try clear hfz43_3
                try clear hfz46_0
                try clear hfz46_1
                try clear hfz47_0
                try clear hfz47_1
                try clear hfz47_2
                try clear hfz47_3
                try clear hfz48_0
                try clear hfz48_1
                try clear hfz48_2
                try clear hfz48_3
                try clear hfz55_0
                try clear hfz55_1
                try clear hfz55_2
                try clear hfz5_0
                try clear hfz5_1
                try clear hfz5_2
                try clear hfz5_3
                try clear hfz60_0
                try clear hfz60_1
                try clear hfz60_2
                try clear hfz63_0
                try clear hfz63_1
                try clear hfz63_2
                try clear hfz71_0
                try clear hfz71_1
                try clear hfz71_2
                try clear hfz72_0
                try clear hfz72_1
                try clear hfz72_2
                try clear hfz72_3
                try clear hfz74_0
                try clear hfz74_1
                try clear hfz74_2
                try clear hfz76_0
                try clear hfz76_1
                try clear hfz76_2
                try clear hfz78_0
                try clear hfz78_1
                try clear hfz78_2
                try clear hfz80_0
                try clear hfz80_1
                try clear hfz80_2
                try clear hfz80_3
                try clear hfz89_0
                try clear hfz89_1
                try clear hfz89_2
                try clear hfz89_3
                try clear hfz90_0
                try clear hfz90_1
                try clear hfz90_2
                try clear hfz90_3
                try clear hfz95_0
                try clear hfz95_1
                try clear hfz95_2
                try clear hfz96_0
                try clear hfz96_1
                try clear hfz96_2
                try clear hfz96_3
                try clear hfz97_0
                try clear hfz97_1
                try clear hfz97_2
                try clear hfz97_3
                try clear hx241_0
                try clear hx241_1
                try clear hx245_0
                try clear hx245_1
                try clear hx245_2
                try clear hx249_0
                try clear hx249_1
                try clear hx249_2
                try clear hx250_0
                try clear hx250_1
                try clear hx250_2
                try clear hx250_3
                try clear hx264_0
                try clear hx264_1
                try clear hx264_2
                try clear hx264_3
                try clear p2
                try clear p24
                try clear p241
                try clear p245
                try clear p249
                try clear p250
                try clear p264
                try clear p6
                try clear p64
                try clear q2
                try clear q24
                try clear q241
                try clear q245
                try clear q249
                try clear q250
                try clear q264
                obtain ⟨kq, x170_85, rfl, HA, HJ85, BK235, BK251, BK256, BK261, HB⟩ := hcut
                cases kq with
                | zero => exact absurd HA.out (by simp [impl_PlantValid.j5])
                | succ kj85 =>
                 have H := HA.out
                 clear HA
                 simp only [impl_PlantValid.j5] at H
                 by_cases c146 : x170_85 = true
                 ·subst c146
                  have H1 : (some false) = some r := by rw [if_pos rfl] at H; exact H
                  clear H
                  have H := H1
                  clear H1
                  obtain rfl := Option.some.inj H
                  go_wp2
                  repeat (go_quiet (fail); try go_wp2)
                  go_ret
                  exact ⟨m6_, m63_⟩
                 ·replace c146 := Bool.eq_false_iff.mpr c146
                  subst c146
                  have H1 : (impl_PlantValid.l2 kj85 l0_3 (l0_3.length : Int) (wrap64 (x111_4 + 1)) l0_0 l0_1 l0_2 l0_3) = some r := by rw [if_neg (show ¬ (false = true) by decide)] at H; exact H
                  clear H
                  have H := H1
                  clear H1
                  have H' := Aside0.mk H
                  clear H
                  go_wp2
                  repeat (go_quiet (fail); try go_wp2)
                  go_roundg kj85
                  case measure => have := HJ1.out; have := HK2.out; have := HK3.out; have := HK4.out; have := HJ85.out; omega
                  case rel => exact ⟨(wrap64 (x111_4 + 1)), m8_, H', ⟨(by have := HJ1.out; have := HK2.out; have := HK3.out; have := HK4.out; have := HJ85.out; omega)⟩, ⟨m4_⟩, ⟨m63_⟩⟩
              ·rw [if_neg c83] at H
               exact absurd H (by simp)
             ·rw [if_neg c82] at H
              exact absurd H (by simp)
            ·rw [if_neg c81] at H
             have c81b0 : decide (x111_4 < (l0_3.length : Int)) = false := decide_eq_false c81
             clear c81
             obtain rfl := Option.some.inj H
             go_wp2
             repeat (go_quiet (fail); try go_wp2)
             go_ret
             exact ⟨m6_, m1_⟩

end Go.Proofs.Ytpildfacenlceaa.QFnExactPlantValid
