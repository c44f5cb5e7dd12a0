/- Laid by a program of this session: the texts of one law, joined, without what it does not come to. -/
import Derived.Test.YtpildfacenlceaaZFnExactPlantFoes7
namespace Go.Proofs.Ytpildfacenlceaa.QFnExactPlantFoes
open Go.RowKit Go.Proofs.YtpildfacenlceaaW.PrintWords Go.Proofs.YtpildfacenlceaaW.PrintLast Go.Proofs.YtpildfacenlceaaW.PrintMore
attribute [local go_sem] str_geq str_gtr str_leq max2_int min2_int max_two min_two max_three min_three max_four min_four   -- for this text's walks alone
set_option linter.unusedVariables false
set_option linter.unusedSimpArgs false
mutual
def impl_PlantValid.j0 : Nat → Bool → List ByteArray → List (S105) → List (S86) → List (S108) → Option (Bool)
 | 0, _, _, _, _, _ => none
 | k + 1, x40, x269000, x269001, x269002, x269003 => if x40 = true then (some false) else (impl_PlantValid.l0 k x269001 (x269001.length : Int) 0 x269000 x269001 x269002 x269003)
def impl_PlantValid.l0 : Nat → List (S105) → Int → Int → List ByteArray → List (S105) → List (S86) → List (S108) → Option (Bool)
 | 0, _, _, _, _, _, _, _ => none
 | k + 1, x42, x43, x44, x269000, x269001, x269002, x269003 => if x44 < x43 then (if 0 ≤ x44 then (if x44 < (x42.length : Int) then ((impl_has.f k x269000 ((rd_T105 x42 x44).f0)).bind fun t276 => (if t276 = true then ((impl_has.f k x269000 ((rd_T105 x42 x44).f1)).bind fun t277 => (if t277 = true then (impl_PlantValid.l0 k x42 x43 (wrap64 (x44 + 1)) x269000 x269001 x269002 x269003) else (some false))) else (some false))) else (none)) else (none)) else (impl_PlantValid.l1 k x269002 (x269002.length : Int) 0 x269000 x269001 x269002 x269003)
def impl_PlantValid.l1 : Nat → List (S86) → Int → Int → List ByteArray → List (S105) → List (S86) → List (S108) → Option (Bool)
 | 0, _, _, _, _, _, _, _ => none
 | k + 1, x64, x65, x66, x269000, x269001, x269002, x269003 => if x66 < x65 then (if 0 ≤ x66 then (if x66 < (x64.length : Int) then ((impl_isName.f k ((rd_T86 x64 x66).f0)).bind fun t280 => (if t280 = true then (if ((rd_T86 x64 x66).f1) < 0 then (impl_PlantValid.j3 k x64 x65 x66 true x269000 x269001 x269002 x269003) else (if ((rd_T86 x64 x66).f1) > 1000 then (impl_PlantValid.j3 k x64 x65 x66 true x269000 x269001 x269002 x269003) else ((impl_isName.f k ((rd_T86 x64 x66).f2)).bind fun t281 => (if t281 = true then (if x66 > 0 then (if 0 ≤ (wrap64 (x66 - 1)) then (if (wrap64 (x66 - 1)) < (x269002.length : Int) then (impl_PlantValid.j3 k x64 x65 x66 (!(Op.bytesLess (((rd_T86 x269002 (wrap64 (x66 - 1))).f0).toList) (((rd_T86 x64 x66).f0).toList))) x269000 x269001 x269002 x269003) else (none)) else (none)) else (impl_PlantValid.j3 k x64 x65 x66 false x269000 x269001 x269002 x269003)) else (impl_PlantValid.j3 k x64 x65 x66 true x269000 x269001 x269002 x269003))))) else (impl_PlantValid.j3 k x64 x65 x66 true x269000 x269001 x269002 x269003))) else (none)) else (none)) else (impl_PlantValid.l2 k x269003 (x269003.length : Int) 0 x269000 x269001 x269002 x269003)
def impl_PlantValid.j3 : Nat → List (S86) → Int → Int → Bool → List ByteArray → List (S105) → List (S86) → List (S108) → Option (Bool)
 | 0, _, _, _, _, _, _, _, _ => none
 | k + 1, x64, x65, x66, x106, x269000, x269001, x269002, x269003 => if x106 = true then (some false) else (impl_PlantValid.l1 k x64 x65 (wrap64 (x66 + 1)) x269000 x269001 x269002 x269003)
def impl_PlantValid.l2 : Nat → List (S108) → Int → Int → List ByteArray → List (S105) → List (S86) → List (S108) → Option (Bool)
 | 0, _, _, _, _, _, _, _ => none
 | k + 1, x109, x110, x111, x269000, x269001, x269002, x269003 => if x111 < x110 then (if 0 ≤ x111 then (if x111 < (x109.length : Int) then ((impl_Plant_place.f k x269000 x269001 x269002 x269003 ((rd_T108 x109 x111).f1)).bind fun bt285 => ((impl_Plant_place.f k x269000 x269001 x269002 x269003 ((rd_T108 x109 x111).f2)).bind fun bt290 => ((impl_isName.f k ((rd_T108 x109 x111).f0)).bind fun t295 => (if t295 = true then (if bt285.2.2.2 = true then (if bt290.2.2.2 = true then (if ((Op.bytesLess (((rd_T108 x109 x111).f1).toList) (((rd_T108 x109 x111).f2).toList)) = true) then ((impl_isName.f k ((rd_T108 x109 x111).f3)).bind fun t296 => (if t296 = true then (if x111 > 0 then (if 0 ≤ (wrap64 (x111 - 1)) then (if (wrap64 (x111 - 1)) < (x269003.length : Int) then (impl_PlantValid.j5 k x109 x110 x111 (!(Op.bytesLess (((rd_T108 x269003 (wrap64 (x111 - 1))).f0).toList) (((rd_T108 x109 x111).f0).toList))) x269000 x269001 x269002 x269003) else (none)) else (none)) else (impl_PlantValid.j5 k x109 x110 x111 false x269000 x269001 x269002 x269003)) else (impl_PlantValid.j5 k x109 x110 x111 true x269000 x269001 x269002 x269003))) else (impl_PlantValid.j5 k x109 x110 x111 true x269000 x269001 x269002 x269003)) else (impl_PlantValid.j5 k x109 x110 x111 true x269000 x269001 x269002 x269003)) else (impl_PlantValid.j5 k x109 x110 x111 true x269000 x269001 x269002 x269003)) else (impl_PlantValid.j5 k x109 x110 x111 true x269000 x269001 x269002 x269003))))) else (none)) else (none)) else (some true)
def impl_PlantValid.j5 : Nat → List (S108) → Int → Int → Bool → List ByteArray → List (S105) → List (S86) → List (S108) → Option (Bool)
 | 0, _, _, _, _, _, _, _, _ => none
 | k + 1, x109, x110, x111, x170, x269000, x269001, x269002, x269003 => if x170 = true then (some false) else (impl_PlantValid.l2 k x109 x110 (wrap64 (x111 + 1)) x269000 x269001 x269002 x269003)
end
def impl_PlantValid.f (k : Nat) (l0_0 : List ByteArray) (l0_1 : List (S105)) (l0_2 : List (S86)) (l0_3 : List (S108)) : Option (Bool) := if (l0_0.length : Int) > 8 then (impl_PlantValid.j0 k true l0_0 l0_1 l0_2 l0_3) else ((impl_names.f k l0_0).bind fun t269 => (if t269 = true then ((impl_Plant_pairs.f k l0_0 l0_1 l0_2 l0_3).bind fun t270 => ((impl_foesOk.f k t270 12).bind fun t273 => (if t273 = true then (if (l0_2.length : Int) > 14 then (impl_PlantValid.j0 k true l0_0 l0_1 l0_2 l0_3) else (impl_PlantValid.j0 k (decide ((l0_3.length : Int) > 18)) l0_0 l0_1 l0_2 l0_3)) else (impl_PlantValid.j0 k true l0_0 l0_1 l0_2 l0_3)))) else (impl_PlantValid.j0 k true l0_0 l0_1 l0_2 l0_3)))
theorem impl_PlantValid.mono_l : ∀ k, (∀ y0 y1 y2 y3 y4, LeO (impl_PlantValid.j0 k y0 y1 y2 y3 y4) (impl_PlantValid.j0 (k + 1) y0 y1 y2 y3 y4)) ∧ (∀ y0 y1 y2 y3 y4 y5 y6, LeO (impl_PlantValid.l0 k y0 y1 y2 y3 y4 y5 y6) (impl_PlantValid.l0 (k + 1) y0 y1 y2 y3 y4 y5 y6)) ∧ (∀ y0 y1 y2 y3 y4 y5 y6, LeO (impl_PlantValid.l1 k y0 y1 y2 y3 y4 y5 y6) (impl_PlantValid.l1 (k + 1) y0 y1 y2 y3 y4 y5 y6)) ∧ (∀ y0 y1 y2 y3 y4 y5 y6 y7, LeO (impl_PlantValid.j3 k y0 y1 y2 y3 y4 y5 y6 y7) (impl_PlantValid.j3 (k + 1) y0 y1 y2 y3 y4 y5 y6 y7)) ∧ (∀ y0 y1 y2 y3 y4 y5 y6, LeO (impl_PlantValid.l2 k y0 y1 y2 y3 y4 y5 y6) (impl_PlantValid.l2 (k + 1) y0 y1 y2 y3 y4 y5 y6)) ∧ (∀ y0 y1 y2 y3 y4 y5 y6 y7, LeO (impl_PlantValid.j5 k y0 y1 y2 y3 y4 y5 y6 y7) (impl_PlantValid.j5 (k + 1) y0 y1 y2 y3 y4 y5 y6 y7))
 | 0 => ⟨fun _ _ _ _ _ r h => by simp [impl_PlantValid.j0] at h, fun _ _ _ _ _ _ _ r h => by simp [impl_PlantValid.l0] at h, fun _ _ _ _ _ _ _ r h => by simp [impl_PlantValid.l1] at h, fun _ _ _ _ _ _ _ _ r h => by simp [impl_PlantValid.j3] at h, fun _ _ _ _ _ _ _ r h => by simp [impl_PlantValid.l2] at h, fun _ _ _ _ _ _ _ _ r h => by simp [impl_PlantValid.j5] at h⟩
 | k + 1 => by
  obtain ⟨ih0, ih1, ih2, ih3, ih4, ih5⟩ := impl_PlantValid.mono_l k
  refine ⟨?_, ?_, ?_, ?_, ?_, ?_⟩
  ·intro y0 y1 y2 y3 y4
   unfold impl_PlantValid.j0
   repeat' first
   | (with_reducible exact ih0 _ _ _ _ _)
   | (with_reducible exact ih1 _ _ _ _ _ _ _)
   | (with_reducible exact ih2 _ _ _ _ _ _ _)
   | (with_reducible exact ih3 _ _ _ _ _ _ _ _)
   | (with_reducible exact ih4 _ _ _ _ _ _ _)
   | (with_reducible exact ih5 _ _ _ _ _ _ _ _)
   | (with_reducible exact impl_Plant_pairs.mono _ _ _ _ _)
   | (with_reducible exact impl_Plant_place.mono _ _ _ _ _ _)
   | (with_reducible exact impl_foesOk.mono _ _ _)
   | (with_reducible exact impl_has.mono _ _ _)
   | (with_reducible exact impl_isName.mono _ _)
   | (with_reducible exact impl_names.mono _ _)
   | (with_reducible exact LeO.refl _)
   | (with_reducible exact LeO.none _)
   | (with_reducible refine LeO.ite ?_ ?_)
   | (with_reducible refine LeO.bind ?_ (fun _ => ?_))
   | exact ih0 _ _ _ _ _
   | exact ih1 _ _ _ _ _ _ _
   | exact ih2 _ _ _ _ _ _ _
   | exact ih3 _ _ _ _ _ _ _ _
   | exact ih4 _ _ _ _ _ _ _
   | exact ih5 _ _ _ _ _ _ _ _
   | exact impl_Plant_pairs.mono _ _ _ _ _
   | exact impl_Plant_place.mono _ _ _ _ _ _
   | exact impl_foesOk.mono _ _ _
   | exact impl_has.mono _ _ _
   | exact impl_isName.mono _ _
   | exact impl_names.mono _ _
   | exact LeO.none _
   | refine LeO.ite ?_ ?_
   | refine LeO.bind ?_ (fun _ => ?_)
  ·intro y0 y1 y2 y3 y4 y5 y6
   unfold impl_PlantValid.l0
   repeat' first
   | (with_reducible exact ih0 _ _ _ _ _)
   | (with_reducible exact ih1 _ _ _ _ _ _ _)
   | (with_reducible exact ih2 _ _ _ _ _ _ _)
   | (with_reducible exact ih3 _ _ _ _ _ _ _ _)
   | (with_reducible exact ih4 _ _ _ _ _ _ _)
   | (with_reducible exact ih5 _ _ _ _ _ _ _ _)
   | (with_reducible exact impl_Plant_pairs.mono _ _ _ _ _)
   | (with_reducible exact impl_Plant_place.mono _ _ _ _ _ _)
   | (with_reducible exact impl_foesOk.mono _ _ _)
   | (with_reducible exact impl_has.mono _ _ _)
   | (with_reducible exact impl_isName.mono _ _)
   | (with_reducible exact impl_names.mono _ _)
   | (with_reducible exact LeO.refl _)
   | (with_reducible exact LeO.none _)
   | (with_reducible refine LeO.ite ?_ ?_)
   | (with_reducible refine LeO.bind ?_ (fun _ => ?_))
   | exact ih0 _ _ _ _ _
   | exact ih1 _ _ _ _ _ _ _
   | exact ih2 _ _ _ _ _ _ _
   | exact ih3 _ _ _ _ _ _ _ _
   | exact ih4 _ _ _ _ _ _ _
   | exact ih5 _ _ _ _ _ _ _ _
   | exact impl_Plant_pairs.mono _ _ _ _ _
   | exact impl_Plant_place.mono _ _ _ _ _ _
   | exact impl_foesOk.mono _ _ _
   | exact impl_has.mono _ _ _
   | exact impl_isName.mono _ _
   | exact impl_names.mono _ _
   | exact LeO.none _
   | refine LeO.ite ?_ ?_
   | refine LeO.bind ?_ (fun _ => ?_)
  ·intro y0 y1 y2 y3 y4 y5 y6
   unfold impl_PlantValid.l1
   repeat' first
   | (with_reducible exact ih0 _ _ _ _ _)
   | (with_reducible exact ih1 _ _ _ _ _ _ _)
   | (with_reducible exact ih2 _ _ _ _ _ _ _)
   | (with_reducible exact ih3 _ _ _ _ _ _ _ _)
   | (with_reducible exact ih4 _ _ _ _ _ _ _)
   | (with_reducible exact ih5 _ _ _ _ _ _ _ _)
   | (with_reducible exact impl_Plant_pairs.mono _ _ _ _ _)
   | (with_reducible exact impl_Plant_place.mono _ _ _ _ _ _)
   | (with_reducible exact impl_foesOk.mono _ _ _)
   | (with_reducible exact impl_has.mono _ _ _)
   | (with_reducible exact impl_isName.mono _ _)
   | (with_reducible exact impl_names.mono _ _)
   | (with_reducible exact LeO.refl _)
   | (with_reducible exact LeO.none _)
   | (with_reducible refine LeO.ite ?_ ?_)
   | (with_reducible refine LeO.bind ?_ (fun _ => ?_))
   | exact ih0 _ _ _ _ _
   | exact ih1 _ _ _ _ _ _ _
   | exact ih2 _ _ _ _ _ _ _
   | exact ih3 _ _ _ _ _ _ _ _
   | exact ih4 _ _ _ _ _ _ _
   | exact ih5 _ _ _ _ _ _ _ _
   | exact impl_Plant_pairs.mono _ _ _ _ _
   | exact impl_Plant_place.mono _ _ _ _ _ _
   | exact impl_foesOk.mono _ _ _
   | exact impl_has.mono _ _ _
   | exact impl_isName.mono _ _
   | exact impl_names.mono _ _
   | exact LeO.none _
   | refine LeO.ite ?_ ?_
   | refine LeO.bind ?_ (fun _ => ?_)
  ·intro y0 y1 y2 y3 y4 y5 y6 y7
   unfold impl_PlantValid.j3
   repeat' first
   | (with_reducible exact ih0 _ _ _ _ _)
   | (with_reducible exact ih1 _ _ _ _ _ _ _)
   | (with_reducible exact ih2 _ _ _ _ _ _ _)
   | (with_reducible exact ih3 _ _ _ _ _ _ _ _)
   | (with_reducible exact ih4 _ _ _ _ _ _ _)
   | (with_reducible exact ih5 _ _ _ _ _ _ _ _)
   | (with_reducible exact impl_Plant_pairs.mono _ _ _ _ _)
   | (with_reducible exact impl_Plant_place.mono _ _ _ _ _ _)
   | (with_reducible exact impl_foesOk.mono _ _ _)
   | (with_reducible exact impl_has.mono _ _ _)
   | (with_reducible exact impl_isName.mono _ _)
   | (with_reducible exact impl_names.mono _ _)
   | (with_reducible exact LeO.refl _)
   | (with_reducible exact LeO.none _)
   | (with_reducible refine LeO.ite ?_ ?_)
   | (with_reducible refine LeO.bind ?_ (fun _ => ?_))
   | exact ih0 _ _ _ _ _
   | exact ih1 _ _ _ _ _ _ _
   | exact ih2 _ _ _ _ _ _ _
   | exact ih3 _ _ _ _ _ _ _ _
   | exact ih4 _ _ _ _ _ _ _
   | exact ih5 _ _ _ _ _ _ _ _
   | exact impl_Plant_pairs.mono _ _ _ _ _
   | exact impl_Plant_place.mono _ _ _ _ _ _
   | exact impl_foesOk.mono _ _ _
   | exact impl_has.mono _ _ _
   | exact impl_isName.mono _ _
   | exact impl_names.mono _ _
   | exact LeO.none _
   | refine LeO.ite ?_ ?_
   | refine LeO.bind ?_ (fun _ => ?_)
  ·intro y0 y1 y2 y3 y4 y5 y6
   unfold impl_PlantValid.l2
   repeat' first
   | (with_reducible exact ih0 _ _ _ _ _)
   | (with_reducible exact ih1 _ _ _ _ _ _ _)
   | (with_reducible exact ih2 _ _ _ _ _ _ _)
   | (with_reducible exact ih3 _ _ _ _ _ _ _ _)
   | (with_reducible exact ih4 _ _ _ _ _ _ _)
   | (with_reducible exact ih5 _ _ _ _ _ _ _ _)
   | (with_reducible exact impl_Plant_pairs.mono _ _ _ _ _)
   | (with_reducible exact impl_Plant_place.mono _ _ _ _ _ _)
   | (with_reducible exact impl_foesOk.mono _ _ _)
   | (with_reducible exact impl_has.mono _ _ _)
   | (with_reducible exact impl_isName.mono _ _)
   | (with_reducible exact impl_names.mono _ _)
   | (with_reducible exact LeO.refl _)
   | (with_reducible exact LeO.none _)
   | (with_reducible refine LeO.ite ?_ ?_)
   | (with_reducible refine LeO.bind ?_ (fun _ => ?_))
   | exact ih0 _ _ _ _ _
   | exact ih1 _ _ _ _ _ _ _
   | exact ih2 _ _ _ _ _ _ _
   | exact ih3 _ _ _ _ _ _ _ _
   | exact ih4 _ _ _ _ _ _ _
   | exact ih5 _ _ _ _ _ _ _ _
   | exact impl_Plant_pairs.mono _ _ _ _ _
   | exact impl_Plant_place.mono _ _ _ _ _ _
   | exact impl_foesOk.mono _ _ _
   | exact impl_has.mono _ _ _
   | exact impl_isName.mono _ _
   | exact impl_names.mono _ _
   | exact LeO.none _
   | refine LeO.ite ?_ ?_
   | refine LeO.bind ?_ (fun _ => ?_)
  ·intro y0 y1 y2 y3 y4 y5 y6 y7
   unfold impl_PlantValid.j5
   repeat' first
   | (with_reducible exact ih0 _ _ _ _ _)
   | (with_reducible exact ih1 _ _ _ _ _ _ _)
   | (with_reducible exact ih2 _ _ _ _ _ _ _)
   | (with_reducible exact ih3 _ _ _ _ _ _ _ _)
   | (with_reducible exact ih4 _ _ _ _ _ _ _)
   | (with_reducible exact ih5 _ _ _ _ _ _ _ _)
   | (with_reducible exact impl_Plant_pairs.mono _ _ _ _ _)
   | (with_reducible exact impl_Plant_place.mono _ _ _ _ _ _)
   | (with_reducible exact impl_foesOk.mono _ _ _)
   | (with_reducible exact impl_has.mono _ _ _)
   | (with_reducible exact impl_isName.mono _ _)
   | (with_reducible exact impl_names.mono _ _)
   | (with_reducible exact LeO.refl _)
   | (with_reducible exact LeO.none _)
   | (with_reducible refine LeO.ite ?_ ?_)
   | (with_reducible refine LeO.bind ?_ (fun _ => ?_))
   | exact ih0 _ _ _ _ _
   | exact ih1 _ _ _ _ _ _ _
   | exact ih2 _ _ _ _ _ _ _
   | exact ih3 _ _ _ _ _ _ _ _
   | exact ih4 _ _ _ _ _ _ _
   | exact ih5 _ _ _ _ _ _ _ _
   | exact impl_Plant_pairs.mono _ _ _ _ _
   | exact impl_Plant_place.mono _ _ _ _ _ _
   | exact impl_foesOk.mono _ _ _
   | exact impl_has.mono _ _ _
   | exact impl_isName.mono _ _
   | exact impl_names.mono _ _
   | exact LeO.none _
   | refine LeO.ite ?_ ?_
   | refine LeO.bind ?_ (fun _ => ?_)
theorem impl_PlantValid.mono : ∀ a0 a1 a2 a3 k, LeO (impl_PlantValid.f k a0 a1 a2 a3) (impl_PlantValid.f (k + 1) a0 a1 a2 a3) := by
 intro a0 a1 a2 a3 k
 obtain ⟨ih0, ih1, ih2, ih3, ih4, ih5⟩ := impl_PlantValid.mono_l k
 unfold impl_PlantValid.f
 repeat' first
   | (with_reducible exact ih0 _ _ _ _ _)
   | (with_reducible exact ih1 _ _ _ _ _ _ _)
   | (with_reducible exact ih2 _ _ _ _ _ _ _)
   | (with_reducible exact ih3 _ _ _ _ _ _ _ _)
   | (with_reducible exact ih4 _ _ _ _ _ _ _)
   | (with_reducible exact ih5 _ _ _ _ _ _ _ _)
   | (with_reducible exact impl_Plant_pairs.mono _ _ _ _ _)
   | (with_reducible exact impl_Plant_place.mono _ _ _ _ _ _)
   | (with_reducible exact impl_foesOk.mono _ _ _)
   | (with_reducible exact impl_has.mono _ _ _)
   | (with_reducible exact impl_isName.mono _ _)
   | (with_reducible exact impl_names.mono _ _)
   | (with_reducible exact LeO.refl _)
   | (with_reducible exact LeO.none _)
   | (with_reducible refine LeO.ite ?_ ?_)
   | (with_reducible refine LeO.bind ?_ (fun _ => ?_))
   | exact ih0 _ _ _ _ _
   | exact ih1 _ _ _ _ _ _ _
   | exact ih2 _ _ _ _ _ _ _
   | exact ih3 _ _ _ _ _ _ _ _
   | exact ih4 _ _ _ _ _ _ _
   | exact ih5 _ _ _ _ _ _ _ _
   | exact impl_Plant_pairs.mono _ _ _ _ _
   | exact impl_Plant_place.mono _ _ _ _ _ _
   | exact impl_foesOk.mono _ _ _
   | exact impl_has.mono _ _ _
   | exact impl_isName.mono _ _
   | exact impl_names.mono _ _
   | exact LeO.none _
   | refine LeO.ite ?_ ?_
   | refine LeO.bind ?_ (fun _ => ?_)
set_option maxHeartbeats 8000000 in
set_option maxRecDepth 100000 in
theorem impl_PlantValid.calls (k : Nat) (A0_0 : Option Addr) (c0_0 : Nat) (l0_0 : List ByteArray) (A0_1 : Option Addr) (c0_1 : Nat) (l0_1 : List (S105)) (A0_2 : Option Addr) (c0_2 : Nat) (l0_2 : List (S86)) (A0_3 : Option Addr) (c0_3 : Nat) (l0_3 : List (S108)) (r : Bool) (w : World) (hr0_0 : Kd.C Kd.string w A0_0 l0_0.length l0_0) (hc0_0 : l0_0.length ≤ c0_0) (hr0_1 : Kd.C k105 w A0_1 l0_1.length l0_1) (hc0_1 : l0_1.length ≤ c0_1) (hr0_2 : Kd.C k86 w A0_2 l0_2.length l0_2) (hc0_2 : l0_2.length ≤ c0_2) (hr0_3 : Kd.C k108 w A0_3 l0_3.length l0_3) (hc0_3 : l0_3.length ≤ c0_3) (h : impl_PlantValid.f k l0_0 l0_1 l0_2 l0_3 = some r) :
  Calls Try.prog 17 #[.agg #[.slice A0_0 l0_0.length c0_0, .slice A0_1 l0_1.length c0_1, .slice A0_2 l0_2.length c0_2, .slice A0_3 l0_3.length c0_3]] w fun e w' => e = .returned (.bool r) ∧ Below w.heap.size w w' := by
 have hu34 := Try.underlying34
 have hu105 := Try.underlying105
 have hu86 := Try.underlying86
 have hu108 := Try.underlying108
 have HR0_0 := Aside0.mk hr0_0
 have HC0_0 := Aside0.mk hc0_0
 clear hr0_0 hc0_0
 have HR0_1 := Aside0.mk hr0_1
 have HC0_1 := Aside0.mk hc0_1
 clear hr0_1 hc0_1
 have HR0_2 := Aside0.mk hr0_2
 have HC0_2 := Aside0.mk hc0_2
 clear hr0_2 hc0_2
 have HR0_3 := Aside0.mk hr0_3
 have HC0_3 := Aside0.mk hc0_3
 clear hr0_3 hc0_3
 have HB := Aside0.mk (Below.refl w.heap.size w)
 have H : (if (l0_0.length : Int) > 8 then (impl_PlantValid.j0 k true l0_0 l0_1 l0_2 l0_3) else ((impl_names.f k l0_0).bind fun t269 => (if t269 = true then ((impl_Plant_pairs.f k l0_0 l0_1 l0_2 l0_3).bind fun t270 => ((impl_foesOk.f k t270 12).bind fun t273 => (if t273 = true then (if (l0_2.length : Int) > 14 then (impl_PlantValid.j0 k true l0_0 l0_1 l0_2 l0_3) else (impl_PlantValid.j0 k (decide ((l0_3.length : Int) > 18)) l0_0 l0_1 l0_2 l0_3)) else (impl_PlantValid.j0 k true l0_0 l0_1 l0_2 l0_3)))) else (impl_PlantValid.j0 k true l0_0 l0_1 l0_2 l0_3)))) = some r := h
 clear h
 have HC2 := Aside0.mk H
 clear H
 go_enter Try.func17, Try.ntmps17
 go_upto_region 1 with (first | ((with_reducible refine gate_dst (N := 1) rfl ?_); (try (refine gate_guard (by rfl) ?_; dsimp only)); refine box_event ?hg (N := 1) ?hd (cs := #[.slice A0_0 l0_0.length c0_0, .slice A0_1 l0_1.length c0_1, .slice A0_2 l0_2.length c0_2, .slice A0_3 l0_3.length c0_3]) (t := 34) ?hr ?_; (case hd => rfl); (case hg => rfl); (case hr => first | (go_simp; done) | (go_simp; rfl)); intro gb268 hg w3 hbox hb; have n0_ := Aside0.mk (below_step m0_ hb); have n1_ := Aside0.mk (hbox); have n2_ := Aside0.mk ((by rw [hg]; exact (below_size m0_) : w.heap.size ≤ gb268)); have n3_ := Aside0.mk ((by rw [hg]; exact (below_size m0_) : w.heap.size ≤ gb268)); clear HB; have HB := n0_; have BK268 := n1_; have GW268 := n2_; have GE268 := n3_; clear n0_ n1_ n2_ n3_; clear hb hbox hg))
 repeat (go_quiet (first | ((with_reducible refine gate_dst (N := 1) rfl ?_); (try (refine gate_guard (by rfl) ?_; dsimp only)); refine box_event ?hg (N := 1) ?hd (cs := #[.slice A0_0 l0_0.length c0_0, .slice A0_1 l0_1.length c0_1, .slice A0_2 l0_2.length c0_2, .slice A0_3 l0_3.length c0_3]) (t := 34) ?hr ?_; (case hd => rfl); (case hg => rfl); (case hr => first | (go_simp; done) | (go_simp; rfl)); intro gb268 hg w3 hbox hb; have n0_ := Aside0.mk (below_step m0_ hb); have n1_ := Aside0.mk (hbox); have n2_ := Aside0.mk ((by rw [hg]; exact (below_size m0_) : w.heap.size ≤ gb268)); have n3_ := Aside0.mk ((by rw [hg]; exact (below_size m0_) : w.heap.size ≤ gb268)); clear HB; have HB := n0_; have BK268 := n1_; have GW268 := n2_; have GE268 := n3_; clear n0_ n1_ n2_ n3_; clear hb hbox hg)); go_upto_region 1 with (first | ((with_reducible refine gate_dst (N := 1) rfl ?_); (try (refine gate_guard (by rfl) ?_; dsimp only)); refine box_event ?hg (N := 1) ?hd (cs := #[.slice A0_0 l0_0.length c0_0, .slice A0_1 l0_1.length c0_1, .slice A0_2 l0_2.length c0_2, .slice A0_3 l0_3.length c0_3]) (t := 34) ?hr ?_; (case hd => rfl); (case hg => rfl); (case hr => first | (go_simp; done) | (go_simp; rfl)); intro gb268 hg w3 hbox hb; have n0_ := Aside0.mk (below_step m0_ hb); have n1_ := Aside0.mk (hbox); have n2_ := Aside0.mk ((by rw [hg]; exact (below_size m0_) : w.heap.size ≤ gb268)); have n3_ := Aside0.mk ((by rw [hg]; exact (below_size m0_) : w.heap.size ≤ gb268)); clear HB; have HB := n0_; have BK268 := n1_; have GW268 := n2_; have GE268 := n3_; clear n0_ n1_ n2_ n3_; clear hb hbox hg)))
 (try simp only [Act.put, List.setIfInBounds_toArray, List.set_cons_zero, List.set_cons_succ])
 go_cut [40] (fun v40 wc => ∃ (kq : Nat) (x40_1 : Bool), v40 = .bool x40_1 ∧ Aside0 (impl_PlantValid.j0 kq x40_1 l0_0 l0_1 l0_2 l0_3 = some r) ∧ Aside0 (kq ≤ k) ∧ Aside0 (wc.heap[gb268]? = some (.cells #[(.slice A0_0 l0_0.length c0_0), (.slice A0_1 l0_1.length c0_1), (.slice A0_2 l0_2.length c0_2), (.slice A0_3 l0_3.length c0_3)] 34 (0, 0))) ∧ Aside0 (Below w.heap.size w wc))
 case first =>
  have H := HC2.out
  clear HC2
  refine (Classical.em ((l0_0.length : Int) > 8)).elim (fun c4 => ?yes15) (fun c4 => ?no15)
  case' yes15 =>
   rw [if_pos c4] at H
   have c4b0 : decide (8 < (l0_0.length : Int)) = true := decide_eq_true c4
   have c4b1 : decide (8 < l0_0.length) = true := decide_eq_true (by omega)
   clear c4
   (first | rw [c4b0] | (simp only [i64_w, i32_w]; rw [c4b0]) | skip)
   have H' := Aside0.mk H
   clear H
  case' no15 =>
   rw [if_neg c4] at H
   have c4b0 : decide (8 < (l0_0.length : Int)) = false := decide_eq_false c4
   have c4b1 : decide (8 < l0_0.length) = false := decide_eq_false (by omega)
   clear c4
   (first | rw [c4b0] | (simp only [i64_w, i32_w]; rw [c4b0]) | skip)
   replace H := Option.bind_eq_some_iff.mp H
   obtain ⟨t269, A60, H⟩ := H
   replace H : (if t269 = true then ((impl_Plant_pairs.f k l0_0 l0_1 l0_2 l0_3).bind fun t270 => ((impl_foesOk.f k t270 12).bind fun t273 => (if t273 = true then (if (l0_2.length : Int) > 14 then (impl_PlantValid.j0 k true l0_0 l0_1 l0_2 l0_3) else (impl_PlantValid.j0 k (decide ((l0_3.length : Int) > 18)) l0_0 l0_1 l0_2 l0_3)) else (impl_PlantValid.j0 k true l0_0 l0_1 l0_2 l0_3)))) else (impl_PlantValid.j0 k true l0_0 l0_1 l0_2 l0_3)) = some r := H
   have A6 := Aside0.mk A60
   clear A60
   refine (Classical.em (t269 = true)).elim (fun c7 => ?yes16) (fun c7 => ?no16)
   case' yes16 =>
    subst c7
    have H1 : ((impl_Plant_pairs.f k l0_0 l0_1 l0_2 l0_3).bind fun t270 => ((impl_foesOk.f k t270 12).bind fun t273 => (if t273 = true then (if (l0_2.length : Int) > 14 then (impl_PlantValid.j0 k true l0_0 l0_1 l0_2 l0_3) else (impl_PlantValid.j0 k (decide ((l0_3.length : Int) > 18)) l0_0 l0_1 l0_2 l0_3)) else (impl_PlantValid.j0 k true l0_0 l0_1 l0_2 l0_3)))) = some r := by rw [if_pos rfl] at H; exact H
    clear H
    have H := H1
    clear H1
    replace H := Option.bind_eq_some_iff.mp H
    obtain ⟨t270, A80, H⟩ := H
    replace H : ((impl_foesOk.f k t270 12).bind fun t273 => (if t273 = true then (if (l0_2.length : Int) > 14 then (impl_PlantValid.j0 k true l0_0 l0_1 l0_2 l0_3) else (impl_PlantValid.j0 k (decide ((l0_3.length : Int) > 18)) l0_0 l0_1 l0_2 l0_3)) else (impl_PlantValid.j0 k true l0_0 l0_1 l0_2 l0_3))) = some r := H
    have A8 := Aside0.mk A80
    clear A80
    replace H := Option.bind_eq_some_iff.mp H
    obtain ⟨t273, A90, H⟩ := H
    replace H : (if t273 = true then (if (l0_2.length : Int) > 14 then (impl_PlantValid.j0 k true l0_0 l0_1 l0_2 l0_3) else (impl_PlantValid.j0 k (decide ((l0_3.length : Int) > 18)) l0_0 l0_1 l0_2 l0_3)) else (impl_PlantValid.j0 k true l0_0 l0_1 l0_2 l0_3)) = some r := H
    have A9 := Aside0.mk A90
    clear A90
    refine (Classical.em (t273 = true)).elim (fun c10 => ?yes17) (fun c10 => ?no17)
    case' yes17 =>
     subst c10
     have H1 : (if (l0_2.length : Int) > 14 then (impl_PlantValid.j0 k true l0_0 l0_1 l0_2 l0_3) else (impl_PlantValid.j0 k (decide ((l0_3.length : Int) > 18)) l0_0 l0_1 l0_2 l0_3)) = some r := by rw [if_pos rfl] at H; exact H
     clear H
     have H := H1
     clear H1
     refine (Classical.em ((l0_2.length : Int) > 14)).elim (fun c11 => ?yes18) (fun c11 => ?no18)
     case' yes18 =>
      rw [if_pos c11] at H
      have c11b0 : decide (14 < (l0_2.length : Int)) = true := decide_eq_true c11
      have c11b1 : decide (14 < l0_2.length) = true := decide_eq_true (by omega)
      clear c11
      have H' := Aside0.mk H
      clear H
     case' no18 =>
      rw [if_neg c11] at H
      have c11b0 : decide (14 < (l0_2.length : Int)) = false := decide_eq_false c11
      have c11b1 : decide (14 < l0_2.length) = false := decide_eq_false (by omega)
      clear c11
      have H' := Aside0.mk H
      clear H
    case' no17 =>
     replace c10 := Bool.eq_false_iff.mpr c10
     subst c10
     have H1 : (impl_PlantValid.j0 k true l0_0 l0_1 l0_2 l0_3) = some r := by rw [if_neg (show ¬ (false = true) by decide)] at H; exact H
     clear H
     have H := H1
     clear H1
     have H' := Aside0.mk H
     clear H
   case' no16 =>
    replace c7 := Bool.eq_false_iff.mpr c7
    subst c7
    have H1 : (impl_PlantValid.j0 k true l0_0 l0_1 l0_2 l0_3) = some r := by rw [if_neg (show ¬ (false = true) by decide)] at H; exact H
    clear H
    have H := H1
    clear H1
    have H' := Aside0.mk H
    clear H
  all_goals
   first
    | (
     obtain ⟨hcz5_0, hcz5_1, hcz5_2, hcz5_3⟩ := cz4_ BK268.out
     obtain ⟨hfz5_0, hfz5_1, hfz5_2, hfz5_3⟩ := fz4_ BK268.out
     go_wp2
     repeat (go_quiet (fail); try go_wp2)
     go_meet
     case rel => exact ⟨_, _, m8_, H', ⟨(by first | omega | exact Nat.le_refl _)⟩, ⟨m5_⟩, ⟨m1_⟩⟩)
    | (
     obtain ⟨hcz12_0, hcz12_1, hcz12_2, hcz12_3⟩ := cz4_ BK268.out
     obtain ⟨hfz12_0, hfz12_1, hfz12_2, hfz12_3⟩ := fz4_ BK268.out
     go_wp2_with (first | (go_at_call 72; (with_reducible refine (impl_names.calls k _ _ l0_0 _ _ ?side1 ?side2 (Aside0.out (by assumption))).mono ?_); (case side1 => exact m7_); (case side2 => exact HC0_0.out); rintro e w' ⟨rfl, ⟨nd, rfl⟩⟩; (try exact m2_)) | (go_at_call 74; (with_reducible refine (impl_Plant_pairs.calls k _ _ l0_0 _ _ l0_1 _ _ l0_2 _ _ l0_3 _ _ ?side1 ?side2 ?side3 ?side4 ?side5 ?side6 ?side7 ?side8 (Aside0.out (by assumption))).mono ?_); (case side1 => exact m71_); (case side2 => exact HC0_0.out); (case side3 => exact m72_); (case side4 => exact HC0_1.out); (case side5 => exact m73_); (case side6 => exact HC0_2.out); (case side7 => exact m74_); (case side8 => exact HC0_3.out); rintro e w13 ⟨v271, rfl, ho0, hb⟩; have n0_ := Aside0.mk (Kd.R_lower ho0 (below_size m1_)); have n1_ := Aside0.mk (blk_below (g := gb268) (o := .cells #[.slice A0_0 l0_0.length c0_0, .slice A0_1 l0_1.length c0_1, .slice A0_2 l0_2.length c0_2, .slice A0_3 l0_3.length c0_3] 34 (0, 0)) m5_ hb); have n2_ := Aside0.mk (below_step m1_ hb); clear BK268; clear HB; have HO272 := n0_; have BK268 := n1_; have HB := n2_; clear n0_ n1_ n2_; (try clear hb); (try clear hb2); (try clear hk); (try clear hi); (try clear ho0); obtain ⟨Ao14, co14, eo14⟩ := Kd.R_slice HO272.out; subst eo14) | (go_at_call 73; (with_reducible refine (impl_foesOk.calls k _ _ t270 12 _ _ ?side1 ?side2 (Aside0.out (by assumption))).mono ?_); (case side1 => exact m70_); (case side2 => exact (Kd.R_reads' HO272.out).2.1); rintro e w15 ⟨rfl, hb⟩; have n0_ := Aside0.mk (Kd.R_below m93_ hb); have n1_ := Aside0.mk (blk_below (g := gb268) (o := .cells #[.slice A0_0 l0_0.length c0_0, .slice A0_1 l0_1.length c0_1, .slice A0_2 l0_2.length c0_2, .slice A0_3 l0_3.length c0_3] 34 (0, 0)) m5_ hb); have n2_ := Aside0.mk (below_step m1_ hb); clear HO272; clear BK268; clear HB; have HO272 := n0_; have BK268 := n1_; have HB := n2_; clear n0_ n1_ n2_; (try clear hb); (try clear hb2); (try clear hk); (try clear hi); obtain ⟨hcz16_0, hcz16_1, hcz16_2, hcz16_3⟩ := cz4_ BK268.out; obtain ⟨hfz16_0, hfz16_1, hfz16_2, hfz16_3⟩ := fz4_ BK268.out))
     repeat (go_quiet (first | (go_at_call 72; (with_reducible refine (impl_names.calls k _ _ l0_0 _ _ ?side1 ?side2 (Aside0.out (by assumption))).mono ?_); (case side1 => exact m7_); (case side2 => exact HC0_0.out); rintro e w' ⟨rfl, ⟨nd, rfl⟩⟩; (try exact m2_)) | (go_at_call 74; (with_reducible refine (impl_Plant_pairs.calls k _ _ l0_0 _ _ l0_1 _ _ l0_2 _ _ l0_3 _ _ ?side1 ?side2 ?side3 ?side4 ?side5 ?side6 ?side7 ?side8 (Aside0.out (by assumption))).mono ?_); (case side1 => exact m71_); (case side2 => exact HC0_0.out); (case side3 => exact m72_); (case side4 => exact HC0_1.out); (case side5 => exact m73_); (case side6 => exact HC0_2.out); (case side7 => exact m74_); (case side8 => exact HC0_3.out); rintro e w13 ⟨v271, rfl, ho0, hb⟩; have n0_ := Aside0.mk (Kd.R_lower ho0 (below_size m1_)); have n1_ := Aside0.mk (blk_below (g := gb268) (o := .cells #[.slice A0_0 l0_0.length c0_0, .slice A0_1 l0_1.length c0_1, .slice A0_2 l0_2.length c0_2, .slice A0_3 l0_3.length c0_3] 34 (0, 0)) m5_ hb); have n2_ := Aside0.mk (below_step m1_ hb); clear BK268; clear HB; have HO272 := n0_; have BK268 := n1_; have HB := n2_; clear n0_ n1_ n2_; (try clear hb); (try clear hb2); (try clear hk); (try clear hi); (try clear ho0); obtain ⟨Ao14, co14, eo14⟩ := Kd.R_slice HO272.out; subst eo14) | (go_at_call 73; (with_reducible refine (impl_foesOk.calls k _ _ t270 12 _ _ ?side1 ?side2 (Aside0.out (by assumption))).mono ?_); (case side1 => exact m70_); (case side2 => exact (Kd.R_reads' HO272.out).2.1); rintro e w15 ⟨rfl, hb⟩; have n0_ := Aside0.mk (Kd.R_below m93_ hb); have n1_ := Aside0.mk (blk_below (g := gb268) (o := .cells #[.slice A0_0 l0_0.length c0_0, .slice A0_1 l0_1.length c0_1, .slice A0_2 l0_2.length c0_2, .slice A0_3 l0_3.length c0_3] 34 (0, 0)) m5_ hb); have n2_ := Aside0.mk (below_step m1_ hb); clear HO272; clear BK268; clear HB; have HO272 := n0_; have BK268 := n1_; have HB := n2_; clear n0_ n1_ n2_; (try clear hb); (try clear hb2); (try clear hk); (try clear hi); obtain ⟨hcz16_0, hcz16_1, hcz16_2, hcz16_3⟩ := cz4_ BK268.out; obtain ⟨hfz16_0, hfz16_1, hfz16_2, hfz16_3⟩ := fz4_ BK268.out)); try go_wp2_with (first | (go_at_call 72; (with_reducible refine (impl_names.calls k _ _ l0_0 _ _ ?side1 ?side2 (Aside0.out (by assumption))).mono ?_); (case side1 => exact m7_); (case side2 => exact HC0_0.out); rintro e w' ⟨rfl, ⟨nd, rfl⟩⟩; (try exact m2_)) | (go_at_call 74; (with_reducible refine (impl_Plant_pairs.calls k _ _ l0_0 _ _ l0_1 _ _ l0_2 _ _ l0_3 _ _ ?side1 ?side2 ?side3 ?side4 ?side5 ?side6 ?side7 ?side8 (Aside0.out (by assumption))).mono ?_); (case side1 => exact m71_); (case side2 => exact HC0_0.out); (case side3 => exact m72_); (case side4 => exact HC0_1.out); (case side5 => exact m73_); (case side6 => exact HC0_2.out); (case side7 => exact m74_); (case side8 => exact HC0_3.out); rintro e w13 ⟨v271, rfl, ho0, hb⟩; have n0_ := Aside0.mk (Kd.R_lower ho0 (below_size m1_)); have n1_ := Aside0.mk (blk_below (g := gb268) (o := .cells #[.slice A0_0 l0_0.length c0_0, .slice A0_1 l0_1.length c0_1, .slice A0_2 l0_2.length c0_2, .slice A0_3 l0_3.length c0_3] 34 (0, 0)) m5_ hb); have n2_ := Aside0.mk (below_step m1_ hb); clear BK268; clear HB; have HO272 := n0_; have BK268 := n1_; have HB := n2_; clear n0_ n1_ n2_; (try clear hb); (try clear hb2); (try clear hk); (try clear hi); (try clear ho0); obtain ⟨Ao14, co14, eo14⟩ := Kd.R_slice HO272.out; subst eo14) | (go_at_call 73; (with_reducible refine (impl_foesOk.calls k _ _ t270 12 _ _ ?side1 ?side2 (Aside0.out (by assumption))).mono ?_); (case side1 => exact m70_); (case side2 => exact (Kd.R_reads' HO272.out).2.1); rintro e w15 ⟨rfl, hb⟩; have n0_ := Aside0.mk (Kd.R_below m93_ hb); have n1_ := Aside0.mk (blk_below (g := gb268) (o := .cells #[.slice A0_0 l0_0.length c0_0, .slice A0_1 l0_1.length c0_1, .slice A0_2 l0_2.length c0_2, .slice A0_3 l0_3.length c0_3] 34 (0, 0)) m5_ hb); have n2_ := Aside0.mk (below_step m1_ hb); clear HO272; clear BK268; clear HB; have HO272 := n0_; have BK268 := n1_; have HB := n2_; clear n0_ n1_ n2_; (try clear hb); (try clear hb2); (try clear hk); (try clear hi); obtain ⟨hcz16_0, hcz16_1, hcz16_2, hcz16_3⟩ := cz4_ BK268.out; obtain ⟨hfz16_0, hfz16_1, hfz16_2, hfz16_3⟩ := fz4_ BK268.out)))
     go_meet
     case rel => exact ⟨_, _, m8_, H', ⟨(by first | omega | exact Nat.le_refl _)⟩, ⟨m5_⟩, ⟨m1_⟩⟩)
    | (
     obtain ⟨hcz22_0, hcz22_1, hcz22_2, hcz22_3⟩ := cz4_ BK268.out
     obtain ⟨hfz22_0, hfz22_1, hfz22_2, hfz22_3⟩ := fz4_ BK268.out
     go_wp2_with (first | (go_at_call 72; (with_reducible refine (impl_names.calls k _ _ l0_0 _ _ ?side1 ?side2 (Aside0.out (by assumption))).mono ?_); (case side1 => exact m7_); (case side2 => exact HC0_0.out); rintro e w' ⟨rfl, ⟨nd, rfl⟩⟩; (try exact m2_)) | (go_at_call 74; (with_reducible refine (impl_Plant_pairs.calls k _ _ l0_0 _ _ l0_1 _ _ l0_2 _ _ l0_3 _ _ ?side1 ?side2 ?side3 ?side4 ?side5 ?side6 ?side7 ?side8 (Aside0.out (by assumption))).mono ?_); (case side1 => exact m71_); (case side2 => exact HC0_0.out); (case side3 => exact m72_); (case side4 => exact HC0_1.out); (case side5 => exact m73_); (case side6 => exact HC0_2.out); (case side7 => exact m74_); (case side8 => exact HC0_3.out); rintro e w23 ⟨v271, rfl, ho0, hb⟩; have n0_ := Aside0.mk (Kd.R_lower ho0 (below_size m1_)); have n1_ := Aside0.mk (blk_below (g := gb268) (o := .cells #[.slice A0_0 l0_0.length c0_0, .slice A0_1 l0_1.length c0_1, .slice A0_2 l0_2.length c0_2, .slice A0_3 l0_3.length c0_3] 34 (0, 0)) m5_ hb); have n2_ := Aside0.mk (below_step m1_ hb); clear BK268; clear HB; have HO272 := n0_; have BK268 := n1_; have HB := n2_; clear n0_ n1_ n2_; (try clear hb); (try clear hb2); (try clear hk); (try clear hi); (try clear ho0); obtain ⟨Ao24, co24, eo24⟩ := Kd.R_slice HO272.out; subst eo24) | (go_at_call 73; (with_reducible refine (impl_foesOk.calls k _ _ t270 12 _ _ ?side1 ?side2 (Aside0.out (by assumption))).mono ?_); (case side1 => exact m70_); (case side2 => exact (Kd.R_reads' HO272.out).2.1); rintro e w25 ⟨rfl, hb⟩; have n0_ := Aside0.mk (Kd.R_below m93_ hb); have n1_ := Aside0.mk (blk_below (g := gb268) (o := .cells #[.slice A0_0 l0_0.length c0_0, .slice A0_1 l0_1.length c0_1, .slice A0_2 l0_2.length c0_2, .slice A0_3 l0_3.length c0_3] 34 (0, 0)) m5_ hb); have n2_ := Aside0.mk (below_step m1_ hb); clear HO272; clear BK268; clear HB; have HO272 := n0_; have BK268 := n1_; have HB := n2_; clear n0_ n1_ n2_; (try clear hb); (try clear hb2); (try clear hk); (try clear hi)))
     repeat (go_quiet (first | (go_at_call 72; (with_reducible refine (impl_names.calls k _ _ l0_0 _ _ ?side1 ?side2 (Aside0.out (by assumption))).mono ?_); (case side1 => exact m7_); (case side2 => exact HC0_0.out); rintro e w' ⟨rfl, ⟨nd, rfl⟩⟩; (try exact m2_)) | (go_at_call 74; (with_reducible refine (impl_Plant_pairs.calls k _ _ l0_0 _ _ l0_1 _ _ l0_2 _ _ l0_3 _ _ ?side1 ?side2 ?side3 ?side4 ?side5 ?side6 ?side7 ?side8 (Aside0.out (by assumption))).mono ?_); (case side1 => exact m71_); (case side2 => exact HC0_0.out); (case side3 => exact m72_); (case side4 => exact HC0_1.out); (case side5 => exact m73_); (case side6 => exact HC0_2.out); (case side7 => exact m74_); (case side8 => exact HC0_3.out); rintro e w23 ⟨v271, rfl, ho0, hb⟩; have n0_ := Aside0.mk (Kd.R_lower ho0 (below_size m1_)); have n1_ := Aside0.mk (blk_below (g := gb268) (o := .cells #[.slice A0_0 l0_0.length c0_0, .slice A0_1 l0_1.length c0_1, .slice A0_2 l0_2.length c0_2, .slice A0_3 l0_3.length c0_3] 34 (0, 0)) m5_ hb); have n2_ := Aside0.mk (below_step m1_ hb); clear BK268; clear HB; have HO272 := n0_; have BK268 := n1_; have HB := n2_; clear n0_ n1_ n2_; (try clear hb); (try clear hb2); (try clear hk); (try clear hi); (try clear ho0); obtain ⟨Ao24, co24, eo24⟩ := Kd.R_slice HO272.out; subst eo24) | (go_at_call 73; (with_reducible refine (impl_foesOk.calls k _ _ t270 12 _ _ ?side1 ?side2 (Aside0.out (by assumption))).mono ?_); (case side1 => exact m70_); (case side2 => exact (Kd.R_reads' HO272.out).2.1); rintro e w25 ⟨rfl, hb⟩; have n0_ := Aside0.mk (Kd.R_below m93_ hb); have n1_ := Aside0.mk (blk_below (g := gb268) (o := .cells #[.slice A0_0 l0_0.length c0_0, .slice A0_1 l0_1.length c0_1, .slice A0_2 l0_2.length c0_2, .slice A0_3 l0_3.length c0_3] 34 (0, 0)) m5_ hb); have n2_ := Aside0.mk (below_step m1_ hb); clear HO272; clear BK268; clear HB; have HO272 := n0_; have BK268 := n1_; have HB := n2_; clear n0_ n1_ n2_; (try clear hb); (try clear hb2); (try clear hk); (try clear hi))); try go_wp2_with (first | (go_at_call 72; (with_reducible refine (impl_names.calls k _ _ l0_0 _ _ ?side1 ?side2 (Aside0.out (by assumption))).mono ?_); (case side1 => exact m7_); (case side2 => exact HC0_0.out); rintro e w' ⟨rfl, ⟨nd, rfl⟩⟩; (try exact m2_)) | (go_at_call 74; (with_reducible refine (impl_Plant_pairs.calls k _ _ l0_0 _ _ l0_1 _ _ l0_2 _ _ l0_3 _ _ ?side1 ?side2 ?side3 ?side4 ?side5 ?side6 ?side7 ?side8 (Aside0.out (by assumption))).mono ?_); (case side1 => exact m71_); (case side2 => exact HC0_0.out); (case side3 => exact m72_); (case side4 => exact HC0_1.out); (case side5 => exact m73_); (case side6 => exact HC0_2.out); (case side7 => exact m74_); (case side8 => exact HC0_3.out); rintro e w23 ⟨v271, rfl, ho0, hb⟩; have n0_ := Aside0.mk (Kd.R_lower ho0 (below_size m1_)); have n1_ := Aside0.mk (blk_below (g := gb268) (o := .cells #[.slice A0_0 l0_0.length c0_0, .slice A0_1 l0_1.length c0_1, .slice A0_2 l0_2.length c0_2, .slice A0_3 l0_3.length c0_3] 34 (0, 0)) m5_ hb); have n2_ := Aside0.mk (below_step m1_ hb); clear BK268; clear HB; have HO272 := n0_; have BK268 := n1_; have HB := n2_; clear n0_ n1_ n2_; (try clear hb); (try clear hb2); (try clear hk); (try clear hi); (try clear ho0); obtain ⟨Ao24, co24, eo24⟩ := Kd.R_slice HO272.out; subst eo24) | (go_at_call 73; (with_reducible refine (impl_foesOk.calls k _ _ t270 12 _ _ ?side1 ?side2 (Aside0.out (by assumption))).mono ?_); (case side1 => exact m70_); (case side2 => exact (Kd.R_reads' HO272.out).2.1); rintro e w25 ⟨rfl, hb⟩; have n0_ := Aside0.mk (Kd.R_below m93_ hb); have n1_ := Aside0.mk (blk_below (g := gb268) (o := .cells #[.slice A0_0 l0_0.length c0_0, .slice A0_1 l0_1.length c0_1, .slice A0_2 l0_2.length c0_2, .slice A0_3 l0_3.length c0_3] 34 (0, 0)) m5_ hb); have n2_ := Aside0.mk (below_step m1_ hb); clear HO272; clear BK268; clear HB; have HO272 := n0_; have BK268 := n1_; have HB := n2_; clear n0_ n1_ n2_; (try clear hb); (try clear hb2); (try clear hk); (try clear hi))))
     go_meet
     case rel => exact ⟨_, _, m8_, H', ⟨(by first | omega | exact Nat.le_refl _)⟩, ⟨m5_⟩, ⟨m1_⟩⟩)
    | (
     obtain ⟨hcz26_0, hcz26_1, hcz26_2, hcz26_3⟩ := cz4_ BK268.out
     obtain ⟨hfz26_0, hfz26_1, hfz26_2, hfz26_3⟩ := fz4_ BK268.out
     go_wp2_with (first | (go_at_call 72; (with_reducible refine (impl_names.calls k _ _ l0_0 _ _ ?side1 ?side2 (Aside0.out (by assumption))).mono ?_); (case side1 => exact m7_); (case side2 => exact HC0_0.out); rintro e w' ⟨rfl, ⟨nd, rfl⟩⟩; (try exact m2_)))
     repeat (go_quiet (first | (go_at_call 72; (with_reducible refine (impl_names.calls k _ _ l0_0 _ _ ?side1 ?side2 (Aside0.out (by assumption))).mono ?_); (case side1 => exact m7_); (case side2 => exact HC0_0.out); rintro e w' ⟨rfl, ⟨nd, rfl⟩⟩; (try exact m2_))); try go_wp2_with (first | (go_at_call 72; (with_reducible refine (impl_names.calls k _ _ l0_0 _ _ ?side1 ?side2 (Aside0.out (by assumption))).mono ?_); (case side1 => exact m7_); (case side2 => exact HC0_0.out); rintro e w' ⟨rfl, ⟨nd, rfl⟩⟩; (try exact m2_))))
     go_meet
     case rel => exact ⟨_, _, m8_, H', ⟨(by first | omega | exact Nat.le_refl _)⟩, ⟨m5_⟩, ⟨m1_⟩⟩)
 case rest =>
  clear HC2
  try clear c1
  try clear p2
  try clear c4
  try clear c4b0
  try clear c4b1
  try clear c7
  try clear c10
  try clear c11
  try clear c11b0
  try clear c11b1
  try clear c17
  try clear hcz12_0
  try clear hcz12_1
  try clear hcz12_2
  try clear hcz12_3
  try clear hcz16_0
  try clear hcz16_1
  try clear hcz16_2
  try clear hcz16_3
  try clear hcz17_0
  try clear hcz17_1
  try clear hcz17_2
  try clear hcz17_3
  try clear hcz21_0
  try clear hcz21_1
  try clear hcz21_2
  try clear hcz21_3
  try clear hcz22_0
  try clear hcz22_1
  try clear hcz22_2
  try clear hcz22_3
  try clear hcz26_0
  try clear hcz26_1
  try clear hcz26_2
  try clear hcz26_3
  try clear hcz5_0
  try clear hcz5_1
  try clear hcz5_2
  try clear hcz5_3
  try clear hfz12_0
  try clear hfz12_1
  try clear hfz12_2
  try clear hfz12_3
  try clear hfz16_0
  try clear hfz16_1
  try clear hfz16_2
  try clear hfz16_3
  try clear hfz17_0
  try clear hfz17_1
  try clear hfz17_2
  try clear hfz17_3
  try clear hfz21_0
  try clear hfz21_1
  try clear hfz21_2
  try clear hfz21_3
  try clear hfz22_0
  try clear hfz22_1
  try clear hfz22_2
  try clear hfz22_3
  try clear hfz26_0
  try clear hfz26_1
  try clear hfz26_2
  try clear hfz26_3
  try clear hfz5_0
  try clear hfz5_1
  try clear hfz5_2
  try clear hfz5_3
  obtain ⟨kq, x40_1, rfl, HA, HJ1, BK268, HB⟩ := hcut
  cases kq with
  | zero => exact absurd HA.out (by simp [impl_PlantValid.j0])
  | succ kj1 =>
   have H := HA.out
   clear HA
   simp only [impl_PlantValid.j0] at H
   by_cases c27 : x40_1 = true
   ·subst c27
    have H1 : (some false) = some r := by rw [if_pos rfl] at H; exact H
    clear H
    have H := H1
    clear H1
    obtain rfl := Option.some.inj H
    go_wp2
    repeat (go_quiet (fail); try go_wp2)
    go_ret
    exact ⟨m6_, m1_⟩
   ·replace c27 := Bool.eq_false_iff.mpr c27
    subst c27
    have H1 : (impl_PlantValid.l0 kj1 l0_1 (l0_1.length : Int) 0 l0_0 l0_1 l0_2 l0_3) = some r := by rw [if_neg (show ¬ (false = true) by decide)] at H; exact H
    clear H
    have H := H1
    clear H1
    have H' := Aside0.mk H
    clear H
    obtain ⟨hcz28_0, hcz28_1, hcz28_2, hcz28_3⟩ := cz4_ BK268.out
    obtain ⟨hfz28_0, hfz28_1, hfz28_2, hfz28_3⟩ := fz4_ BK268.out
    go_wp2
    repeat (go_quiet (fail); try go_wp2)
    go_loopg [44] kj1 (fun kq v44 w' => ∃ (x44_2 : Int), v44 = .int .i64 x44_2 ∧ Aside0 (impl_PlantValid.l0 kq l0_1 (l0_1.length : Int) x44_2 l0_0 l0_1 l0_2 l0_3 = some r) ∧ Aside0 (kq ≤ kj1) ∧ Aside0 (w'.heap[gb268]? = some (.cells #[(.slice A0_0 l0_0.length c0_0), (.slice A0_1 l0_1.length c0_1), (.slice A0_2 l0_2.length c0_2), (.slice A0_3 l0_3.length c0_3)] 34 (0, 0))) ∧ Aside0 (Below w.heap.size w w'))
    case atStart => exact ⟨(0), m8_, H', ⟨Nat.le_refl _⟩, ⟨m5_⟩, ⟨m1_⟩⟩
    case round =>
     clear H'
     try clear c1
     try clear c2
     try clear p2
     try clear c4
     try clear c4b0
     try clear c4b1
     try clear c7
     try clear c10
     try clear c11
     try clear c11b0
     try clear c11b1
     try clear c17
     try clear c27
     try clear hcz12_0
     try clear hcz12_1
     try clear hcz12_2
     try clear hcz12_3
     try clear hcz16_0
     try clear hcz16_1
     try clear hcz16_2
     try clear hcz16_3
     try clear hcz17_0
     try clear hcz17_1
     try clear hcz17_2
     try clear hcz17_3
     try clear hcz21_0
     try clear hcz21_1
     try clear hcz21_2
     try clear hcz21_3
     try clear hcz22_0
     try clear hcz22_1
     try clear hcz22_2
     try clear hcz22_3
     try clear hcz26_0
     try clear hcz26_1
     try clear hcz26_2
     try clear hcz26_3
     try clear hcz28_0
     try clear hcz28_1
     try clear hcz28_2
     try clear hcz28_3
     try clear hcz5_0
     try clear hcz5_1
     try clear hcz5_2
     try clear hcz5_3
     try clear hfz12_0
     try clear hfz12_1
     try clear hfz12_2
     try clear hfz12_3
     try clear hfz16_0
     try clear hfz16_1
     try clear hfz16_2
     try clear hfz16_3
     try clear hfz17_0
     try clear hfz17_1
     try clear hfz17_2
     try clear hfz17_3
     try clear hfz21_0
     try clear hfz21_1
     try clear hfz21_2
     try clear hfz21_3
     try clear hfz22_0
     try clear hfz22_1
     try clear hfz22_2
     try clear hfz22_3
     try clear hfz26_0
     try clear hfz26_1
     try clear hfz26_2
     try clear hfz26_3
     try clear hfz28_0
     try clear hfz28_1
     try clear hfz28_2
     try clear hfz28_3
     try clear hfz5_0
     try clear hfz5_1
     try clear hfz5_2
     try clear hfz5_3
     try clear p2
     obtain ⟨x44_2, rfl, HA, HK2, BK268, HB⟩ := hrel
     cases gk with
     | zero => exact absurd HA.out (by simp [impl_PlantValid.l0])
     | succ k2 =>
      have H := HA.out
      clear HA
      simp only [impl_PlantValid.l0] at H
      by_cases c29 : x44_2 < (l0_1.length : Int)
      ·rw [if_pos c29] at H
       have c29b0 : decide (x44_2 < (l0_1.length : Int)) = true := decide_eq_true c29
       clear c29
       by_cases c30 : 0 ≤ x44_2
       ·rw [if_pos c30] at H
        have c30b0 : decide (0 ≤ x44_2) = true := decide_eq_true c30
        clear c30
        by_cases c31 : x44_2 < (l0_1.length : Int)
        ·rw [if_pos c31] at H
         have c31b0 : decide (x44_2 < (l0_1.length : Int)) = true := decide_eq_true c31
         clear c31
         replace H := Option.bind_eq_some_iff.mp H
         obtain ⟨t276, A320, H⟩ := H
         replace H : (if t276 = true then ((impl_has.f k2 l0_0 ((rd_T105 l0_1 x44_2).f1)).bind fun t277 => (if t277 = true then (impl_PlantValid.l0 k2 l0_1 (l0_1.length : Int) (wrap64 (x44_2 + 1)) l0_0 l0_1 l0_2 l0_3) else (some false))) else (some false)) = some r := H
         have A32 := Aside0.mk A320
         clear A320
         by_cases c33 : t276 = true
         ·subst c33
          have H1 : ((impl_has.f k2 l0_0 ((rd_T105 l0_1 x44_2).f1)).bind fun t277 => (if t277 = true then (impl_PlantValid.l0 k2 l0_1 (l0_1.length : Int) (wrap64 (x44_2 + 1)) l0_0 l0_1 l0_2 l0_3) else (some false))) = some r := by rw [if_pos rfl] at H; exact H
          clear H
          have H := H1
          clear H1
          replace H := Option.bind_eq_some_iff.mp H
          obtain ⟨t277, A340, H⟩ := H
          replace H : (if t277 = true then (impl_PlantValid.l0 k2 l0_1 (l0_1.length : Int) (wrap64 (x44_2 + 1)) l0_0 l0_1 l0_2 l0_3) else (some false)) = some r := H
          have A34 := Aside0.mk A340
          clear A340
          by_cases c35 : t277 = true
          ·subst c35
           have H1 : (impl_PlantValid.l0 k2 l0_1 (l0_1.length : Int) (wrap64 (x44_2 + 1)) l0_0 l0_1 l0_2 l0_3) = some r := by rw [if_pos rfl] at H; exact H
           clear H
           have H := H1
           clear H1
           have H' := Aside0.mk H
           clear H
           have p274 : 0 ≤ (x44_2 : Int) := of_decide_eq_true m4_
           have q274 : x44_2 < (l0_1.length : Int) := of_decide_eq_true m4_
           obtain ⟨ad274, e274, hx274_0, hx274_1⟩ := at_T105 HR0_1.out x44_2 p274 q274
           cases e274
           replace hx274_0 := (HB.out.cell (World.block_lt_of_cell? w _ hx274_0)).trans hx274_0
           replace hx274_1 := (HB.out.cell (World.block_lt_of_cell? w _ hx274_1)).trans hx274_1
           replace p274 := eq_true p274
           replace q274 := eq_true q274
           go_wp2_with (first | ((with_reducible refine gate_dst (N := 4) rfl ?_); (try (refine gate_guard (by rfl) ?_; dsimp only)); refine box_event ?hg (N := 4) ?hd (cs := #[.string (⟨#[]⟩ : ByteArray), .string (⟨#[]⟩ : ByteArray)]) (t := 105) ?hr ?_; (case hd => rfl); (case hg => rfl); (case hr => first | (go_simp; done) | (go_simp; rfl)); intro gb275 hg w36 hbox hb; have n0_ := Aside0.mk (blk_below (g := gb268) (o := .cells #[.slice A0_0 l0_0.length c0_0, .slice (some ad274) l0_1.length c0_1, .slice A0_2 l0_2.length c0_2, .slice A0_3 l0_3.length c0_3] 34 (0, 0)) m5_ hb); have n1_ := Aside0.mk (below_step m1_ hb); have n2_ := Aside0.mk (hbox); have n3_ := Aside0.mk ((by rw [hg]; exact (below_size m1_) : w.heap.size ≤ gb275)); have n4_ := Aside0.mk ((by rw [hg]; exact (below_size m1_) : w.heap.size ≤ gb275)); have n5_ := Aside0.mk ((by rw [hg]; exact Nat.ne_of_lt (blk_lt (g := gb268) (o := .cells #[.slice A0_0 l0_0.length c0_0, .slice (some ad274) l0_1.length c0_1, .slice A0_2 l0_2.length c0_2, .slice A0_3 l0_3.length c0_3] 34 (0, 0)) m5_) : gb268 ≠ gb275)); have n6_ := Aside0.mk ((by rw [hg]; exact Nat.ne_of_gt (blk_lt (g := gb268) (o := .cells #[.slice A0_0 l0_0.length c0_0, .slice (some ad274) l0_1.length c0_1, .slice A0_2 l0_2.length c0_2, .slice A0_3 l0_3.length c0_3] 34 (0, 0)) m5_) : gb275 ≠ gb268)); clear BK268; clear HB; have BK268 := n0_; have HB := n1_; have BK275 := n2_; have GW275 := n3_; have GE275 := n4_; have NB268_275 := n5_; have NB275_268 := n6_; clear n0_ n1_ n2_ n3_ n4_ n5_ n6_; clear hb hbox hg; have hnb37 := NB275_268.out; have hnc37 := NB268_275.out; obtain ⟨hcz38_0, hcz38_1⟩ := cz2_ BK275.out; obtain ⟨hfz38_0, hfz38_1⟩ := fz2_ BK275.out; obtain ⟨hcz39_0, hcz39_1, hcz39_2, hcz39_3⟩ := cz4_ BK268.out; obtain ⟨hfz39_0, hfz39_1, hfz39_2, hfz39_3⟩ := fz4_ BK268.out) | (go_at_call 75; (with_reducible refine (impl_has.calls k2 _ _ l0_0 ((rd_T105 l0_1 x44_2).f0) true _ ?side1 ?side2 A32.out).mono ?_); (case side1 => exact Kd.C_below HR0_0.out m17_); (case side2 => exact HC0_0.out); rintro e w' ⟨rfl, ⟨nd, rfl⟩⟩; (try exact m2_)) | (go_at_call 75; (with_reducible refine (impl_has.calls k2 _ _ l0_0 ((rd_T105 l0_1 x44_2).f1) true _ ?side1 ?side2 A34.out).mono ?_); (case side1 => exact Kd.C_below HR0_0.out m17_); (case side2 => exact HC0_0.out); rintro e w' ⟨rfl, ⟨nd, rfl⟩⟩; (try exact m2_)))
           repeat (go_quiet (first | ((with_reducible refine gate_dst (N := 4) rfl ?_); (try (refine gate_guard (by rfl) ?_; dsimp only)); refine box_event ?hg (N := 4) ?hd (cs := #[.string (⟨#[]⟩ : ByteArray), .string (⟨#[]⟩ : ByteArray)]) (t := 105) ?hr ?_; (case hd => rfl); (case hg => rfl); (case hr => first | (go_simp; done) | (go_simp; rfl)); intro gb275 hg w36 hbox hb; have n0_ := Aside0.mk (blk_below (g := gb268) (o := .cells #[.slice A0_0 l0_0.length c0_0, .slice (some ad274) l0_1.length c0_1, .slice A0_2 l0_2.length c0_2, .slice A0_3 l0_3.length c0_3] 34 (0, 0)) m5_ hb); have n1_ := Aside0.mk (below_step m1_ hb); have n2_ := Aside0.mk (hbox); have n3_ := Aside0.mk ((by rw [hg]; exact (below_size m1_) : w.heap.size ≤ gb275)); have n4_ := Aside0.mk ((by rw [hg]; exact (below_size m1_) : w.heap.size ≤ gb275)); have n5_ := Aside0.mk ((by rw [hg]; exact Nat.ne_of_lt (blk_lt (g := gb268) (o := .cells #[.slice A0_0 l0_0.length c0_0, .slice (some ad274) l0_1.length c0_1, .slice A0_2 l0_2.length c0_2, .slice A0_3 l0_3.length c0_3] 34 (0, 0)) m5_) : gb268 ≠ gb275)); have n6_ := Aside0.mk ((by rw [hg]; exact Nat.ne_of_gt (blk_lt (g := gb268) (o := .cells #[.slice A0_0 l0_0.length c0_0, .slice (some ad274) l0_1.length c0_1, .slice A0_2 l0_2.length c0_2, .slice A0_3 l0_3.length c0_3] 34 (0, 0)) m5_) : gb275 ≠ gb268)); clear BK268; clear HB; have BK268 := n0_; have HB := n1_; have BK275 := n2_; have GW275 := n3_; have GE275 := n4_; have NB268_275 := n5_; have NB275_268 := n6_; clear n0_ n1_ n2_ n3_ n4_ n5_ n6_; clear hb hbox hg; have hnb37 := NB275_268.out; have hnc37 := NB268_275.out; obtain ⟨hcz38_0, hcz38_1⟩ := cz2_ BK275.out; obtain ⟨hfz38_0, hfz38_1⟩ := fz2_ BK275.out; obtain ⟨hcz39_0, hcz39_1, hcz39_2, hcz39_3⟩ := cz4_ BK268.out; obtain ⟨hfz39_0, hfz39_1, hfz39_2, hfz39_3⟩ := fz4_ BK268.out) | (go_at_call 75; (with_reducible refine (impl_has.calls k2 _ _ l0_0 ((rd_T105 l0_1 x44_2).f0) true _ ?side1 ?side2 A32.out).mono ?_); (case side1 => exact Kd.C_below HR0_0.out m17_); (case side2 => exact HC0_0.out); rintro e w' ⟨rfl, ⟨nd, rfl⟩⟩; (try exact m2_)) | (go_at_call 75; (with_reducible refine (impl_has.calls k2 _ _ l0_0 ((rd_T105 l0_1 x44_2).f1) true _ ?side1 ?side2 A34.out).mono ?_); (case side1 => exact Kd.C_below HR0_0.out m17_); (case side2 => exact HC0_0.out); rintro e w' ⟨rfl, ⟨nd, rfl⟩⟩; (try exact m2_))); try go_wp2_with (first | ((with_reducible refine gate_dst (N := 4) rfl ?_); (try (refine gate_guard (by rfl) ?_; dsimp only)); refine box_event ?hg (N := 4) ?hd (cs := #[.string (⟨#[]⟩ : ByteArray), .string (⟨#[]⟩ : ByteArray)]) (t := 105) ?hr ?_; (case hd => rfl); (case hg => rfl); (case hr => first | (go_simp; done) | (go_simp; rfl)); intro gb275 hg w36 hbox hb; have n0_ := Aside0.mk (blk_below (g := gb268) (o := .cells #[.slice A0_0 l0_0.length c0_0, .slice (some ad274) l0_1.length c0_1, .slice A0_2 l0_2.length c0_2, .slice A0_3 l0_3.length c0_3] 34 (0, 0)) m5_ hb); have n1_ := Aside0.mk (below_step m1_ hb); have n2_ := Aside0.mk (hbox); have n3_ := Aside0.mk ((by rw [hg]; exact (below_size m1_) : w.heap.size ≤ gb275)); have n4_ := Aside0.mk ((by rw [hg]; exact (below_size m1_) : w.heap.size ≤ gb275)); have n5_ := Aside0.mk ((by rw [hg]; exact Nat.ne_of_lt (blk_lt (g := gb268) (o := .cells #[.slice A0_0 l0_0.length c0_0, .slice (some ad274) l0_1.length c0_1, .slice A0_2 l0_2.length c0_2, .slice A0_3 l0_3.length c0_3] 34 (0, 0)) m5_) : gb268 ≠ gb275)); have n6_ := Aside0.mk ((by rw [hg]; exact Nat.ne_of_gt (blk_lt (g := gb268) (o := .cells #[.slice A0_0 l0_0.length c0_0, .slice (some ad274) l0_1.length c0_1, .slice A0_2 l0_2.length c0_2, .slice A0_3 l0_3.length c0_3] 34 (0, 0)) m5_) : gb275 ≠ gb268)); clear BK268; clear HB; have BK268 := n0_; have HB := n1_; have BK275 := n2_; have GW275 := n3_; have GE275 := n4_; have NB268_275 := n5_; have NB275_268 := n6_; clear n0_ n1_ n2_ n3_ n4_ n5_ n6_; clear hb hbox hg; have hnb37 := NB275_268.out; have hnc37 := NB268_275.out; obtain ⟨hcz38_0, hcz38_1⟩ := cz2_ BK275.out; obtain ⟨hfz38_0, hfz38_1⟩ := fz2_ BK275.out; obtain ⟨hcz39_0, hcz39_1, hcz39_2, hcz39_3⟩ := cz4_ BK268.out; obtain ⟨hfz39_0, hfz39_1, hfz39_2, hfz39_3⟩ := fz4_ BK268.out) | (go_at_call 75; (with_reducible refine (impl_has.calls k2 _ _ l0_0 ((rd_T105 l0_1 x44_2).f0) true _ ?side1 ?side2 A32.out).mono ?_); (case side1 => exact Kd.C_below HR0_0.out m17_); (case side2 => exact HC0_0.out); rintro e w' ⟨rfl, ⟨nd, rfl⟩⟩; (try exact m2_)) | (go_at_call 75; (with_reducible refine (impl_has.calls k2 _ _ l0_0 ((rd_T105 l0_1 x44_2).f1) true _ ?side1 ?side2 A34.out).mono ?_); (case side1 => exact Kd.C_below HR0_0.out m17_); (case side2 => exact HC0_0.out); rintro e w' ⟨rfl, ⟨nd, rfl⟩⟩; (try exact m2_))))
           go_roundg k2
           case measure => have := HJ1.out; have := HK2.out; omega
           case rel => exact ⟨(wrap64 (x44_2 + 1)), m8_, H', ⟨(by have := HJ1.out; have := HK2.out; omega)⟩, ⟨(by (with_reducible repeat (first | refine blk_drewN ?_ _ | refine blk_drew ?_ | refine blk_alloc ?_ _)); refine blk_far ?_ NB268_275.out _; (with_reducible repeat (first | refine blk_drewN ?_ _ | refine blk_drew ?_ | refine blk_alloc ?_ _)); refine blk_far ?_ NB268_275.out _; (with_reducible repeat (first | refine blk_drewN ?_ _ | refine blk_drew ?_ | refine blk_alloc ?_ _)); exact BK268.out)⟩, ⟨m17_⟩⟩
          ·replace c35 := Bool.eq_false_iff.mpr c35
           subst c35
           have H1 : (some false) = some r := by rw [if_neg (show ¬ (false = true) by decide)] at H; exact H
           clear H
           have H := H1
           clear H1
           obtain rfl := Option.some.inj H
           have p274 : 0 ≤ (x44_2 : Int) := of_decide_eq_true m4_
           have q274 : x44_2 < (l0_1.length : Int) := of_decide_eq_true m4_
           obtain ⟨ad274, e274, hx274_0, hx274_1⟩ := at_T105 HR0_1.out x44_2 p274 q274
           cases e274
           replace hx274_0 := (HB.out.cell (World.block_lt_of_cell? w _ hx274_0)).trans hx274_0
           replace hx274_1 := (HB.out.cell (World.block_lt_of_cell? w _ hx274_1)).trans hx274_1
           replace p274 := eq_true p274
           replace q274 := eq_true q274
           go_wp2_with (first | ((with_reducible refine gate_dst (N := 4) rfl ?_); (try (refine gate_guard (by rfl) ?_; dsimp only)); refine box_event ?hg (N := 4) ?hd (cs := #[.string (⟨#[]⟩ : ByteArray), .string (⟨#[]⟩ : ByteArray)]) (t := 105) ?hr ?_; (case hd => rfl); (case hg => rfl); (case hr => first | (go_simp; done) | (go_simp; rfl)); intro gb275 hg w40 hbox hb; have n0_ := Aside0.mk (blk_below (g := gb268) (o := .cells #[.slice A0_0 l0_0.length c0_0, .slice (some ad274) l0_1.length c0_1, .slice A0_2 l0_2.length c0_2, .slice A0_3 l0_3.length c0_3] 34 (0, 0)) m5_ hb); have n1_ := Aside0.mk (below_step m1_ hb); have n2_ := Aside0.mk (hbox); have n3_ := Aside0.mk ((by rw [hg]; exact (below_size m1_) : w.heap.size ≤ gb275)); have n4_ := Aside0.mk ((by rw [hg]; exact (below_size m1_) : w.heap.size ≤ gb275)); have n5_ := Aside0.mk ((by rw [hg]; exact Nat.ne_of_lt (blk_lt (g := gb268) (o := .cells #[.slice A0_0 l0_0.length c0_0, .slice (some ad274) l0_1.length c0_1, .slice A0_2 l0_2.length c0_2, .slice A0_3 l0_3.length c0_3] 34 (0, 0)) m5_) : gb268 ≠ gb275)); have n6_ := Aside0.mk ((by rw [hg]; exact Nat.ne_of_gt (blk_lt (g := gb268) (o := .cells #[.slice A0_0 l0_0.length c0_0, .slice (some ad274) l0_1.length c0_1, .slice A0_2 l0_2.length c0_2, .slice A0_3 l0_3.length c0_3] 34 (0, 0)) m5_) : gb275 ≠ gb268)); clear BK268; clear HB; have BK268 := n0_; have HB := n1_; have BK275 := n2_; have GW275 := n3_; have GE275 := n4_; have NB268_275 := n5_; have NB275_268 := n6_; clear n0_ n1_ n2_ n3_ n4_ n5_ n6_; clear hb hbox hg; have hnb41 := NB275_268.out; have hnc41 := NB268_275.out; obtain ⟨hcz42_0, hcz42_1⟩ := cz2_ BK275.out; obtain ⟨hfz42_0, hfz42_1⟩ := fz2_ BK275.out; obtain ⟨hcz43_0, hcz43_1, hcz43_2, hcz43_3⟩ := cz4_ BK268.out; obtain ⟨hfz43_0, hfz43_1, hfz43_2, hfz43_3⟩ := fz4_ BK268.out) | (go_at_call 75; (with_reducible refine (impl_has.calls k2 _ _ l0_0 ((rd_T105 l0_1 x44_2).f0) true _ ?side1 ?side2 A32.out).mono ?_); (case side1 => exact Kd.C_below HR0_0.out m17_); (case side2 => exact HC0_0.out); rintro e w' ⟨rfl, ⟨nd, rfl⟩⟩; (try exact m2_)) | (go_at_call 75; (with_reducible refine (impl_has.calls k2 _ _ l0_0 ((rd_T105 l0_1 x44_2).f1) false _ ?side1 ?side2 A34.out).mono ?_); (case side1 => exact Kd.C_below HR0_0.out m17_); (case side2 => exact HC0_0.out); rintro e w' ⟨rfl, ⟨nd, rfl⟩⟩; (try exact m2_)))
           repeat (go_quiet (first | ((with_reducible refine gate_dst (N := 4) rfl ?_); (try (refine gate_guard (by rfl) ?_; dsimp only)); refine box_event ?hg (N := 4) ?hd (cs := #[.string (⟨#[]⟩ : ByteArray), .string (⟨#[]⟩ : ByteArray)]) (t := 105) ?hr ?_; (case hd => rfl); (case hg => rfl); (case hr => first | (go_simp; done) | (go_simp; rfl)); intro gb275 hg w40 hbox hb; have n0_ := Aside0.mk (blk_below (g := gb268) (o := .cells #[.slice A0_0 l0_0.length c0_0, .slice (some ad274) l0_1.length c0_1, .slice A0_2 l0_2.length c0_2, .slice A0_3 l0_3.length c0_3] 34 (0, 0)) m5_ hb); have n1_ := Aside0.mk (below_step m1_ hb); have n2_ := Aside0.mk (hbox); have n3_ := Aside0.mk ((by rw [hg]; exact (below_size m1_) : w.heap.size ≤ gb275)); have n4_ := Aside0.mk ((by rw [hg]; exact (below_size m1_) : w.heap.size ≤ gb275)); have n5_ := Aside0.mk ((by rw [hg]; exact Nat.ne_of_lt (blk_lt (g := gb268) (o := .cells #[.slice A0_0 l0_0.length c0_0, .slice (some ad274) l0_1.length c0_1, .slice A0_2 l0_2.length c0_2, .slice A0_3 l0_3.length c0_3] 34 (0, 0)) m5_) : gb268 ≠ gb275)); have n6_ := Aside0.mk ((by rw [hg]; exact Nat.ne_of_gt (blk_lt (g := gb268) (o := .cells #[.slice A0_0 l0_0.length c0_0, .slice (some ad274) l0_1.length c0_1, .slice A0_2 l0_2.length c0_2, .slice A0_3 l0_3.length c0_3] 34 (0, 0)) m5_) : gb275 ≠ gb268)); clear BK268; clear HB; have BK268 := n0_; have HB := n1_; have BK275 := n2_; have GW275 := n3_; have GE275 := n4_; have NB268_275 := n5_; have NB275_268 := n6_; clear n0_ n1_ n2_ n3_ n4_ n5_ n6_; clear hb hbox hg; have hnb41 := NB275_268.out; have hnc41 := NB268_275.out; obtain ⟨hcz42_0, hcz42_1⟩ := cz2_ BK275.out; obtain ⟨hfz42_0, hfz42_1⟩ := fz2_ BK275.out; obtain ⟨hcz43_0, hcz43_1, hcz43_2, hcz43_3⟩ := cz4_ BK268.out; obtain ⟨hfz43_0, hfz43_1, hfz43_2, hfz43_3⟩ := fz4_ BK268.out) | (go_at_call 75; (with_reducible refine (impl_has.calls k2 _ _ l0_0 ((rd_T105 l0_1 x44_2).f0) true _ ?side1 ?side2 A32.out).mono ?_); (case side1 => exact Kd.C_below HR0_0.out m17_); (case side2 => exact HC0_0.out); rintro e w' ⟨rfl, ⟨nd, rfl⟩⟩; (try exact m2_)) | (go_at_call 75; (with_reducible refine (impl_has.calls k2 _ _ l0_0 ((rd_T105 l0_1 x44_2).f1) false _ ?side1 ?side2 A34.out).mono ?_); (case side1 => exact Kd.C_below HR0_0.out m17_); (case side2 => exact HC0_0.out); rintro e w' ⟨rfl, ⟨nd, rfl⟩⟩; (try exact m2_))); try go_wp2_with (first | ((with_reducible refine gate_dst (N := 4) rfl ?_); (try (refine gate_guard (by rfl) ?_; dsimp only)); refine box_event ?hg (N := 4) ?hd (cs := #[.string (⟨#[]⟩ : ByteArray), .string (⟨#[]⟩ : ByteArray)]) (t := 105) ?hr ?_; (case hd => rfl); (case hg => rfl); (case hr => first | (go_simp; done) | (go_simp; rfl)); intro gb275 hg w40 hbox hb; have n0_ := Aside0.mk (blk_below (g := gb268) (o := .cells #[.slice A0_0 l0_0.length c0_0, .slice (some ad274) l0_1.length c0_1, .slice A0_2 l0_2.length c0_2, .slice A0_3 l0_3.length c0_3] 34 (0, 0)) m5_ hb); have n1_ := Aside0.mk (below_step m1_ hb); have n2_ := Aside0.mk (hbox); have n3_ := Aside0.mk ((by rw [hg]; exact (below_size m1_) : w.heap.size ≤ gb275)); have n4_ := Aside0.mk ((by rw [hg]; exact (below_size m1_) : w.heap.size ≤ gb275)); have n5_ := Aside0.mk ((by rw [hg]; exact Nat.ne_of_lt (blk_lt (g := gb268) (o := .cells #[.slice A0_0 l0_0.length c0_0, .slice (some ad274) l0_1.length c0_1, .slice A0_2 l0_2.length c0_2, .slice A0_3 l0_3.length c0_3] 34 (0, 0)) m5_) : gb268 ≠ gb275)); have n6_ := Aside0.mk ((by rw [hg]; exact Nat.ne_of_gt (blk_lt (g := gb268) (o := .cells #[.slice A0_0 l0_0.length c0_0, .slice (some ad274) l0_1.length c0_1, .slice A0_2 l0_2.length c0_2, .slice A0_3 l0_3.length c0_3] 34 (0, 0)) m5_) : gb275 ≠ gb268)); clear BK268; clear HB; have BK268 := n0_; have HB := n1_; have BK275 := n2_; have GW275 := n3_; have GE275 := n4_; have NB268_275 := n5_; have NB275_268 := n6_; clear n0_ n1_ n2_ n3_ n4_ n5_ n6_; clear hb hbox hg; have hnb41 := NB275_268.out; have hnc41 := NB268_275.out; obtain ⟨hcz42_0, hcz42_1⟩ := cz2_ BK275.out; obtain ⟨hfz42_0, hfz42_1⟩ := fz2_ BK275.out; obtain ⟨hcz43_0, hcz43_1, hcz43_2, hcz43_3⟩ := cz4_ BK268.out; obtain ⟨hfz43_0, hfz43_1, hfz43_2, hfz43_3⟩ := fz4_ BK268.out) | (go_at_call 75; (with_reducible refine (impl_has.calls k2 _ _ l0_0 ((rd_T105 l0_1 x44_2).f0) true _ ?side1 ?side2 A32.out).mono ?_); (case side1 => exact Kd.C_below HR0_0.out m17_); (case side2 => exact HC0_0.out); rintro e w' ⟨rfl, ⟨nd, rfl⟩⟩; (try exact m2_)) | (go_at_call 75; (with_reducible refine (impl_has.calls k2 _ _ l0_0 ((rd_T105 l0_1 x44_2).f1) false _ ?side1 ?side2 A34.out).mono ?_); (case side1 => exact Kd.C_below HR0_0.out m17_); (case side2 => exact HC0_0.out); rintro e w' ⟨rfl, ⟨nd, rfl⟩⟩; (try exact m2_))))
           go_ret
           exact ⟨m6_, m17_⟩
         ·replace c33 := Bool.eq_false_iff.mpr c33
          subst c33
          have H1 : (some false) = some r := by rw [if_neg (show ¬ (false = true) by decide)] at H; exact H
          clear H
          have H := H1
          clear H1
          obtain rfl := Option.some.inj H
          have p274 : 0 ≤ (x44_2 : Int) := of_decide_eq_true m4_
          have q274 : x44_2 < (l0_1.length : Int) := of_decide_eq_true m4_
          obtain ⟨ad274, e274, hx274_0, hx274_1⟩ := at_T105 HR0_1.out x44_2 p274 q274
          cases e274
          replace hx274_0 := (HB.out.cell (World.block_lt_of_cell? w _ hx274_0)).trans hx274_0
          replace hx274_1 := (HB.out.cell (World.block_lt_of_cell? w _ hx274_1)).trans hx274_1
          replace p274 := eq_true p274
          replace q274 := eq_true q274
          go_wp2_with (first | ((with_reducible refine gate_dst (N := 4) rfl ?_); (try (refine gate_guard (by rfl) ?_; dsimp only)); refine box_event ?hg (N := 4) ?hd (cs := #[.string (⟨#[]⟩ : ByteArray), .string (⟨#[]⟩ : ByteArray)]) (t := 105) ?hr ?_; (case hd => rfl); (case hg => rfl); (case hr => first | (go_simp; done) | (go_simp; rfl)); intro gb275 hg w44 hbox hb; have n0_ := Aside0.mk (blk_below (g := gb268) (o := .cells #[.slice A0_0 l0_0.length c0_0, .slice (some ad274) l0_1.length c0_1, .slice A0_2 l0_2.length c0_2, .slice A0_3 l0_3.length c0_3] 34 (0, 0)) m5_ hb); have n1_ := Aside0.mk (below_step m1_ hb); have n2_ := Aside0.mk (hbox); have n3_ := Aside0.mk ((by rw [hg]; exact (below_size m1_) : w.heap.size ≤ gb275)); have n4_ := Aside0.mk ((by rw [hg]; exact (below_size m1_) : w.heap.size ≤ gb275)); have n5_ := Aside0.mk ((by rw [hg]; exact Nat.ne_of_lt (blk_lt (g := gb268) (o := .cells #[.slice A0_0 l0_0.length c0_0, .slice (some ad274) l0_1.length c0_1, .slice A0_2 l0_2.length c0_2, .slice A0_3 l0_3.length c0_3] 34 (0, 0)) m5_) : gb268 ≠ gb275)); have n6_ := Aside0.mk ((by rw [hg]; exact Nat.ne_of_gt (blk_lt (g := gb268) (o := .cells #[.slice A0_0 l0_0.length c0_0, .slice (some ad274) l0_1.length c0_1, .slice A0_2 l0_2.length c0_2, .slice A0_3 l0_3.length c0_3] 34 (0, 0)) m5_) : gb275 ≠ gb268)); clear BK268; clear HB; have BK268 := n0_; have HB := n1_; have BK275 := n2_; have GW275 := n3_; have GE275 := n4_; have NB268_275 := n5_; have NB275_268 := n6_; clear n0_ n1_ n2_ n3_ n4_ n5_ n6_; clear hb hbox hg; have hnb45 := NB275_268.out; have hnc45 := NB268_275.out; obtain ⟨hcz46_0, hcz46_1⟩ := cz2_ BK275.out; obtain ⟨hfz46_0, hfz46_1⟩ := fz2_ BK275.out; obtain ⟨hcz47_0, hcz47_1, hcz47_2, hcz47_3⟩ := cz4_ BK268.out; obtain ⟨hfz47_0, hfz47_1, hfz47_2, hfz47_3⟩ := fz4_ BK268.out) | (go_at_call 75; (with_reducible refine (impl_has.calls k2 _ _ l0_0 ((rd_T105 l0_1 x44_2).f0) false _ ?side1 ?side2 A32.out).mono ?_); (case side1 => exact Kd.C_below HR0_0.out m17_); (case side2 => exact HC0_0.out); rintro e w' ⟨rfl, ⟨nd, rfl⟩⟩; (try exact m2_)))
          repeat (go_quiet (first | ((with_reducible refine gate_dst (N := 4) rfl ?_); (try (refine gate_guard (by rfl) ?_; dsimp only)); refine box_event ?hg (N := 4) ?hd (cs := #[.string (⟨#[]⟩ : ByteArray), .string (⟨#[]⟩ : ByteArray)]) (t := 105) ?hr ?_; (case hd => rfl); (case hg => rfl); (case hr => first | (go_simp; done) | (go_simp; rfl)); intro gb275 hg w44 hbox hb; have n0_ := Aside0.mk (blk_below (g := gb268) (o := .cells #[.slice A0_0 l0_0.length c0_0, .slice (some ad274) l0_1.length c0_1, .slice A0_2 l0_2.length c0_2, .slice A0_3 l0_3.length c0_3] 34 (0, 0)) m5_ hb); have n1_ := Aside0.mk (below_step m1_ hb); have n2_ := Aside0.mk (hbox); have n3_ := Aside0.mk ((by rw [hg]; exact (below_size m1_) : w.heap.size ≤ gb275)); have n4_ := Aside0.mk ((by rw [hg]; exact (below_size m1_) : w.heap.size ≤ gb275)); have n5_ := Aside0.mk ((by rw [hg]; exact Nat.ne_of_lt (blk_lt (g := gb268) (o := .cells #[.slice A0_0 l0_0.length c0_0, .slice (some ad274) l0_1.length c0_1, .slice A0_2 l0_2.length c0_2, .slice A0_3 l0_3.length c0_3] 34 (0, 0)) m5_) : gb268 ≠ gb275)); have n6_ := Aside0.mk ((by rw [hg]; exact Nat.ne_of_gt (blk_lt (g := gb268) (o := .cells #[.slice A0_0 l0_0.length c0_0, .slice (some ad274) l0_1.length c0_1, .slice A0_2 l0_2.length c0_2, .slice A0_3 l0_3.length c0_3] 34 (0, 0)) m5_) : gb275 ≠ gb268)); clear BK268; clear HB; have BK268 := n0_; have HB := n1_; have BK275 := n2_; have GW275 := n3_; have GE275 := n4_; have NB268_275 := n5_; have NB275_268 := n6_; clear n0_ n1_ n2_ n3_ n4_ n5_ n6_; clear hb hbox hg; have hnb45 := NB275_268.out; have hnc45 := NB268_275.out; obtain ⟨hcz46_0, hcz46_1⟩ := cz2_ BK275.out; obtain ⟨hfz46_0, hfz46_1⟩ := fz2_ BK275.out; obtain ⟨hcz47_0, hcz47_1, hcz47_2, hcz47_3⟩ := cz4_ BK268.out; obtain ⟨hfz47_0, hfz47_1, hfz47_2, hfz47_3⟩ := fz4_ BK268.out) | (go_at_call 75; (with_reducible refine (impl_has.calls k2 _ _ l0_0 ((rd_T105 l0_1 x44_2).f0) false _ ?side1 ?side2 A32.out).mono ?_); (case side1 => exact Kd.C_below HR0_0.out m17_); (case side2 => exact HC0_0.out); rintro e w' ⟨rfl, ⟨nd, rfl⟩⟩; (try exact m2_))); try go_wp2_with (first | ((with_reducible refine gate_dst (N := 4) rfl ?_); (try (refine gate_guard (by rfl) ?_; dsimp only)); refine box_event ?hg (N := 4) ?hd (cs := #[.string (⟨#[]⟩ : ByteArray), .string (⟨#[]⟩ : ByteArray)]) (t := 105) ?hr ?_; (case hd => rfl); (case hg => rfl); (case hr => first | (go_simp; done) | (go_simp; rfl)); intro gb275 hg w44 hbox hb; have n0_ := Aside0.mk (blk_below (g := gb268) (o := .cells #[.slice A0_0 l0_0.length c0_0, .slice (some ad274) l0_1.length c0_1, .slice A0_2 l0_2.length c0_2, .slice A0_3 l0_3.length c0_3] 34 (0, 0)) m5_ hb); have n1_ := Aside0.mk (below_step m1_ hb); have n2_ := Aside0.mk (hbox); have n3_ := Aside0.mk ((by rw [hg]; exact (below_size m1_) : w.heap.size ≤ gb275)); have n4_ := Aside0.mk ((by rw [hg]; exact (below_size m1_) : w.heap.size ≤ gb275)); have n5_ := Aside0.mk ((by rw [hg]; exact Nat.ne_of_lt (blk_lt (g := gb268) (o := .cells #[.slice A0_0 l0_0.length c0_0, .slice (some ad274) l0_1.length c0_1, .slice A0_2 l0_2.length c0_2, .slice A0_3 l0_3.length c0_3] 34 (0, 0)) m5_) : gb268 ≠ gb275)); have n6_ := Aside0.mk ((by rw [hg]; exact Nat.ne_of_gt (blk_lt (g := gb268) (o := .cells #[.slice A0_0 l0_0.length c0_0, .slice (some ad274) l0_1.length c0_1, .slice A0_2 l0_2.length c0_2, .slice A0_3 l0_3.length c0_3] 34 (0, 0)) m5_) : gb275 ≠ gb268)); clear BK268; clear HB; have BK268 := n0_; have HB := n1_; have BK275 := n2_; have GW275 := n3_; have GE275 := n4_; have NB268_275 := n5_; have NB275_268 := n6_; clear n0_ n1_ n2_ n3_ n4_ n5_ n6_; clear hb hbox hg; have hnb45 := NB275_268.out; have hnc45 := NB268_275.out; obtain ⟨hcz46_0, hcz46_1⟩ := cz2_ BK275.out; obtain ⟨hfz46_0, hfz46_1⟩ := fz2_ BK275.out; obtain ⟨hcz47_0, hcz47_1, hcz47_2, hcz47_3⟩ := cz4_ BK268.out; obtain ⟨hfz47_0, hfz47_1, hfz47_2, hfz47_3⟩ := fz4_ BK268.out) | (go_at_call 75; (with_reducible refine (impl_has.calls k2 _ _ l0_0 ((rd_T105 l0_1 x44_2).f0) false _ ?side1 ?side2 A32.out).mono ?_); (case side1 => exact Kd.C_below HR0_0.out m17_); (case side2 => exact HC0_0.out); rintro e w' ⟨rfl, ⟨nd, rfl⟩⟩; (try exact m2_))))
          go_ret
          exact ⟨m6_, m17_⟩
        ·rw [if_neg c31] at H
         exact absurd H (by simp)
       ·rw [if_neg c30] at H
        exact absurd H (by simp)
      ·rw [if_neg c29] at H
       have c29b0 : decide (x44_2 < (l0_1.length : Int)) = false := decide_eq_false c29
       clear c29
       have H' := Aside0.mk H
       clear H
       obtain ⟨hcz48_0, hcz48_1, hcz48_2, hcz48_3⟩ := cz4_ BK268.out
       obtain ⟨hfz48_0, hfz48_1, hfz48_2, hfz48_3⟩ := fz4_ BK268.out
       go_wp2
       repeat (go_quiet (fail); try go_wp2)
       go_loopg [66] k2 (fun kq v66 w' => ∃ (x66_3 : Int), v66 = .int .i64 x66_3 ∧ Aside0 (impl_PlantValid.l1 kq l0_2 (l0_2.length : Int) x66_3 l0_0 l0_1 l0_2 l0_3 = some r) ∧ Aside0 (kq ≤ k2) ∧ Aside0 (w'.heap[gb268]? = some (.cells #[(.slice A0_0 l0_0.length c0_0), (.slice A0_1 l0_1.length c0_1), (.slice A0_2 l0_2.length c0_2), (.slice A0_3 l0_3.length c0_3)] 34 (0, 0))) ∧ Aside0 (Below w.heap.size w w'))
       case atStart => exact ⟨(0), m8_, H', ⟨Nat.le_refl _⟩, ⟨m5_⟩, ⟨m1_⟩⟩
       case round =>
        clear H'
        try clear c1
        try clear c2
        try clear p2
        try clear q2
        try clear hx2
        try clear c3
        try clear c4
        try clear c4b0
        try clear c4b1
        try clear p6
        try clear c7
        try clear c10
        try clear c11
        try clear c11b0
        try clear c11b1
        try clear c17
        try clear c27
        try clear p27
        try clear q27
        try clear hx27
        try clear c29
        try clear c29b0
        try clear c30
        try clear c30b0
        try clear c31
        try clear c31b0
        try clear c33
        try clear c35
        try clear c37
        try clear c41
        try clear c45
        try clear hcz12_0
        try clear hcz12_1
        try clear hcz12_2
        try clear hcz12_3
        try clear hcz16_0
        try clear hcz16_1
        try clear hcz16_2
        try clear hcz16_3
        try clear hcz17_0
        try clear hcz17_1
        try clear hcz17_2
        try clear hcz17_3
        try clear hcz21_0
        try clear hcz21_1
        try clear hcz21_2
        try clear hcz21_3
        try clear hcz22_0
        try clear hcz22_1
        try clear hcz22_2
        try clear hcz22_3
        try clear hcz26_0
        try clear hcz26_1
        try clear hcz26_2
        try clear hcz26_3
        try clear hcz28_0
        try clear hcz28_1
        try clear hcz28_2
        try clear hcz28_3
        try clear hcz38_0
        try clear hcz38_1
        try clear hcz39_0
        try clear hcz39_1
        try clear hcz39_2
        try clear hcz39_3
        try clear hcz42_0
        try clear hcz42_1
        try clear hcz43_0
        try clear hcz43_1
        try clear hcz43_2
        try clear hcz43_3
        try clear hcz46_0
        try clear hcz46_1
        try clear hcz47_0
        try clear hcz47_1
        try clear hcz47_2
        try clear hcz47_3
        try clear hcz48_0
        try clear hcz48_1
        try clear hcz48_2
        try clear hcz48_3
        try clear hcz5_0
        try clear hcz5_1
        try clear hcz5_2
        try clear hcz5_3
        try clear hfz12_0
        try clear hfz12_1
        try clear hfz12_2
        try clear hfz12_3
        try clear hfz16_0
        try clear hfz16_1
        try clear hfz16_2
        try clear hfz16_3
        try clear hfz17_0
        try clear hfz17_1
        try clear hfz17_2
        try clear hfz17_3
        try clear hfz21_0
        try clear hfz21_1
        try clear hfz21_2
        try clear hfz21_3
        try clear hfz22_0
        try clear hfz22_1
        try clear hfz22_2
        try clear hfz22_3
        try clear hfz26_0
        try clear hfz26_1
        try clear hfz26_2
        try clear hfz26_3
        try clear hfz28_0
        try clear hfz28_1
        try clear hfz28_2
        try clear hfz28_3
        try clear hfz38_0
        try clear hfz38_1
        try clear hfz39_0
        try clear hfz39_1
        try clear hfz39_2
        try clear hfz39_3
        try clear hfz42_0
        try clear hfz42_1
        try clear hfz43_0
        try clear hfz43_1
        try clear hfz43_2
        try clear hfz43_3
        try clear hfz46_0
        try clear hfz46_1
        try clear hfz47_0
        try clear hfz47_1
        try clear hfz47_2
        try clear hfz47_3
        try clear hfz48_0
        try clear hfz48_1
        try clear hfz48_2
        try clear hfz48_3
        try clear hfz5_0
        try clear hfz5_1
        try clear hfz5_2
        try clear hfz5_3
        try clear hx274_0
        try clear hx274_1
        try clear p2
        try clear p274
        try clear q274
        obtain ⟨x66_3, rfl, HA, HK3, BK268, HB⟩ := hrel
        cases gk with
        | zero => exact absurd HA.out (by simp [impl_PlantValid.l1])
        | succ k3 =>
         have H := HA.out
         clear HA
         simp only [impl_PlantValid.l1] at H
         by_cases c49 : x66_3 < (l0_2.length : Int)
         ·rw [if_pos c49] at H
          have c49b0 : decide (x66_3 < (l0_2.length : Int)) = true := decide_eq_true c49
          clear c49
          by_cases c50 : 0 ≤ x66_3
          ·rw [if_pos c50] at H
           have c50b0 : decide (0 ≤ x66_3) = true := decide_eq_true c50
           clear c50
           by_cases c51 : x66_3 < (l0_2.length : Int)
           ·rw [if_pos c51] at H
            have c51b0 : decide (x66_3 < (l0_2.length : Int)) = true := decide_eq_true c51
            clear c51
            have HC52 := Aside0.mk H
            clear H
            have p278 : 0 ≤ (x66_3 : Int) := of_decide_eq_true m4_
            have q278 : x66_3 < (l0_2.length : Int) := of_decide_eq_true m4_
            obtain ⟨ad278, e278, hx278_0, hx278_1, hx278_2⟩ := at_T86 HR0_2.out x66_3 p278 q278
            cases e278
            replace hx278_0 := (HB.out.cell (World.block_lt_of_cell? w _ hx278_0)).trans hx278_0
            replace hx278_1 := (HB.out.cell (World.block_lt_of_cell? w _ hx278_1)).trans hx278_1
            replace hx278_2 := (HB.out.cell (World.block_lt_of_cell? w _ hx278_2)).trans hx278_2
            replace p278 := eq_true p278
            replace q278 := eq_true q278
            go_upto_region 12 with (first | ((with_reducible refine gate_dst (N := 6) rfl ?_); (try (refine gate_guard (by rfl) ?_; dsimp only)); refine box_event ?hg (N := 6) ?hd (cs := #[.string (⟨#[]⟩ : ByteArray), .int .i64 0, .string (⟨#[]⟩ : ByteArray)]) (t := 86) ?hr ?_; (case hd => rfl); (case hg => rfl); (case hr => first | (go_simp; done) | (go_simp; rfl)); intro gb279 hg w53 hbox hb; have n0_ := Aside0.mk (blk_below (g := gb268) (o := .cells #[.slice A0_0 l0_0.length c0_0, .slice A0_1 l0_1.length c0_1, .slice (some ad278) l0_2.length c0_2, .slice A0_3 l0_3.length c0_3] 34 (0, 0)) m5_ hb); have n1_ := Aside0.mk (below_step m1_ hb); have n2_ := Aside0.mk (hbox); have n3_ := Aside0.mk ((by rw [hg]; exact (below_size m1_) : w.heap.size ≤ gb279)); have n4_ := Aside0.mk ((by rw [hg]; exact (below_size m1_) : w.heap.size ≤ gb279)); have n5_ := Aside0.mk ((by rw [hg]; exact Nat.ne_of_lt (blk_lt (g := gb268) (o := .cells #[.slice A0_0 l0_0.length c0_0, .slice A0_1 l0_1.length c0_1, .slice (some ad278) l0_2.length c0_2, .slice A0_3 l0_3.length c0_3] 34 (0, 0)) m5_) : gb268 ≠ gb279)); have n6_ := Aside0.mk ((by rw [hg]; exact Nat.ne_of_gt (blk_lt (g := gb268) (o := .cells #[.slice A0_0 l0_0.length c0_0, .slice A0_1 l0_1.length c0_1, .slice (some ad278) l0_2.length c0_2, .slice A0_3 l0_3.length c0_3] 34 (0, 0)) m5_) : gb279 ≠ gb268)); clear BK268; clear HB; have BK268 := n0_; have HB := n1_; have BK279 := n2_; have GW279 := n3_; have GE279 := n4_; have NB268_279 := n5_; have NB279_268 := n6_; clear n0_ n1_ n2_ n3_ n4_ n5_ n6_; clear hb hbox hg; have hnb54 := NB279_268.out; have hnc54 := NB268_279.out; obtain ⟨hcz55_0, hcz55_1, hcz55_2⟩ := cz3_ BK279.out; obtain ⟨hfz55_0, hfz55_1, hfz55_2⟩ := fz3_ BK279.out))
            repeat (go_quiet (first | ((with_reducible refine gate_dst (N := 6) rfl ?_); (try (refine gate_guard (by rfl) ?_; dsimp only)); refine box_event ?hg (N := 6) ?hd (cs := #[.string (⟨#[]⟩ : ByteArray), .int .i64 0, .string (⟨#[]⟩ : ByteArray)]) (t := 86) ?hr ?_; (case hd => rfl); (case hg => rfl); (case hr => first | (go_simp; done) | (go_simp; rfl)); intro gb279 hg w53 hbox hb; have n0_ := Aside0.mk (blk_below (g := gb268) (o := .cells #[.slice A0_0 l0_0.length c0_0, .slice A0_1 l0_1.length c0_1, .slice (some ad278) l0_2.length c0_2, .slice A0_3 l0_3.length c0_3] 34 (0, 0)) m5_ hb); have n1_ := Aside0.mk (below_step m1_ hb); have n2_ := Aside0.mk (hbox); have n3_ := Aside0.mk ((by rw [hg]; exact (below_size m1_) : w.heap.size ≤ gb279)); have n4_ := Aside0.mk ((by rw [hg]; exact (below_size m1_) : w.heap.size ≤ gb279)); have n5_ := Aside0.mk ((by rw [hg]; exact Nat.ne_of_lt (blk_lt (g := gb268) (o := .cells #[.slice A0_0 l0_0.length c0_0, .slice A0_1 l0_1.length c0_1, .slice (some ad278) l0_2.length c0_2, .slice A0_3 l0_3.length c0_3] 34 (0, 0)) m5_) : gb268 ≠ gb279)); have n6_ := Aside0.mk ((by rw [hg]; exact Nat.ne_of_gt (blk_lt (g := gb268) (o := .cells #[.slice A0_0 l0_0.length c0_0, .slice A0_1 l0_1.length c0_1, .slice (some ad278) l0_2.length c0_2, .slice A0_3 l0_3.length c0_3] 34 (0, 0)) m5_) : gb279 ≠ gb268)); clear BK268; clear HB; have BK268 := n0_; have HB := n1_; have BK279 := n2_; have GW279 := n3_; have GE279 := n4_; have NB268_279 := n5_; have NB279_268 := n6_; clear n0_ n1_ n2_ n3_ n4_ n5_ n6_; clear hb hbox hg; have hnb54 := NB279_268.out; have hnc54 := NB268_279.out; obtain ⟨hcz55_0, hcz55_1, hcz55_2⟩ := cz3_ BK279.out; obtain ⟨hfz55_0, hfz55_1, hfz55_2⟩ := fz3_ BK279.out)); go_upto_region 12 with (first | ((with_reducible refine gate_dst (N := 6) rfl ?_); (try (refine gate_guard (by rfl) ?_; dsimp only)); refine box_event ?hg (N := 6) ?hd (cs := #[.string (⟨#[]⟩ : ByteArray), .int .i64 0, .string (⟨#[]⟩ : ByteArray)]) (t := 86) ?hr ?_; (case hd => rfl); (case hg => rfl); (case hr => first | (go_simp; done) | (go_simp; rfl)); intro gb279 hg w53 hbox hb; have n0_ := Aside0.mk (blk_below (g := gb268) (o := .cells #[.slice A0_0 l0_0.length c0_0, .slice A0_1 l0_1.length c0_1, .slice (some ad278) l0_2.length c0_2, .slice A0_3 l0_3.length c0_3] 34 (0, 0)) m5_ hb); have n1_ := Aside0.mk (below_step m1_ hb); have n2_ := Aside0.mk (hbox); have n3_ := Aside0.mk ((by rw [hg]; exact (below_size m1_) : w.heap.size ≤ gb279)); have n4_ := Aside0.mk ((by rw [hg]; exact (below_size m1_) : w.heap.size ≤ gb279)); have n5_ := Aside0.mk ((by rw [hg]; exact Nat.ne_of_lt (blk_lt (g := gb268) (o := .cells #[.slice A0_0 l0_0.length c0_0, .slice A0_1 l0_1.length c0_1, .slice (some ad278) l0_2.length c0_2, .slice A0_3 l0_3.length c0_3] 34 (0, 0)) m5_) : gb268 ≠ gb279)); have n6_ := Aside0.mk ((by rw [hg]; exact Nat.ne_of_gt (blk_lt (g := gb268) (o := .cells #[.slice A0_0 l0_0.length c0_0, .slice A0_1 l0_1.length c0_1, .slice (some ad278) l0_2.length c0_2, .slice A0_3 l0_3.length c0_3] 34 (0, 0)) m5_) : gb279 ≠ gb268)); clear BK268; clear HB; have BK268 := n0_; have HB := n1_; have BK279 := n2_; have GW279 := n3_; have GE279 := n4_; have NB268_279 := n5_; have NB279_268 := n6_; clear n0_ n1_ n2_ n3_ n4_ n5_ n6_; clear hb hbox hg; have hnb54 := NB279_268.out; have hnc54 := NB268_279.out; obtain ⟨hcz55_0, hcz55_1, hcz55_2⟩ := cz3_ BK279.out; obtain ⟨hfz55_0, hfz55_1, hfz55_2⟩ := fz3_ BK279.out)))
            (try simp only [Act.put, List.setIfInBounds_toArray, List.set_cons_zero, List.set_cons_succ])
            go_cut [106] (fun v106 wc => ∃ (kq : Nat) (x106_51 : Bool), v106 = .bool x106_51 ∧ Aside0 (impl_PlantValid.j3 kq l0_2 (l0_2.length : Int) x66_3 x106_51 l0_0 l0_1 l0_2 l0_3 = some r) ∧ Aside0 (kq ≤ k3) ∧ Aside0 (wc.heap[gb268]? = some (.cells #[(.slice A0_0 l0_0.length c0_0), (.slice A0_1 l0_1.length c0_1), (.slice (some ad278) l0_2.length c0_2), (.slice A0_3 l0_3.length c0_3)] 34 (0, 0))) ∧ Aside0 (wc.heap[gb279]? = some (.cells #[.string ((rd_T86 l0_2 x66_3).f0), .int .i64 ((rd_T86 l0_2 x66_3).f1), .string ((rd_T86 l0_2 x66_3).f2)] 86 (0, 0))) ∧ Aside0 (Below w.heap.size w wc))
            case first =>
             have H := HC52.out
             clear HC52
             replace H := Option.bind_eq_some_iff.mp H
             obtain ⟨t280, A560, H⟩ := H
             replace H : (if t280 = true then (if ((rd_T86 l0_2 x66_3).f1) < 0 then (impl_PlantValid.j3 k3 l0_2 (l0_2.length : Int) x66_3 true l0_0 l0_1 l0_2 l0_3) else (if ((rd_T86 l0_2 x66_3).f1) > 1000 then (impl_PlantValid.j3 k3 l0_2 (l0_2.length : Int) x66_3 true l0_0 l0_1 l0_2 l0_3) else ((impl_isName.f k3 ((rd_T86 l0_2 x66_3).f2)).bind fun t281 => (if t281 = true then (if x66_3 > 0 then (if 0 ≤ (wrap64 (x66_3 - 1)) then (if (wrap64 (x66_3 - 1)) < (l0_2.length : Int) then (impl_PlantValid.j3 k3 l0_2 (l0_2.length : Int) x66_3 (!(Op.bytesLess (((rd_T86 l0_2 (wrap64 (x66_3 - 1))).f0).toList) (((rd_T86 l0_2 x66_3).f0).toList))) l0_0 l0_1 l0_2 l0_3) else (none)) else (none)) else (impl_PlantValid.j3 k3 l0_2 (l0_2.length : Int) x66_3 false l0_0 l0_1 l0_2 l0_3)) else (impl_PlantValid.j3 k3 l0_2 (l0_2.length : Int) x66_3 true l0_0 l0_1 l0_2 l0_3))))) else (impl_PlantValid.j3 k3 l0_2 (l0_2.length : Int) x66_3 true l0_0 l0_1 l0_2 l0_3)) = some r := H
             have A56 := Aside0.mk A560
             clear A560
             refine (Classical.em (t280 = true)).elim (fun c57 => ?yes19) (fun c57 => ?no19)
             case' yes19 =>
              subst c57
              have H1 : (if ((rd_T86 l0_2 x66_3).f1) < 0 then (impl_PlantValid.j3 k3 l0_2 (l0_2.length : Int) x66_3 true l0_0 l0_1 l0_2 l0_3) else (if ((rd_T86 l0_2 x66_3).f1) > 1000 then (impl_PlantValid.j3 k3 l0_2 (l0_2.length : Int) x66_3 true l0_0 l0_1 l0_2 l0_3) else ((impl_isName.f k3 ((rd_T86 l0_2 x66_3).f2)).bind fun t281 => (if t281 = true then (if x66_3 > 0 then (if 0 ≤ (wrap64 (x66_3 - 1)) then (if (wrap64 (x66_3 - 1)) < (l0_2.length : Int) then (impl_PlantValid.j3 k3 l0_2 (l0_2.length : Int) x66_3 (!(Op.bytesLess (((rd_T86 l0_2 (wrap64 (x66_3 - 1))).f0).toList) (((rd_T86 l0_2 x66_3).f0).toList))) l0_0 l0_1 l0_2 l0_3) else (none)) else (none)) else (impl_PlantValid.j3 k3 l0_2 (l0_2.length : Int) x66_3 false l0_0 l0_1 l0_2 l0_3)) else (impl_PlantValid.j3 k3 l0_2 (l0_2.length : Int) x66_3 true l0_0 l0_1 l0_2 l0_3))))) = some r := by rw [if_pos rfl] at H; exact H
              clear H
              have H := H1
              clear H1
              refine (Classical.em (((rd_T86 l0_2 x66_3).f1) < 0)).elim (fun c58 => ?yes20) (fun c58 => ?no20)
              case' yes20 =>
               rw [if_pos c58] at H
               have c58b0 : decide (((rd_T86 l0_2 x66_3).f1) < 0) = true := decide_eq_true c58
               clear c58
               (first | rw [c58b0] | (simp only [i64_w, i32_w]; rw [c58b0]) | skip)
               have H' := Aside0.mk H
               clear H
              case' no20 =>
               rw [if_neg c58] at H
               have c58b0 : decide (((rd_T86 l0_2 x66_3).f1) < 0) = false := decide_eq_false c58
               clear c58
               (first | rw [c58b0] | (simp only [i64_w, i32_w]; rw [c58b0]) | skip)
               refine (Classical.em (((rd_T86 l0_2 x66_3).f1) > 1000)).elim (fun c61 => ?yes21) (fun c61 => ?no21)
               case' yes21 =>
                rw [if_pos c61] at H
                have c61b0 : decide (1000 < ((rd_T86 l0_2 x66_3).f1)) = true := decide_eq_true c61
                clear c61
                have H' := Aside0.mk H
                clear H
               case' no21 =>
                rw [if_neg c61] at H
                have c61b0 : decide (1000 < ((rd_T86 l0_2 x66_3).f1)) = false := decide_eq_false c61
                clear c61
                replace H := Option.bind_eq_some_iff.mp H
                obtain ⟨t281, A640, H⟩ := H
                replace H : (if t281 = true then (if x66_3 > 0 then (if 0 ≤ (wrap64 (x66_3 - 1)) then (if (wrap64 (x66_3 - 1)) < (l0_2.length : Int) then (impl_PlantValid.j3 k3 l0_2 (l0_2.length : Int) x66_3 (!(Op.bytesLess (((rd_T86 l0_2 (wrap64 (x66_3 - 1))).f0).toList) (((rd_T86 l0_2 x66_3).f0).toList))) l0_0 l0_1 l0_2 l0_3) else (none)) else (none)) else (impl_PlantValid.j3 k3 l0_2 (l0_2.length : Int) x66_3 false l0_0 l0_1 l0_2 l0_3)) else (impl_PlantValid.j3 k3 l0_2 (l0_2.length : Int) x66_3 true l0_0 l0_1 l0_2 l0_3)) = some r := H
                have A64 := Aside0.mk A640
                clear A640
                refine (Classical.em (t281 = true)).elim (fun c65 => ?yes22) (fun c65 => ?no22)
                case' yes22 =>
                 subst c65
                 have H1 : (if x66_3 > 0 then (if 0 ≤ (wrap64 (x66_3 - 1)) then (if (wrap64 (x66_3 - 1)) < (l0_2.length : Int) then (impl_PlantValid.j3 k3 l0_2 (l0_2.length : Int) x66_3 (!(Op.bytesLess (((rd_T86 l0_2 (wrap64 (x66_3 - 1))).f0).toList) (((rd_T86 l0_2 x66_3).f0).toList))) l0_0 l0_1 l0_2 l0_3) else (none)) else (none)) else (impl_PlantValid.j3 k3 l0_2 (l0_2.length : Int) x66_3 false l0_0 l0_1 l0_2 l0_3)) = some r := by rw [if_pos rfl] at H; exact H
                 clear H
                 have H := H1
                 clear H1
                 refine (Classical.em (x66_3 > 0)).elim (fun c66 => ?yes23) (fun c66 => ?no23)
                 case' yes23 =>
                  rw [if_pos c66] at H
                  have c66b0 : decide (0 < x66_3) = true := decide_eq_true c66
                  clear c66
                  obtain ⟨ji67, hji67⟩ : ∃ j_ : Int, (wrap64 (x66_3 - 1)) = j_ := ⟨_, rfl⟩
                  replace H : (if 0 ≤ (ji67) then (if (ji67) < (l0_2.length : Int) then (impl_PlantValid.j3 k3 l0_2 (l0_2.length : Int) x66_3 (!(Op.bytesLess (((rd_T86 l0_2 (ji67)).f0).toList) (((rd_T86 l0_2 x66_3).f0).toList))) l0_0 l0_1 l0_2 l0_3) else (none)) else (none)) = some r := by first | (rw [hji67] at H; exact H) | (simp only [hji67] at H ⊢; exact H)
                  (try rw [hji67] at A56)
                  (try rw [hji67] at A64)
                  have hji67w : (IntKind.i64.wrap (x66_3 - 1)) = ji67 := (i64_w _).trans hji67
                  refine (Classical.em (0 ≤ (ji67))).elim (fun c68 => ?yes24) (fun c68 => ?no24)
                  case' yes24 =>
                   rw [if_pos c68] at H
                   have c68b0 : decide (0 ≤ (ji67)) = true := decide_eq_true c68
                   clear c68
                   refine (Classical.em ((ji67) < (l0_2.length : Int))).elim (fun c69 => ?yes25) (fun c69 => ?no25)
                   case' yes25 =>
                    rw [if_pos c69] at H
                    have c69b0 : decide ((ji67) < (l0_2.length : Int)) = true := decide_eq_true c69
                    clear c69
                    have H' := Aside0.mk H
                    clear H
                   case' no25 =>
                    rw [if_neg c69] at H
                    exact absurd H (by simp)
                  case' no24 =>
                   rw [if_neg c68] at H
                   exact absurd H (by simp)
                 case' no23 =>
                  rw [if_neg c66] at H
                  have c66b0 : decide (0 < x66_3) = false := decide_eq_false c66
                  clear c66
                  have H' := Aside0.mk H
                  clear H
                case' no22 =>
                 replace c65 := Bool.eq_false_iff.mpr c65
                 subst c65
                 have H1 : (impl_PlantValid.j3 k3 l0_2 (l0_2.length : Int) x66_3 true l0_0 l0_1 l0_2 l0_3) = some r := by rw [if_neg (show ¬ (false = true) by decide)] at H; exact H
                 clear H
                 have H := H1
                 clear H1
                 have H' := Aside0.mk H
                 clear H
             case' no19 =>
              replace c57 := Bool.eq_false_iff.mpr c57
              subst c57
              have H1 : (impl_PlantValid.j3 k3 l0_2 (l0_2.length : Int) x66_3 true l0_0 l0_1 l0_2 l0_3) = some r := by rw [if_neg (show ¬ (false = true) by decide)] at H; exact H
              clear H
              have H := H1
              clear H1
              have H' := Aside0.mk H
              clear H
             all_goals
              first
               | (
                have hnb59 := NB279_268.out
                have hnc59 := NB268_279.out
                obtain ⟨hcz60_0, hcz60_1, hcz60_2⟩ := cz3_ BK279.out
                obtain ⟨hfz60_0, hfz60_1, hfz60_2⟩ := fz3_ BK279.out
                go_wp2_with (first | (go_at_call 76; (with_reducible refine (impl_isName.calls k3 ((rd_T86 l0_2 x66_3).f0) _ _ (Aside0.out (by assumption))).mono ?_); rintro e w' ⟨rfl, ⟨nd, rfl⟩⟩; (try exact m2_)))
                repeat (go_quiet (first | (go_at_call 76; (with_reducible refine (impl_isName.calls k3 ((rd_T86 l0_2 x66_3).f0) _ _ (Aside0.out (by assumption))).mono ?_); rintro e w' ⟨rfl, ⟨nd, rfl⟩⟩; (try exact m2_))); try go_wp2_with (first | (go_at_call 76; (with_reducible refine (impl_isName.calls k3 ((rd_T86 l0_2 x66_3).f0) _ _ (Aside0.out (by assumption))).mono ?_); rintro e w' ⟨rfl, ⟨nd, rfl⟩⟩; (try exact m2_))))
                go_meet
                case rel => exact ⟨_, _, m8_, H', ⟨m124_⟩, ⟨m57_⟩, ⟨m37_⟩, ⟨m77_⟩⟩)
               | (
                have hnb70 := NB279_268.out
                have hnc70 := NB268_279.out
                obtain ⟨hcz71_0, hcz71_1, hcz71_2⟩ := cz3_ BK279.out
                obtain ⟨hfz71_0, hfz71_1, hfz71_2⟩ := fz3_ BK279.out
                go_wp2_with (first | (go_at_call 76; (with_reducible refine (impl_isName.calls k3 ((rd_T86 l0_2 x66_3).f0) _ _ (Aside0.out (by assumption))).mono ?_); rintro e w' ⟨rfl, ⟨nd, rfl⟩⟩; (try exact m2_)) | (go_at_call 76; (with_reducible refine (impl_isName.calls k3 ((rd_T86 l0_2 x66_3).f2) _ _ (Aside0.out (by assumption))).mono ?_); rintro e w' ⟨rfl, ⟨nd, rfl⟩⟩; (try exact m2_); obtain ⟨hcz72_0, hcz72_1, hcz72_2, hcz72_3⟩ := cz4_ BK268.out; obtain ⟨hfz72_0, hfz72_1, hfz72_2, hfz72_3⟩ := fz4_ BK268.out; have p282 : 0 ≤ ((ji67) : Int) := of_decide_eq_true m4_; have q282 : (ji67) < (l0_2.length : Int) := of_decide_eq_true m4_; obtain ⟨ad282, e282, hx282_0, hx282_1, hx282_2⟩ := at_T86 HR0_2.out (ji67) p282 q282; obtain rfl : ad278 = ad282 := (by injection e282); have hn282_0 : ad278.block ≠ gb279 := Nat.ne_of_lt (Nat.lt_of_lt_of_le m78_ GW279.out); have hn282_1 : ad278.block ≠ gb279 := Nat.ne_of_lt (Nat.lt_of_lt_of_le m78_ GW279.out); have hn282_2 : ad278.block ≠ gb279 := Nat.ne_of_lt (Nat.lt_of_lt_of_le m78_ GW279.out); replace hx282_0 := (HB.out.cell (World.block_lt_of_cell? w _ hx282_0)).trans hx282_0; replace hx282_1 := (HB.out.cell (World.block_lt_of_cell? w _ hx282_1)).trans hx282_1; replace hx282_2 := (HB.out.cell (World.block_lt_of_cell? w _ hx282_2)).trans hx282_2; replace hx282_0 := (cell_far (p := ⟨gb279, 0, none⟩) m66_ (.string ((rd_T86 l0_2 x66_3).f0))).trans hx282_0; replace hx282_1 := (cell_far (p := ⟨gb279, 0, none⟩) m66_ (.string ((rd_T86 l0_2 x66_3).f0))).trans hx282_1; replace hx282_2 := (cell_far (p := ⟨gb279, 0, none⟩) m66_ (.string ((rd_T86 l0_2 x66_3).f0))).trans hx282_2; replace hx282_0 := (cell_far (p := ⟨gb279, 1, none⟩) m67_ (.int .i64 ((rd_T86 l0_2 x66_3).f1))).trans hx282_0; replace hx282_1 := (cell_far (p := ⟨gb279, 1, none⟩) m67_ (.int .i64 ((rd_T86 l0_2 x66_3).f1))).trans hx282_1; replace hx282_2 := (cell_far (p := ⟨gb279, 1, none⟩) m67_ (.int .i64 ((rd_T86 l0_2 x66_3).f1))).trans hx282_2; replace hx282_0 := (cell_far (p := ⟨gb279, 2, none⟩) m68_ (.string ((rd_T86 l0_2 x66_3).f2))).trans hx282_0; replace hx282_1 := (cell_far (p := ⟨gb279, 2, none⟩) m68_ (.string ((rd_T86 l0_2 x66_3).f2))).trans hx282_1; replace hx282_2 := (cell_far (p := ⟨gb279, 2, none⟩) m68_ (.string ((rd_T86 l0_2 x66_3).f2))).trans hx282_2; (try have hy282_0 := fun (n_ : Nat) => (show (((((w53.drewN n_).setCell ⟨gb279, 0, none⟩ (.string ((rd_T86 l0_2 x66_3).f0))).setCell ⟨gb279, 1, none⟩ (.int .i64 ((rd_T86 l0_2 x66_3).f1))).setCell ⟨gb279, 2, none⟩ (.string ((rd_T86 l0_2 x66_3).f2)))).cell? _ = some _ from hx282_0)); (try have hy282_1 := fun (n_ : Nat) => (show (((((w53.drewN n_).setCell ⟨gb279, 0, none⟩ (.string ((rd_T86 l0_2 x66_3).f0))).setCell ⟨gb279, 1, none⟩ (.int .i64 ((rd_T86 l0_2 x66_3).f1))).setCell ⟨gb279, 2, none⟩ (.string ((rd_T86 l0_2 x66_3).f2)))).cell? _ = some _ from hx282_1)); (try have hy282_2 := fun (n_ : Nat) => (show (((((w53.drewN n_).setCell ⟨gb279, 0, none⟩ (.string ((rd_T86 l0_2 x66_3).f0))).setCell ⟨gb279, 1, none⟩ (.int .i64 ((rd_T86 l0_2 x66_3).f1))).setCell ⟨gb279, 2, none⟩ (.string ((rd_T86 l0_2 x66_3).f2)))).cell? _ = some _ from hx282_2)); clear hn282_0; clear hn282_1; clear hn282_2; replace p282 := eq_true p282; replace q282 := eq_true q282))
                repeat (go_quiet (first | (go_at_call 76; (with_reducible refine (impl_isName.calls k3 ((rd_T86 l0_2 x66_3).f0) _ _ (Aside0.out (by assumption))).mono ?_); rintro e w' ⟨rfl, ⟨nd, rfl⟩⟩; (try exact m2_)) | (go_at_call 76; (with_reducible refine (impl_isName.calls k3 ((rd_T86 l0_2 x66_3).f2) _ _ (Aside0.out (by assumption))).mono ?_); rintro e w' ⟨rfl, ⟨nd, rfl⟩⟩; (try exact m2_); obtain ⟨hcz72_0, hcz72_1, hcz72_2, hcz72_3⟩ := cz4_ BK268.out; obtain ⟨hfz72_0, hfz72_1, hfz72_2, hfz72_3⟩ := fz4_ BK268.out; have p282 : 0 ≤ ((ji67) : Int) := of_decide_eq_true m4_; have q282 : (ji67) < (l0_2.length : Int) := of_decide_eq_true m4_; obtain ⟨ad282, e282, hx282_0, hx282_1, hx282_2⟩ := at_T86 HR0_2.out (ji67) p282 q282; obtain rfl : ad278 = ad282 := (by injection e282); have hn282_0 : ad278.block ≠ gb279 := Nat.ne_of_lt (Nat.lt_of_lt_of_le m78_ GW279.out); have hn282_1 : ad278.block ≠ gb279 := Nat.ne_of_lt (Nat.lt_of_lt_of_le m78_ GW279.out); have hn282_2 : ad278.block ≠ gb279 := Nat.ne_of_lt (Nat.lt_of_lt_of_le m78_ GW279.out); replace hx282_0 := (HB.out.cell (World.block_lt_of_cell? w _ hx282_0)).trans hx282_0; replace hx282_1 := (HB.out.cell (World.block_lt_of_cell? w _ hx282_1)).trans hx282_1; replace hx282_2 := (HB.out.cell (World.block_lt_of_cell? w _ hx282_2)).trans hx282_2; replace hx282_0 := (cell_far (p := ⟨gb279, 0, none⟩) m66_ (.string ((rd_T86 l0_2 x66_3).f0))).trans hx282_0; replace hx282_1 := (cell_far (p := ⟨gb279, 0, none⟩) m66_ (.string ((rd_T86 l0_2 x66_3).f0))).trans hx282_1; replace hx282_2 := (cell_far (p := ⟨gb279, 0, none⟩) m66_ (.string ((rd_T86 l0_2 x66_3).f0))).trans hx282_2; replace hx282_0 := (cell_far (p := ⟨gb279, 1, none⟩) m67_ (.int .i64 ((rd_T86 l0_2 x66_3).f1))).trans hx282_0; replace hx282_1 := (cell_far (p := ⟨gb279, 1, none⟩) m67_ (.int .i64 ((rd_T86 l0_2 x66_3).f1))).trans hx282_1; replace hx282_2 := (cell_far (p := ⟨gb279, 1, none⟩) m67_ (.int .i64 ((rd_T86 l0_2 x66_3).f1))).trans hx282_2; replace hx282_0 := (cell_far (p := ⟨gb279, 2, none⟩) m68_ (.string ((rd_T86 l0_2 x66_3).f2))).trans hx282_0; replace hx282_1 := (cell_far (p := ⟨gb279, 2, none⟩) m68_ (.string ((rd_T86 l0_2 x66_3).f2))).trans hx282_1; replace hx282_2 := (cell_far (p := ⟨gb279, 2, none⟩) m68_ (.string ((rd_T86 l0_2 x66_3).f2))).trans hx282_2; (try have hy282_0 := fun (n_ : Nat) => (show (((((w53.drewN n_).setCell ⟨gb279, 0, none⟩ (.string ((rd_T86 l0_2 x66_3).f0))).setCell ⟨gb279, 1, none⟩ (.int .i64 ((rd_T86 l0_2 x66_3).f1))).setCell ⟨gb279, 2, none⟩ (.string ((rd_T86 l0_2 x66_3).f2)))).cell? _ = some _ from hx282_0)); (try have hy282_1 := fun (n_ : Nat) => (show (((((w53.drewN n_).setCell ⟨gb279, 0, none⟩ (.string ((rd_T86 l0_2 x66_3).f0))).setCell ⟨gb279, 1, none⟩ (.int .i64 ((rd_T86 l0_2 x66_3).f1))).setCell ⟨gb279, 2, none⟩ (.string ((rd_T86 l0_2 x66_3).f2)))).cell? _ = some _ from hx282_1)); (try have hy282_2 := fun (n_ : Nat) => (show (((((w53.drewN n_).setCell ⟨gb279, 0, none⟩ (.string ((rd_T86 l0_2 x66_3).f0))).setCell ⟨gb279, 1, none⟩ (.int .i64 ((rd_T86 l0_2 x66_3).f1))).setCell ⟨gb279, 2, none⟩ (.string ((rd_T86 l0_2 x66_3).f2)))).cell? _ = some _ from hx282_2)); clear hn282_0; clear hn282_1; clear hn282_2; replace p282 := eq_true p282; replace q282 := eq_true q282)); try go_wp2_with (first | (go_at_call 76; (with_reducible refine (impl_isName.calls k3 ((rd_T86 l0_2 x66_3).f0) _ _ (Aside0.out (by assumption))).mono ?_); rintro e w' ⟨rfl, ⟨nd, rfl⟩⟩; (try exact m2_)) | (go_at_call 76; (with_reducible refine (impl_isName.calls k3 ((rd_T86 l0_2 x66_3).f2) _ _ (Aside0.out (by assumption))).mono ?_); rintro e w' ⟨rfl, ⟨nd, rfl⟩⟩; (try exact m2_); obtain ⟨hcz72_0, hcz72_1, hcz72_2, hcz72_3⟩ := cz4_ BK268.out; obtain ⟨hfz72_0, hfz72_1, hfz72_2, hfz72_3⟩ := fz4_ BK268.out; have p282 : 0 ≤ ((ji67) : Int) := of_decide_eq_true m4_; have q282 : (ji67) < (l0_2.length : Int) := of_decide_eq_true m4_; obtain ⟨ad282, e282, hx282_0, hx282_1, hx282_2⟩ := at_T86 HR0_2.out (ji67) p282 q282; obtain rfl : ad278 = ad282 := (by injection e282); have hn282_0 : ad278.block ≠ gb279 := Nat.ne_of_lt (Nat.lt_of_lt_of_le m78_ GW279.out); have hn282_1 : ad278.block ≠ gb279 := Nat.ne_of_lt (Nat.lt_of_lt_of_le m78_ GW279.out); have hn282_2 : ad278.block ≠ gb279 := Nat.ne_of_lt (Nat.lt_of_lt_of_le m78_ GW279.out); replace hx282_0 := (HB.out.cell (World.block_lt_of_cell? w _ hx282_0)).trans hx282_0; replace hx282_1 := (HB.out.cell (World.block_lt_of_cell? w _ hx282_1)).trans hx282_1; replace hx282_2 := (HB.out.cell (World.block_lt_of_cell? w _ hx282_2)).trans hx282_2; replace hx282_0 := (cell_far (p := ⟨gb279, 0, none⟩) m66_ (.string ((rd_T86 l0_2 x66_3).f0))).trans hx282_0; replace hx282_1 := (cell_far (p := ⟨gb279, 0, none⟩) m66_ (.string ((rd_T86 l0_2 x66_3).f0))).trans hx282_1; replace hx282_2 := (cell_far (p := ⟨gb279, 0, none⟩) m66_ (.string ((rd_T86 l0_2 x66_3).f0))).trans hx282_2; replace hx282_0 := (cell_far (p := ⟨gb279, 1, none⟩) m67_ (.int .i64 ((rd_T86 l0_2 x66_3).f1))).trans hx282_0; replace hx282_1 := (cell_far (p := ⟨gb279, 1, none⟩) m67_ (.int .i64 ((rd_T86 l0_2 x66_3).f1))).trans hx282_1; replace hx282_2 := (cell_far (p := ⟨gb279, 1, none⟩) m67_ (.int .i64 ((rd_T86 l0_2 x66_3).f1))).trans hx282_2; replace hx282_0 := (cell_far (p := ⟨gb279, 2, none⟩) m68_ (.string ((rd_T86 l0_2 x66_3).f2))).trans hx282_0; replace hx282_1 := (cell_far (p := ⟨gb279, 2, none⟩) m68_ (.string ((rd_T86 l0_2 x66_3).f2))).trans hx282_1; replace hx282_2 := (cell_far (p := ⟨gb279, 2, none⟩) m68_ (.string ((rd_T86 l0_2 x66_3).f2))).trans hx282_2; (try have hy282_0 := fun (n_ : Nat) => (show (((((w53.drewN n_).setCell ⟨gb279, 0, none⟩ (.string ((rd_T86 l0_2 x66_3).f0))).setCell ⟨gb279, 1, none⟩ (.int .i64 ((rd_T86 l0_2 x66_3).f1))).setCell ⟨gb279, 2, none⟩ (.string ((rd_T86 l0_2 x66_3).f2)))).cell? _ = some _ from hx282_0)); (try have hy282_1 := fun (n_ : Nat) => (show (((((w53.drewN n_).setCell ⟨gb279, 0, none⟩ (.string ((rd_T86 l0_2 x66_3).f0))).setCell ⟨gb279, 1, none⟩ (.int .i64 ((rd_T86 l0_2 x66_3).f1))).setCell ⟨gb279, 2, none⟩ (.string ((rd_T86 l0_2 x66_3).f2)))).cell? _ = some _ from hx282_1)); (try have hy282_2 := fun (n_ : Nat) => (show (((((w53.drewN n_).setCell ⟨gb279, 0, none⟩ (.string ((rd_T86 l0_2 x66_3).f0))).setCell ⟨gb279, 1, none⟩ (.int .i64 ((rd_T86 l0_2 x66_3).f1))).setCell ⟨gb279, 2, none⟩ (.string ((rd_T86 l0_2 x66_3).f2)))).cell? _ = some _ from hx282_2)); clear hn282_0; clear hn282_1; clear hn282_2; replace p282 := eq_true p282; replace q282 := eq_true q282)))
                go_meet
                case rel => exact ⟨_, _, (by first | rfl | (simp; done) | (simp only [← hji67] <;> (first | rfl | simp)) | (simp [*]; done)), H', ⟨m124_⟩, ⟨m57_⟩, ⟨m37_⟩, ⟨m77_⟩⟩)
               | (
                have hnb73 := NB279_268.out
                have hnc73 := NB268_279.out
                obtain ⟨hcz74_0, hcz74_1, hcz74_2⟩ := cz3_ BK279.out
                obtain ⟨hfz74_0, hfz74_1, hfz74_2⟩ := fz3_ BK279.out
                go_wp2_with (first | (go_at_call 76; (with_reducible refine (impl_isName.calls k3 ((rd_T86 l0_2 x66_3).f0) _ _ (Aside0.out (by assumption))).mono ?_); rintro e w' ⟨rfl, ⟨nd, rfl⟩⟩; (try exact m2_)) | (go_at_call 76; (with_reducible refine (impl_isName.calls k3 ((rd_T86 l0_2 x66_3).f2) _ _ (Aside0.out (by assumption))).mono ?_); rintro e w' ⟨rfl, ⟨nd, rfl⟩⟩; (try exact m2_)))
                repeat (go_quiet (first | (go_at_call 76; (with_reducible refine (impl_isName.calls k3 ((rd_T86 l0_2 x66_3).f0) _ _ (Aside0.out (by assumption))).mono ?_); rintro e w' ⟨rfl, ⟨nd, rfl⟩⟩; (try exact m2_)) | (go_at_call 76; (with_reducible refine (impl_isName.calls k3 ((rd_T86 l0_2 x66_3).f2) _ _ (Aside0.out (by assumption))).mono ?_); rintro e w' ⟨rfl, ⟨nd, rfl⟩⟩; (try exact m2_))); try go_wp2_with (first | (go_at_call 76; (with_reducible refine (impl_isName.calls k3 ((rd_T86 l0_2 x66_3).f0) _ _ (Aside0.out (by assumption))).mono ?_); rintro e w' ⟨rfl, ⟨nd, rfl⟩⟩; (try exact m2_)) | (go_at_call 76; (with_reducible refine (impl_isName.calls k3 ((rd_T86 l0_2 x66_3).f2) _ _ (Aside0.out (by assumption))).mono ?_); rintro e w' ⟨rfl, ⟨nd, rfl⟩⟩; (try exact m2_))))
                go_meet
                case rel => exact ⟨_, _, m8_, H', ⟨m124_⟩, ⟨m57_⟩, ⟨m37_⟩, ⟨m77_⟩⟩)
            case rest =>
             clear HC52
             try clear c1
             try clear c2
             try clear p2
             try clear q2
             try clear hx2
             try clear c3
             try clear c4
             try clear c4b0
             try clear c4b1
             try clear c5
             try clear c6
             try clear p6
             try clear c7
             try clear c10
             try clear c11
             try clear c11b0
             try clear c11b1
             try clear c17
             try clear c27
             try clear p27
             try clear q27
             try clear hx27
             try clear p28
             try clear q28
             try clear hx28
             try clear c29
             try clear c29b0
             try clear c30
             try clear c30b0
             try clear c31
             try clear c31b0
             try clear c33
             try clear c35
             try clear c37
             try clear c41
             try clear c45
             try clear c49
             try clear c49b0
             try clear c50
             try clear c50b0
             try clear c51
             try clear c51b0
             try clear c54
             try clear c57
             try clear c58
             try clear c58b0
             try clear c59
             try clear c61
             try clear c61b0
             try clear c62
             try clear p64
             try clear c65
             try clear c66
             try clear c66b0
             try clear c68
             try clear c68b0
             try clear c69
             try clear c69b0
             try clear c70
             try clear c73
             try clear c75
             try clear c77
             try clear hcz12_0
             try clear hcz12_1
             try clear hcz12_2
             try clear hcz12_3
             try clear hcz16_0
             try clear hcz16_1
             try clear hcz16_2
             try clear hcz16_3
             try clear hcz17_0
             try clear hcz17_1
             try clear hcz17_2
             try clear hcz17_3
             try clear hcz21_0
             try clear hcz21_1
             try clear hcz21_2
             try clear hcz21_3
             try clear hcz22_0
             try clear hcz22_1
             try clear hcz22_2
             try clear hcz22_3
             try clear hcz26_0
             try clear hcz26_1
             try clear hcz26_2
             try clear hcz26_3
             try clear hcz28_0
             try clear hcz28_1
             try clear hcz28_2
             try clear hcz28_3
             try clear hcz38_0
             try clear hcz38_1
             try clear hcz39_0
             try clear hcz39_1
             try clear hcz39_2
             try clear hcz39_3
             try clear hcz42_0
             try clear hcz42_1
             try clear hcz43_0
             try clear hcz43_1
             try clear hcz43_2
             try clear hcz43_3
             try clear hcz46_0
             try clear hcz46_1
             try clear hcz47_0
             try clear hcz47_1
             try clear hcz47_2
             try clear hcz47_3
             try clear hcz48_0
             try clear hcz48_1
             try clear hcz48_2
             try clear hcz48_3
             try clear hcz55_0
             try clear hcz55_1
             try clear hcz55_2
             try clear hcz5_0
             try clear hcz5_1
             try clear hcz5_2
             try clear hcz5_3
             try clear hcz60_0
             try clear hcz60_1
             try clear hcz60_2
             try clear hcz63_0
             try clear hcz63_1
             try clear hcz63_2
             try clear hcz71_0
             try clear hcz71_1
             try clear hcz71_2
             try clear hcz72_0
             try clear hcz72_1
             try clear hcz72_2
             try clear hcz72_3
             try clear hcz74_0
             try clear hcz74_1
             try clear hcz74_2
             try clear hcz76_0
             try clear hcz76_1
             try clear hcz76_2
             try clear hcz78_0
             try clear hcz78_1
             try clear hcz78_2
             try clear hfz12_0
             try clear hfz12_1
             try clear hfz12_2
             try clear hfz12_3
             try clear hfz16_0
             try clear hfz16_1
             try clear hfz16_2
             try clear hfz16_3
             try clear hfz17_0
             try clear hfz17_1
             try clear hfz17_2
             try clear hfz17_3
             try clear hfz21_0
             try clear hfz21_1
             try clear hfz21_2
             try clear hfz21_3
             try clear hfz22_0
             try clear hfz22_1
             try clear hfz22_2
             try clear hfz22_3
             try clear hfz26_0
             try clear hfz26_1
             try clear hfz26_2
             try clear hfz26_3
             try clear hfz28_0
             try clear hfz28_1
             try clear hfz28_2
             try clear hfz28_3
             try clear hfz38_0
             try clear hfz38_1
             try clear hfz39_0
             try clear hfz39_1
             try clear hfz39_2
             try clear hfz39_3
             try clear hfz42_0
             try clear hfz42_1
             try clear hfz43_0
             try clear hfz43_1
             try clear hfz43_2
             try clear hfz43_3
             try clear hfz46_0
             try clear hfz46_1
             try clear hfz47_0
             try clear hfz47_1
             try clear hfz47_2
             try clear hfz47_3
             try clear hfz48_0
             try clear hfz48_1
             try clear hfz48_2
             try clear hfz48_3
             try clear hfz55_0
             try clear hfz55_1
             try clear hfz55_2
             try clear hfz5_0
             try clear hfz5_1
             try clear hfz5_2
             try clear hfz5_3
             try clear hfz60_0
             try clear hfz60_1
             try clear hfz60_2
             try clear hfz63_0
             try clear hfz63_1
             try clear hfz63_2
             try clear hfz71_0
             try clear hfz71_1
             try clear hfz71_2
             try clear hfz72_0
             try clear hfz72_1
             try clear hfz72_2
             try clear hfz72_3
             try clear hfz74_0
             try clear hfz74_1
             try clear hfz74_2
             try clear hfz76_0
             try clear hfz76_1
             try clear hfz76_2
             try clear hfz78_0
             try clear hfz78_1
             try clear hfz78_2
             try clear hx274_0
             try clear hx274_1
             try clear hx278_0
             try clear hx278_1
             try clear hx278_2
             try clear hx282_0
             try clear hx282_1
             try clear hx282_2
             try clear p2
             try clear p27
             try clear p274
             try clear p278
             try clear p282
             try clear p6
             try clear q2
             try clear q27
             try clear q274
             try clear q278
             try clear q282
             obtain ⟨kq, x106_51, rfl, HA, HJ51, BK268, BK279, HB⟩ := hcut
             cases kq with
             | zero => exact absurd HA.out (by simp [impl_PlantValid.j3])
             | succ kj51 =>
              have H := HA.out
              clear HA
              simp only [impl_PlantValid.j3] at H
              by_cases c79 : x106_51 = true
              ·subst c79
               have H1 : (some false) = some r := by rw [if_pos rfl] at H; exact H
               clear H
               have H := H1
               clear H1
               obtain rfl := Option.some.inj H
               go_wp2
               repeat (go_quiet (fail); try go_wp2)
               go_ret
               exact ⟨m6_, m77_⟩
              ·replace c79 := Bool.eq_false_iff.mpr c79
               subst c79
               have H1 : (impl_PlantValid.l1 kj51 l0_2 (l0_2.length : Int) (wrap64 (x66_3 + 1)) l0_0 l0_1 l0_2 l0_3) = some r := by rw [if_neg (show ¬ (false = true) by decide)] at H; exact H
               clear H
               have H := H1
               clear H1
               have H' := Aside0.mk H
               clear H
               go_wp2
               repeat (go_quiet (fail); try go_wp2)
               go_roundg kj51
               case measure => have := HJ1.out; have := HK2.out; have := HK3.out; have := HJ51.out; omega
               case rel => exact ⟨(wrap64 (x66_3 + 1)), m8_, H', ⟨(by have := HJ1.out; have := HK2.out; have := HK3.out; have := HJ51.out; omega)⟩, ⟨m5_⟩, ⟨m77_⟩⟩
           ·rw [if_neg c51] at H
            exact absurd H (by simp)
          ·rw [if_neg c50] at H
           exact absurd H (by simp)
         ·rw [if_neg c49] at H
          have c49b0 : decide (x66_3 < (l0_2.length : Int)) = false := decide_eq_false c49
          clear c49
          have H' := Aside0.mk H
          clear H
          obtain ⟨hcz80_0, hcz80_1, hcz80_2, hcz80_3⟩ := cz4_ BK268.out
          obtain ⟨hfz80_0, hfz80_1, hfz80_2, hfz80_3⟩ := fz4_ BK268.out
          go_wp2
          repeat (go_quiet (fail); try go_wp2)
          go_loopg [111] k3 (fun kq v111 w' => ∃ (x111_4 : Int), v111 = .int .i64 x111_4 ∧ Aside0 (impl_PlantValid.l2 kq l0_3 (l0_3.length : Int) x111_4 l0_0 l0_1 l0_2 l0_3 = some r) ∧ Aside0 (kq ≤ k3) ∧ Aside0 (w'.heap[gb268]? = some (.cells #[(.slice A0_0 l0_0.length c0_0), (.slice A0_1 l0_1.length c0_1), (.slice A0_2 l0_2.length c0_2), (.slice A0_3 l0_3.length c0_3)] 34 (0, 0))) ∧ Aside0 (Below w.heap.size w w'))
          case atStart => exact ⟨(0), m8_, H', ⟨Nat.le_refl _⟩, ⟨m5_⟩, ⟨m1_⟩⟩
          case round =>
           clear H'
           try clear c1
           try clear c2
           try clear p2
           try clear q2
           try clear hx2
           try clear c3
           try clear c4
           try clear c4b0
           try clear c4b1
           try clear c5
           try clear c6
           try clear p6
           try clear c7
           try clear c10
           try clear c11
           try clear c11b0
           try clear c11b1
           try clear c17
           try clear c27
           try clear p27
           try clear q27
           try clear hx27
           try clear p28
           try clear q28
           try clear hx28
           try clear c29
           try clear c29b0
           try clear c30
           try clear c30b0
           try clear c31
           try clear c31b0
           try clear c33
           try clear c35
           try clear c37
           try clear c41
           try clear c45
           try clear c49
           try clear c49b0
           try clear c50
           try clear c50b0
           try clear c51
           try clear c51b0
           try clear c54
           try clear c57
           try clear c58
           try clear c58b0
           try clear c59
           try clear c61
           try clear c61b0
           try clear c62
           try clear p64
           try clear c65
           try clear c66
           try clear c66b0
           try clear c68
           try clear c68b0
           try clear c69
           try clear c69b0
           try clear c70
           try clear c73
           try clear c75
           try clear c77
           try clear c79
           try clear hcz12_0
           try clear hcz12_1
           try clear hcz12_2
           try clear hcz12_3
           try clear hcz16_0
           try clear hcz16_1
           try clear hcz16_2
           try clear hcz16_3
           try clear hcz17_0
           try clear hcz17_1
           try clear hcz17_2
           try clear hcz17_3
           try clear hcz21_0
           try clear hcz21_1
           try clear hcz21_2
           try clear hcz21_3
           try clear hcz22_0
           try clear hcz22_1
           try clear hcz22_2
           try clear hcz22_3
           try clear hcz26_0
           try clear hcz26_1
           try clear hcz26_2
           try clear hcz26_3
           try clear hcz28_0
           try clear hcz28_1
           try clear hcz28_2
           try clear hcz28_3
           try clear hcz38_0
           try clear hcz38_1
           try clear hcz39_0
           try clear hcz39_1
           try clear hcz39_2
           try clear hcz39_3
           try clear hcz42_0
           try clear hcz42_1
           try clear hcz43_0
           try clear hcz43_1
           try clear hcz43_2
           try clear hcz43_3
           try clear hcz46_0
           try clear hcz46_1
           try clear hcz47_0
           try clear hcz47_1
           try clear hcz47_2
           try clear hcz47_3
           try clear hcz48_0
           try clear hcz48_1
           try clear hcz48_2
           try clear hcz48_3
           try clear hcz55_0
           try clear hcz55_1
           try clear hcz55_2
           try clear hcz5_0
           try clear hcz5_1
           try clear hcz5_2
           try clear hcz5_3
           try clear hcz60_0
           try clear hcz60_1
           try clear hcz60_2
           try clear hcz63_0
           try clear hcz63_1
           try clear hcz63_2
           try clear hcz71_0
           try clear hcz71_1
           try clear hcz71_2
           try clear hcz72_0
           try clear hcz72_1
           try clear hcz72_2
           try clear hcz72_3
           try clear hcz74_0
           try clear hcz74_1
           try clear hcz74_2
           try clear hcz76_0
           try clear hcz76_1
           try clear hcz76_2
           try clear hcz78_0
           try clear hcz78_1
           try clear hcz78_2
           try clear hcz80_0
           try clear hcz80_1
           try clear hcz80_2
           try clear hcz80_3
           try clear hfz12_0
           try clear hfz12_1
           try clear hfz12_2
           try clear hfz12_3
           try clear hfz16_0
           try clear hfz16_1
           try clear hfz16_2
           try clear hfz16_3
           try clear hfz17_0
           try clear hfz17_1
           try clear hfz17_2
           try clear hfz17_3
           try clear hfz21_0
           try clear hfz21_1
           try clear hfz21_2
           try clear hfz21_3
           try clear hfz22_0
           try clear hfz22_1
           try clear hfz22_2
           try clear hfz22_3
           try clear hfz26_0
           try clear hfz26_1
           try clear hfz26_2
           try clear hfz26_3
           try clear hfz28_0
           try clear hfz28_1
           try clear hfz28_2
           try clear hfz28_3
           try clear hfz38_0
           try clear hfz38_1
           try clear hfz39_0
           try clear hfz39_1
           try clear hfz39_2
           try clear hfz39_3
           try clear hfz42_0
           try clear hfz42_1
           try clear hfz43_0
           try clear hfz43_1
           try clear hfz43_2
           try clear hfz43_3
           try clear hfz46_0
           try clear hfz46_1
           try clear hfz47_0
           try clear hfz47_1
           try clear hfz47_2
           try clear hfz47_3
           try clear hfz48_0
           try clear hfz48_1
           try clear hfz48_2
           try clear hfz48_3
           try clear hfz55_0
           try clear hfz55_1
           try clear hfz55_2
           try clear hfz5_0
           try clear hfz5_1
           try clear hfz5_2
           try clear hfz5_3
           try clear hfz60_0
           try clear hfz60_1
           try clear hfz60_2
           try clear hfz63_0
           try clear hfz63_1
           try clear hfz63_2
           try clear hfz71_0
           try clear hfz71_1
           try clear hfz71_2
           try clear hfz72_0
           try clear hfz72_1
           try clear hfz72_2
           try clear hfz72_3
           try clear hfz74_0
           try clear hfz74_1
           try clear hfz74_2
           try clear hfz76_0
           try clear hfz76_1
           try clear hfz76_2
           try clear hfz78_0
           try clear hfz78_1
           try clear hfz78_2
           try clear hfz80_0
           try clear hfz80_1
           try clear hfz80_2
           try clear hfz80_3
           try clear hx274_0
           try clear hx274_1
           try clear hx278_0
           try clear hx278_1
           try clear hx278_2
           try clear hx282_0
           try clear hx282_1
           try clear hx282_2
           try clear p2
           try clear p27
           try clear p274
           try clear p278
           try clear p28
           try clear p282
           try clear p6
           try clear p64
           try clear q2
           try clear q27
           try clear q274
           try clear q278
           try clear q28
           try clear q282
           obtain ⟨x111_4, rfl, HA, HK4, BK268, HB⟩ := hrel
           cases gk with
           | zero => exact absurd HA.out (by simp [impl_PlantValid.l2])
           | succ k4 =>
            have H := HA.out
            clear HA
            simp only [impl_PlantValid.l2] at H
            by_cases c81 : x111_4 < (l0_3.length : Int)
            ·rw [if_pos c81] at H
             have c81b0 : decide (x111_4 < (l0_3.length : Int)) = true := decide_eq_true c81
             clear c81
             by_cases c82 : 0 ≤ x111_4
             ·rw [if_pos c82] at H
              have c82b0 : decide (0 ≤ x111_4) = true := decide_eq_true c82
              clear c82
              by_cases c83 : x111_4 < (l0_3.length : Int)
              ·rw [if_pos c83] at H
               have c83b0 : decide (x111_4 < (l0_3.length : Int)) = true := decide_eq_true c83
               clear c83
               replace H := Option.bind_eq_some_iff.mp H
               obtain ⟨⟨t285, t286, t287, t288⟩, A840, H⟩ := H
               replace H : ((impl_Plant_place.f k4 l0_0 l0_1 l0_2 l0_3 ((rd_T108 l0_3 x111_4).f2)).bind fun bt290 => ((impl_isName.f k4 ((rd_T108 l0_3 x111_4).f0)).bind fun t295 => (if t295 = true then (if t288 = true then (if bt290.2.2.2 = true then (if ((Op.bytesLess (((rd_T108 l0_3 x111_4).f1).toList) (((rd_T108 l0_3 x111_4).f2).toList)) = true) then ((impl_isName.f k4 ((rd_T108 l0_3 x111_4).f3)).bind fun t296 => (if t296 = true then (if x111_4 > 0 then (if 0 ≤ (wrap64 (x111_4 - 1)) then (if (wrap64 (x111_4 - 1)) < (l0_3.length : Int) then (impl_PlantValid.j5 k4 l0_3 (l0_3.length : Int) x111_4 (!(Op.bytesLess (((rd_T108 l0_3 (wrap64 (x111_4 - 1))).f0).toList) (((rd_T108 l0_3 x111_4).f0).toList))) l0_0 l0_1 l0_2 l0_3) else (none)) else (none)) else (impl_PlantValid.j5 k4 l0_3 (l0_3.length : Int) x111_4 false l0_0 l0_1 l0_2 l0_3)) else (impl_PlantValid.j5 k4 l0_3 (l0_3.length : Int) x111_4 true l0_0 l0_1 l0_2 l0_3))) else (impl_PlantValid.j5 k4 l0_3 (l0_3.length : Int) x111_4 true l0_0 l0_1 l0_2 l0_3)) else (impl_PlantValid.j5 k4 l0_3 (l0_3.length : Int) x111_4 true l0_0 l0_1 l0_2 l0_3)) else (impl_PlantValid.j5 k4 l0_3 (l0_3.length : Int) x111_4 true l0_0 l0_1 l0_2 l0_3)) else (impl_PlantValid.j5 k4 l0_3 (l0_3.length : Int) x111_4 true l0_0 l0_1 l0_2 l0_3)))) = some r := H
               have A84 := Aside0.mk A840
               clear A840
               replace H := Option.bind_eq_some_iff.mp H
               obtain ⟨⟨t290, t291, t292, t293⟩, A850, H⟩ := H
               replace H : ((impl_isName.f k4 ((rd_T108 l0_3 x111_4).f0)).bind fun t295 => (if t295 = true then (if t288 = true then (if t293 = true then (if ((Op.bytesLess (((rd_T108 l0_3 x111_4).f1).toList) (((rd_T108 l0_3 x111_4).f2).toList)) = true) then ((impl_isName.f k4 ((rd_T108 l0_3 x111_4).f3)).bind fun t296 => (if t296 = true then (if x111_4 > 0 then (if 0 ≤ (wrap64 (x111_4 - 1)) then (if (wrap64 (x111_4 - 1)) < (l0_3.length : Int) then (impl_PlantValid.j5 k4 l0_3 (l0_3.length : Int) x111_4 (!(Op.bytesLess (((rd_T108 l0_3 (wrap64 (x111_4 - 1))).f0).toList) (((rd_T108 l0_3 x111_4).f0).toList))) l0_0 l0_1 l0_2 l0_3) else (none)) else (none)) else (impl_PlantValid.j5 k4 l0_3 (l0_3.length : Int) x111_4 false l0_0 l0_1 l0_2 l0_3)) else (impl_PlantValid.j5 k4 l0_3 (l0_3.length : Int) x111_4 true l0_0 l0_1 l0_2 l0_3))) else (impl_PlantValid.j5 k4 l0_3 (l0_3.length : Int) x111_4 true l0_0 l0_1 l0_2 l0_3)) else (impl_PlantValid.j5 k4 l0_3 (l0_3.length : Int) x111_4 true l0_0 l0_1 l0_2 l0_3)) else (impl_PlantValid.j5 k4 l0_3 (l0_3.length : Int) x111_4 true l0_0 l0_1 l0_2 l0_3)) else (impl_PlantValid.j5 k4 l0_3 (l0_3.length : Int) x111_4 true l0_0 l0_1 l0_2 l0_3))) = some r := H
               have A85 := Aside0.mk A850
               clear A850
               have HC86 := Aside0.mk H
               clear H
               have p283 : 0 ≤ (x111_4 : Int) := of_decide_eq_true m4_
               have q283 : x111_4 < (l0_3.length : Int) := of_decide_eq_true m4_
               obtain ⟨ad283, e283, hx283_0, hx283_1, hx283_2, hx283_3⟩ := at_T108 HR0_3.out x111_4 p283 q283
               cases e283
               replace hx283_0 := (HB.out.cell (World.block_lt_of_cell? w _ hx283_0)).trans hx283_0
               replace hx283_1 := (HB.out.cell (World.block_lt_of_cell? w _ hx283_1)).trans hx283_1
               replace hx283_2 := (HB.out.cell (World.block_lt_of_cell? w _ hx283_2)).trans hx283_2
               replace hx283_3 := (HB.out.cell (World.block_lt_of_cell? w _ hx283_3)).trans hx283_3
               replace p283 := eq_true p283
               replace q283 := eq_true q283
               go_upto_region 20 with (first | ((with_reducible refine gate_dst (N := 8) rfl ?_); (try (refine gate_guard (by rfl) ?_; dsimp only)); refine box_event ?hg (N := 8) ?hd (cs := #[.string (⟨#[]⟩ : ByteArray), .string (⟨#[]⟩ : ByteArray), .string (⟨#[]⟩ : ByteArray), .string (⟨#[]⟩ : ByteArray)]) (t := 108) ?hr ?_; (case hd => rfl); (case hg => rfl); (case hr => first | (go_simp; done) | (go_simp; rfl)); intro gb284 hg w87 hbox hb; have n0_ := Aside0.mk (blk_below (g := gb268) (o := .cells #[.slice A0_0 l0_0.length c0_0, .slice A0_1 l0_1.length c0_1, .slice A0_2 l0_2.length c0_2, .slice (some ad283) l0_3.length c0_3] 34 (0, 0)) m5_ hb); have n1_ := Aside0.mk (below_step m1_ hb); have n2_ := Aside0.mk (hbox); have n3_ := Aside0.mk ((by rw [hg]; exact (below_size m1_) : w.heap.size ≤ gb284)); have n4_ := Aside0.mk ((by rw [hg]; exact (below_size m1_) : w.heap.size ≤ gb284)); have n5_ := Aside0.mk ((by rw [hg]; exact Nat.ne_of_lt (blk_lt (g := gb268) (o := .cells #[.slice A0_0 l0_0.length c0_0, .slice A0_1 l0_1.length c0_1, .slice A0_2 l0_2.length c0_2, .slice (some ad283) l0_3.length c0_3] 34 (0, 0)) m5_) : gb268 ≠ gb284)); have n6_ := Aside0.mk ((by rw [hg]; exact Nat.ne_of_gt (blk_lt (g := gb268) (o := .cells #[.slice A0_0 l0_0.length c0_0, .slice A0_1 l0_1.length c0_1, .slice A0_2 l0_2.length c0_2, .slice (some ad283) l0_3.length c0_3] 34 (0, 0)) m5_) : gb284 ≠ gb268)); clear BK268; clear HB; have BK268 := n0_; have HB := n1_; have BK284 := n2_; have GW284 := n3_; have GE284 := n4_; have NB268_284 := n5_; have NB284_268 := n6_; clear n0_ n1_ n2_ n3_ n4_ n5_ n6_; clear hb hbox hg; have hnb88 := NB284_268.out; have hnc88 := NB268_284.out; obtain ⟨hcz89_0, hcz89_1, hcz89_2, hcz89_3⟩ := cz4_ BK284.out; obtain ⟨hfz89_0, hfz89_1, hfz89_2, hfz89_3⟩ := fz4_ BK284.out; obtain ⟨hcz90_0, hcz90_1, hcz90_2, hcz90_3⟩ := cz4_ BK268.out; obtain ⟨hfz90_0, hfz90_1, hfz90_2, hfz90_3⟩ := fz4_ BK268.out) | (go_at_call 77; (with_reducible refine (impl_Plant_place.calls k4 _ _ l0_0 _ _ l0_1 _ _ l0_2 _ _ l0_3 ((rd_T108 l0_3 x111_4).f1) t285 t286 t287 t288 _ ?side1 ?side2 ?side3 ?side4 ?side5 ?side6 ?side7 ?side8 A84.out).mono ?_); (case side1 => exact Kd.C_below HR0_0.out m11_); (case side2 => exact HC0_0.out); (case side3 => exact Kd.C_below HR0_1.out m11_); (case side4 => exact HC0_1.out); (case side5 => exact Kd.C_below HR0_2.out m11_); (case side6 => exact HC0_2.out); (case side7 => exact Kd.C_below HR0_3.out m11_); (case side8 => exact HC0_3.out); rintro e w91 ⟨rfl, hb⟩; have n0_ := Aside0.mk (blk_below (g := gb268) (o := .cells #[.slice A0_0 l0_0.length c0_0, .slice A0_1 l0_1.length c0_1, .slice A0_2 l0_2.length c0_2, .slice (some ad283) l0_3.length c0_3] 34 (0, 0)) m48_ hb); have n1_ := Aside0.mk (blk_below (g := gb284) (o := .cells #[.string ((rd_T108 l0_3 x111_4).f0), .string ((rd_T108 l0_3 x111_4).f1), .string ((rd_T108 l0_3 x111_4).f2), .string ((rd_T108 l0_3 x111_4).f3)] 108 (0, 0)) m26_ hb); have n2_ := Aside0.mk (below_step m11_ hb); clear BK268; clear BK284; clear HB; have BK268 := n0_; have BK284 := n1_; have HB := n2_; clear n0_ n1_ n2_; (try clear hb); (try clear hb2); (try clear hk); (try clear hi)) | ((with_reducible refine gate_dst (N := 9) rfl ?_); (try (refine gate_guard (by rfl) ?_; dsimp only)); refine box_event ?hg (N := 9) ?hd (cs := #[.string (⟨#[]⟩ : ByteArray), .int .i64 0, .string (⟨#[]⟩ : ByteArray)]) (t := 86) ?hr ?_; (case hd => rfl); (case hg => rfl); (case hr => first | (go_simp; done) | (go_simp; rfl)); intro gb289 hg w92 hbox hb; have n0_ := Aside0.mk (blk_below (g := gb268) (o := .cells #[.slice A0_0 l0_0.length c0_0, .slice A0_1 l0_1.length c0_1, .slice A0_2 l0_2.length c0_2, .slice (some ad283) l0_3.length c0_3] 34 (0, 0)) m5_ hb); have n1_ := Aside0.mk (blk_below (g := gb284) (o := .cells #[.string ((rd_T108 l0_3 x111_4).f0), .string ((rd_T108 l0_3 x111_4).f1), .string ((rd_T108 l0_3 x111_4).f2), .string ((rd_T108 l0_3 x111_4).f3)] 108 (0, 0)) m28_ hb); have n2_ := Aside0.mk (below_step m11_ hb); have n3_ := Aside0.mk (hbox); have n4_ := Aside0.mk ((by rw [hg]; exact (below_size m11_) : w.heap.size ≤ gb289)); have n5_ := Aside0.mk ((by rw [hg]; exact (below_size m11_) : w.heap.size ≤ gb289)); have n6_ := Aside0.mk ((by rw [hg]; exact Nat.ne_of_lt (blk_lt (g := gb268) (o := .cells #[.slice A0_0 l0_0.length c0_0, .slice A0_1 l0_1.length c0_1, .slice A0_2 l0_2.length c0_2, .slice (some ad283) l0_3.length c0_3] 34 (0, 0)) m5_) : gb268 ≠ gb289)); have n7_ := Aside0.mk ((by rw [hg]; exact Nat.ne_of_gt (blk_lt (g := gb268) (o := .cells #[.slice A0_0 l0_0.length c0_0, .slice A0_1 l0_1.length c0_1, .slice A0_2 l0_2.length c0_2, .slice (some ad283) l0_3.length c0_3] 34 (0, 0)) m5_) : gb289 ≠ gb268)); have n8_ := Aside0.mk ((by rw [hg]; exact Nat.ne_of_lt (blk_lt (g := gb284) (o := .cells #[.string ((rd_T108 l0_3 x111_4).f0), .string ((rd_T108 l0_3 x111_4).f1), .string ((rd_T108 l0_3 x111_4).f2), .string ((rd_T108 l0_3 x111_4).f3)] 108 (0, 0)) m28_) : gb284 ≠ gb289)); have n9_ := Aside0.mk ((by rw [hg]; exact Nat.ne_of_gt (blk_lt (g := gb284) (o := .cells #[.string ((rd_T108 l0_3 x111_4).f0), .string ((rd_T108 l0_3 x111_4).f1), .string ((rd_T108 l0_3 x111_4).f2), .string ((rd_T108 l0_3 x111_4).f3)] 108 (0, 0)) m28_) : gb289 ≠ gb284)); clear BK268; clear BK284; clear HB; have BK268 := n0_; have BK284 := n1_; have HB := n2_; have BK289 := n3_; have GW289 := n4_; have GE289 := n5_; have NB268_289 := n6_; have NB289_268 := n7_; have NB284_289 := n8_; have NB289_284 := n9_; clear n0_ n1_ n2_ n3_ n4_ n5_ n6_ n7_ n8_ n9_; clear hb hbox hg; have hnb93 := NB289_268.out; have hnc93 := NB268_289.out; have hnb94 := NB289_284.out; have hnc94 := NB284_289.out; obtain ⟨hcz95_0, hcz95_1, hcz95_2⟩ := cz3_ BK289.out; obtain ⟨hfz95_0, hfz95_1, hfz95_2⟩ := fz3_ BK289.out; obtain ⟨hcz96_0, hcz96_1, hcz96_2, hcz96_3⟩ := cz4_ BK268.out; obtain ⟨hfz96_0, hfz96_1, hfz96_2, hfz96_3⟩ := fz4_ BK268.out; obtain ⟨hcz97_0, hcz97_1, hcz97_2, hcz97_3⟩ := cz4_ BK284.out; obtain ⟨hfz97_0, hfz97_1, hfz97_2, hfz97_3⟩ := fz4_ BK284.out) | (go_at_call 77; (with_reducible refine (impl_Plant_place.calls k4 _ _ l0_0 _ _ l0_1 _ _ l0_2 _ _ l0_3 ((rd_T108 l0_3 x111_4).f2) t290 t291 t292 t293 _ ?side1 ?side2 ?side3 ?side4 ?side5 ?side6 ?side7 ?side8 A85.out).mono ?_); (case side1 => exact Kd.C_below HR0_0.out m10_); (case side2 => exact HC0_0.out); (case side3 => exact Kd.C_below HR0_1.out m10_); (case side4 => exact HC0_1.out); (case side5 => exact Kd.C_below HR0_2.out m10_); (case side6 => exact HC0_2.out); (case side7 => exact Kd.C_below HR0_3.out m10_); (case side8 => exact HC0_3.out); rintro e w98 ⟨rfl, hb⟩; have n0_ := Aside0.mk (blk_below (g := gb268) (o := .cells #[.slice A0_0 l0_0.length c0_0, .slice A0_1 l0_1.length c0_1, .slice A0_2 l0_2.length c0_2, .slice (some ad283) l0_3.length c0_3] 34 (0, 0)) m58_ hb); have n1_ := Aside0.mk (blk_below (g := gb284) (o := .cells #[.string ((rd_T108 l0_3 x111_4).f0), .string ((rd_T108 l0_3 x111_4).f1), .string ((rd_T108 l0_3 x111_4).f2), .string ((rd_T108 l0_3 x111_4).f3)] 108 (0, 0)) m59_ hb); have n2_ := Aside0.mk (blk_below (g := gb289) (o := .cells #[.string t285, .int .i64 t286, .string t287] 86 (0, 0)) m38_ hb); have n3_ := Aside0.mk (below_step m10_ hb); clear BK268; clear BK284; clear BK289; clear HB; have BK268 := n0_; have BK284 := n1_; have BK289 := n2_; have HB := n3_; clear n0_ n1_ n2_ n3_; (try clear hb); (try clear hb2); (try clear hk); (try clear hi)) | ((with_reducible refine gate_dst (N := 11) rfl ?_); (try (refine gate_guard (by rfl) ?_; dsimp only)); refine box_event ?hg (N := 11) ?hd (cs := #[.string (⟨#[]⟩ : ByteArray), .int .i64 0, .string (⟨#[]⟩ : ByteArray)]) (t := 86) ?hr ?_; (case hd => rfl); (case hg => rfl); (case hr => first | (go_simp; done) | (go_simp; rfl)); intro gb294 hg w99 hbox hb; have n0_ := Aside0.mk (blk_below (g := gb268) (o := .cells #[.slice A0_0 l0_0.length c0_0, .slice A0_1 l0_1.length c0_1, .slice A0_2 l0_2.length c0_2, .slice (some ad283) l0_3.length c0_3] 34 (0, 0)) m5_ hb); have n1_ := Aside0.mk (blk_below (g := gb284) (o := .cells #[.string ((rd_T108 l0_3 x111_4).f0), .string ((rd_T108 l0_3 x111_4).f1), .string ((rd_T108 l0_3 x111_4).f2), .string ((rd_T108 l0_3 x111_4).f3)] 108 (0, 0)) m28_ hb); have n2_ := Aside0.mk (blk_below (g := gb289) (o := .cells #[.string t285, .int .i64 t286, .string t287] 86 (0, 0)) m69_ hb); have n3_ := Aside0.mk (below_step m10_ hb); have n4_ := Aside0.mk (hbox); have n5_ := Aside0.mk ((by rw [hg]; exact (below_size m10_) : w.heap.size ≤ gb294)); have n6_ := Aside0.mk ((by rw [hg]; exact (below_size m10_) : w.heap.size ≤ gb294)); have n7_ := Aside0.mk ((by rw [hg]; exact Nat.ne_of_lt (blk_lt (g := gb268) (o := .cells #[.slice A0_0 l0_0.length c0_0, .slice A0_1 l0_1.length c0_1, .slice A0_2 l0_2.length c0_2, .slice (some ad283) l0_3.length c0_3] 34 (0, 0)) m5_) : gb268 ≠ gb294)); have n8_ := Aside0.mk ((by rw [hg]; exact Nat.ne_of_gt (blk_lt (g := gb268) (o := .cells #[.slice A0_0 l0_0.length c0_0, .slice A0_1 l0_1.length c0_1, .slice A0_2 l0_2.length c0_2, .slice (some ad283) l0_3.length c0_3] 34 (0, 0)) m5_) : gb294 ≠ gb268)); have n9_ := Aside0.mk ((by rw [hg]; exact Nat.ne_of_lt (blk_lt (g := gb284) (o := .cells #[.string ((rd_T108 l0_3 x111_4).f0), .string ((rd_T108 l0_3 x111_4).f1), .string ((rd_T108 l0_3 x111_4).f2), .string ((rd_T108 l0_3 x111_4).f3)] 108 (0, 0)) m28_) : gb284 ≠ gb294)); have n10_ := Aside0.mk ((by rw [hg]; exact Nat.ne_of_gt (blk_lt (g := gb284) (o := .cells #[.string ((rd_T108 l0_3 x111_4).f0), .string ((rd_T108 l0_3 x111_4).f1), .string ((rd_T108 l0_3 x111_4).f2), .string ((rd_T108 l0_3 x111_4).f3)] 108 (0, 0)) m28_) : gb294 ≠ gb284)); have n11_ := Aside0.mk ((by rw [hg]; exact Nat.ne_of_lt (blk_lt (g := gb289) (o := .cells #[.string t285, .int .i64 t286, .string t287] 86 (0, 0)) m69_) : gb289 ≠ gb294)); have n12_ := Aside0.mk ((by rw [hg]; exact Nat.ne_of_gt (blk_lt (g := gb289) (o := .cells #[.string t285, .int .i64 t286, .string t287] 86 (0, 0)) m69_) : gb294 ≠ gb289)); clear BK268; clear BK284; clear BK289; clear HB; have BK268 := n0_; have BK284 := n1_; have BK289 := n2_; have HB := n3_; have BK294 := n4_; have GW294 := n5_; have GE294 := n6_; have NB268_294 := n7_; have NB294_268 := n8_; have NB284_294 := n9_; have NB294_284 := n10_; have NB289_294 := n11_; have NB294_289 := n12_; clear n0_ n1_ n2_ n3_ n4_ n5_ n6_ n7_ n8_ n9_ n10_ n11_ n12_; clear hb hbox hg; have hnb100 := NB294_268.out; have hnc100 := NB268_294.out; have hnb101 := NB294_284.out; have hnc101 := NB284_294.out; have hnb102 := NB294_289.out; have hnc102 := NB289_294.out; obtain ⟨hcz103_0, hcz103_1, hcz103_2⟩ := cz3_ BK294.out; obtain ⟨hfz103_0, hfz103_1, hfz103_2⟩ := fz3_ BK294.out))
               repeat (go_quiet (first | ((with_reducible refine gate_dst (N := 8) rfl ?_); (try (refine gate_guard (by rfl) ?_; dsimp only)); refine box_event ?hg (N := 8) ?hd (cs := #[.string (⟨#[]⟩ : ByteArray), .string (⟨#[]⟩ : ByteArray), .string (⟨#[]⟩ : ByteArray), .string (⟨#[]⟩ : ByteArray)]) (t := 108) ?hr ?_; (case hd => rfl); (case hg => rfl); (case hr => first | (go_simp; done) | (go_simp; rfl)); intro gb284 hg w87 hbox hb; have n0_ := Aside0.mk (blk_below (g := gb268) (o := .cells #[.slice A0_0 l0_0.length c0_0, .slice A0_1 l0_1.length c0_1, .slice A0_2 l0_2.length c0_2, .slice (some ad283) l0_3.length c0_3] 34 (0, 0)) m5_ hb); have n1_ := Aside0.mk (below_step m1_ hb); have n2_ := Aside0.mk (hbox); have n3_ := Aside0.mk ((by rw [hg]; exact (below_size m1_) : w.heap.size ≤ gb284)); have n4_ := Aside0.mk ((by rw [hg]; exact (below_size m1_) : w.heap.size ≤ gb284)); have n5_ := Aside0.mk ((by rw [hg]; exact Nat.ne_of_lt (blk_lt (g := gb268) (o := .cells #[.slice A0_0 l0_0.length c0_0, .slice A0_1 l0_1.length c0_1, .slice A0_2 l0_2.length c0_2, .slice (some ad283) l0_3.length c0_3] 34 (0, 0)) m5_) : gb268 ≠ gb284)); have n6_ := Aside0.mk ((by rw [hg]; exact Nat.ne_of_gt (blk_lt (g := gb268) (o := .cells #[.slice A0_0 l0_0.length c0_0, .slice A0_1 l0_1.length c0_1, .slice A0_2 l0_2.length c0_2, .slice (some ad283) l0_3.length c0_3] 34 (0, 0)) m5_) : gb284 ≠ gb268)); clear BK268; clear HB; have BK268 := n0_; have HB := n1_; have BK284 := n2_; have GW284 := n3_; have GE284 := n4_; have NB268_284 := n5_; have NB284_268 := n6_; clear n0_ n1_ n2_ n3_ n4_ n5_ n6_; clear hb hbox hg; have hnb88 := NB284_268.out; have hnc88 := NB268_284.out; obtain ⟨hcz89_0, hcz89_1, hcz89_2, hcz89_3⟩ := cz4_ BK284.out; obtain ⟨hfz89_0, hfz89_1, hfz89_2, hfz89_3⟩ := fz4_ BK284.out; obtain ⟨hcz90_0, hcz90_1, hcz90_2, hcz90_3⟩ := cz4_ BK268.out; obtain ⟨hfz90_0, hfz90_1, hfz90_2, hfz90_3⟩ := fz4_ BK268.out) | (go_at_call 77; (with_reducible refine (impl_Plant_place.calls k4 _ _ l0_0 _ _ l0_1 _ _ l0_2 _ _ l0_3 ((rd_T108 l0_3 x111_4).f1) t285 t286 t287 t288 _ ?side1 ?side2 ?side3 ?side4 ?side5 ?side6 ?side7 ?side8 A84.out).mono ?_); (case side1 => exact Kd.C_below HR0_0.out m11_); (case side2 => exact HC0_0.out); (case side3 => exact Kd.C_below HR0_1.out m11_); (case side4 => exact HC0_1.out); (case side5 => exact Kd.C_below HR0_2.out m11_); (case side6 => exact HC0_2.out); (case side7 => exact Kd.C_below HR0_3.out m11_); (case side8 => exact HC0_3.out); rintro e w91 ⟨rfl, hb⟩; have n0_ := Aside0.mk (blk_below (g := gb268) (o := .cells #[.slice A0_0 l0_0.length c0_0, .slice A0_1 l0_1.length c0_1, .slice A0_2 l0_2.length c0_2, .slice (some ad283) l0_3.length c0_3] 34 (0, 0)) m48_ hb); have n1_ := Aside0.mk (blk_below (g := gb284) (o := .cells #[.string ((rd_T108 l0_3 x111_4).f0), .string ((rd_T108 l0_3 x111_4).f1), .string ((rd_T108 l0_3 x111_4).f2), .string ((rd_T108 l0_3 x111_4).f3)] 108 (0, 0)) m26_ hb); have n2_ := Aside0.mk (below_step m11_ hb); clear BK268; clear BK284; clear HB; have BK268 := n0_; have BK284 := n1_; have HB := n2_; clear n0_ n1_ n2_; (try clear hb); (try clear hb2); (try clear hk); (try clear hi)) | ((with_reducible refine gate_dst (N := 9) rfl ?_); (try (refine gate_guard (by rfl) ?_; dsimp only)); refine box_event ?hg (N := 9) ?hd (cs := #[.string (⟨#[]⟩ : ByteArray), .int .i64 0, .string (⟨#[]⟩ : ByteArray)]) (t := 86) ?hr ?_; (case hd => rfl); (case hg => rfl); (case hr => first | (go_simp; done) | (go_simp; rfl)); intro gb289 hg w92 hbox hb; have n0_ := Aside0.mk (blk_below (g := gb268) (o := .cells #[.slice A0_0 l0_0.length c0_0, .slice A0_1 l0_1.length c0_1, .slice A0_2 l0_2.length c0_2, .slice (some ad283) l0_3.length c0_3] 34 (0, 0)) m5_ hb); have n1_ := Aside0.mk (blk_below (g := gb284) (o := .cells #[.string ((rd_T108 l0_3 x111_4).f0), .string ((rd_T108 l0_3 x111_4).f1), .string ((rd_T108 l0_3 x111_4).f2), .string ((rd_T108 l0_3 x111_4).f3)] 108 (0, 0)) m28_ hb); have n2_ := Aside0.mk (below_step m11_ hb); have n3_ := Aside0.mk (hbox); have n4_ := Aside0.mk ((by rw [hg]; exact (below_size m11_) : w.heap.size ≤ gb289)); have n5_ := Aside0.mk ((by rw [hg]; exact (below_size m11_) : w.heap.size ≤ gb289)); have n6_ := Aside0.mk ((by rw [hg]; exact Nat.ne_of_lt (blk_lt (g := gb268) (o := .cells #[.slice A0_0 l0_0.length c0_0, .slice A0_1 l0_1.length c0_1, .slice A0_2 l0_2.length c0_2, .slice (some ad283) l0_3.length c0_3] 34 (0, 0)) m5_) : gb268 ≠ gb289)); have n7_ := Aside0.mk ((by rw [hg]; exact Nat.ne_of_gt (blk_lt (g := gb268) (o := .cells #[.slice A0_0 l0_0.length c0_0, .slice A0_1 l0_1.length c0_1, .slice A0_2 l0_2.length c0_2, .slice (some ad283) l0_3.length c0_3] 34 (0, 0)) m5_) : gb289 ≠ gb268)); have n8_ := Aside0.mk ((by rw [hg]; exact Nat.ne_of_lt (blk_lt (g := gb284) (o := .cells #[.string ((rd_T108 l0_3 x111_4).f0), .string ((rd_T108 l0_3 x111_4).f1), .string ((rd_T108 l0_3 x111_4).f2), .string ((rd_T108 l0_3 x111_4).f3)] 108 (0, 0)) m28_) : gb284 ≠ gb289)); have n9_ := Aside0.mk ((by rw [hg]; exact Nat.ne_of_gt (blk_lt (g := gb284) (o := .cells #[.string ((rd_T108 l0_3 x111_4).f0), .string ((rd_T108 l0_3 x111_4).f1), .string ((rd_T108 l0_3 x111_4).f2), .string ((rd_T108 l0_3 x111_4).f3)] 108 (0, 0)) m28_) : gb289 ≠ gb284)); clear BK268; clear BK284; clear HB; have BK268 := n0_; have BK284 := n1_; have HB := n2_; have BK289 := n3_; have GW289 := n4_; have GE289 := n5_; have NB268_289 := n6_; have NB289_268 := n7_; have NB284_289 := n8_; have NB289_284 := n9_; clear n0_ n1_ n2_ n3_ n4_ n5_ n6_ n7_ n8_ n9_; clear hb hbox hg; have hnb93 := NB289_268.out; have hnc93 := NB268_289.out; have hnb94 := NB289_284.out; have hnc94 := NB284_289.out; obtain ⟨hcz95_0, hcz95_1, hcz95_2⟩ := cz3_ BK289.out; obtain ⟨hfz95_0, hfz95_1, hfz95_2⟩ := fz3_ BK289.out; obtain ⟨hcz96_0, hcz96_1, hcz96_2, hcz96_3⟩ := cz4_ BK268.out; obtain ⟨hfz96_0, hfz96_1, hfz96_2, hfz96_3⟩ := fz4_ BK268.out; obtain ⟨hcz97_0, hcz97_1, hcz97_2, hcz97_3⟩ := cz4_ BK284.out; obtain ⟨hfz97_0, hfz97_1, hfz97_2, hfz97_3⟩ := fz4_ BK284.out) | (go_at_call 77; (with_reducible refine (impl_Plant_place.calls k4 _ _ l0_0 _ _ l0_1 _ _ l0_2 _ _ l0_3 ((rd_T108 l0_3 x111_4).f2) t290 t291 t292 t293 _ ?side1 ?side2 ?side3 ?side4 ?side5 ?side6 ?side7 ?side8 A85.out).mono ?_); (case side1 => exact Kd.C_below HR0_0.out m10_); (case side2 => exact HC0_0.out); (case side3 => exact Kd.C_below HR0_1.out m10_); (case side4 => exact HC0_1.out); (case side5 => exact Kd.C_below HR0_2.out m10_); (case side6 => exact HC0_2.out); (case side7 => exact Kd.C_below HR0_3.out m10_); (case side8 => exact HC0_3.out); rintro e w98 ⟨rfl, hb⟩; have n0_ := Aside0.mk (blk_below (g := gb268) (o := .cells #[.slice A0_0 l0_0.length c0_0, .slice A0_1 l0_1.length c0_1, .slice A0_2 l0_2.length c0_2, .slice (some ad283) l0_3.length c0_3] 34 (0, 0)) m58_ hb); have n1_ := Aside0.mk (blk_below (g := gb284) (o := .cells #[.string ((rd_T108 l0_3 x111_4).f0), .string ((rd_T108 l0_3 x111_4).f1), .string ((rd_T108 l0_3 x111_4).f2), .string ((rd_T108 l0_3 x111_4).f3)] 108 (0, 0)) m59_ hb); have n2_ := Aside0.mk (blk_below (g := gb289) (o := .cells #[.string t285, .int .i64 t286, .string t287] 86 (0, 0)) m38_ hb); have n3_ := Aside0.mk (below_step m10_ hb); clear BK268; clear BK284; clear BK289; clear HB; have BK268 := n0_; have BK284 := n1_; have BK289 := n2_; have HB := n3_; clear n0_ n1_ n2_ n3_; (try clear hb); (try clear hb2); (try clear hk); (try clear hi)) | ((with_reducible refine gate_dst (N := 11) rfl ?_); (try (refine gate_guard (by rfl) ?_; dsimp only)); refine box_event ?hg (N := 11) ?hd (cs := #[.string (⟨#[]⟩ : ByteArray), .int .i64 0, .string (⟨#[]⟩ : ByteArray)]) (t := 86) ?hr ?_; (case hd => rfl); (case hg => rfl); (case hr => first | (go_simp; done) | (go_simp; rfl)); intro gb294 hg w99 hbox hb; have n0_ := Aside0.mk (blk_below (g := gb268) (o := .cells #[.slice A0_0 l0_0.length c0_0, .slice A0_1 l0_1.length c0_1, .slice A0_2 l0_2.length c0_2, .slice (some ad283) l0_3.length c0_3] 34 (0, 0)) m5_ hb); have n1_ := Aside0.mk (blk_below (g := gb284) (o := .cells #[.string ((rd_T108 l0_3 x111_4).f0), .string ((rd_T108 l0_3 x111_4).f1), .string ((rd_T108 l0_3 x111_4).f2), .string ((rd_T108 l0_3 x111_4).f3)] 108 (0, 0)) m28_ hb); have n2_ := Aside0.mk (blk_below (g := gb289) (o := .cells #[.string t285, .int .i64 t286, .string t287] 86 (0, 0)) m69_ hb); have n3_ := Aside0.mk (below_step m10_ hb); have n4_ := Aside0.mk (hbox); have n5_ := Aside0.mk ((by rw [hg]; exact (below_size m10_) : w.heap.size ≤ gb294)); have n6_ := Aside0.mk ((by rw [hg]; exact (below_size m10_) : w.heap.size ≤ gb294)); have n7_ := Aside0.mk ((by rw [hg]; exact Nat.ne_of_lt (blk_lt (g := gb268) (o := .cells #[.slice A0_0 l0_0.length c0_0, .slice A0_1 l0_1.length c0_1, .slice A0_2 l0_2.length c0_2, .slice (some ad283) l0_3.length c0_3] 34 (0, 0)) m5_) : gb268 ≠ gb294)); have n8_ := Aside0.mk ((by rw [hg]; exact Nat.ne_of_gt (blk_lt (g := gb268) (o := .cells #[.slice A0_0 l0_0.length c0_0, .slice A0_1 l0_1.length c0_1, .slice A0_2 l0_2.length c0_2, .slice (some ad283) l0_3.length c0_3] 34 (0, 0)) m5_) : gb294 ≠ gb268)); have n9_ := Aside0.mk ((by rw [hg]; exact Nat.ne_of_lt (blk_lt (g := gb284) (o := .cells #[.string ((rd_T108 l0_3 x111_4).f0), .string ((rd_T108 l0_3 x111_4).f1), .string ((rd_T108 l0_3 x111_4).f2), .string ((rd_T108 l0_3 x111_4).f3)] 108 (0, 0)) m28_) : gb284 ≠ gb294)); have n10_ := Aside0.mk ((by rw [hg]; exact Nat.ne_of_gt (blk_lt (g := gb284) (o := .cells #[.string ((rd_T108 l0_3 x111_4).f0), .string ((rd_T108 l0_3 x111_4).f1), .string ((rd_T108 l0_3 x111_4).f2), .string ((rd_T108 l0_3 x111_4).f3)] 108 (0, 0)) m28_) : gb294 ≠ gb284)); have n11_ := Aside0.mk ((by rw [hg]; exact Nat.ne_of_lt (blk_lt (g := gb289) (o := .cells #[.string t285, .int .i64 t286, .string t287] 86 (0, 0)) m69_) : gb289 ≠ gb294)); have n12_ := Aside0.mk ((by rw [hg]; exact Nat.ne_of_gt (blk_lt (g := gb289) (o := .cells #[.string t285, .int .i64 t286, .string t287] 86 (0, 0)) m69_) : gb294 ≠ gb289)); clear BK268; clear BK284; clear BK289; clear HB; have BK268 := n0_; have BK284 := n1_; have BK289 := n2_; have HB := n3_; have BK294 := n4_; have GW294 := n5_; have GE294 := n6_; have NB268_294 := n7_; have NB294_268 := n8_; have NB284_294 := n9_; have NB294_284 := n10_; have NB289_294 := n11_; have NB294_289 := n12_; clear n0_ n1_ n2_ n3_ n4_ n5_ n6_ n7_ n8_ n9_ n10_ n11_ n12_; clear hb hbox hg; have hnb100 := NB294_268.out; have hnc100 := NB268_294.out; have hnb101 := NB294_284.out; have hnc101 := NB284_294.out; have hnb102 := NB294_289.out; have hnc102 := NB289_294.out; obtain ⟨hcz103_0, hcz103_1, hcz103_2⟩ := cz3_ BK294.out; obtain ⟨hfz103_0, hfz103_1, hfz103_2⟩ := fz3_ BK294.out)); go_upto_region 20 with (first | ((with_reducible refine gate_dst (N := 8) rfl ?_); (try (refine gate_guard (by rfl) ?_; dsimp only)); refine box_event ?hg (N := 8) ?hd (cs := #[.string (⟨#[]⟩ : ByteArray), .string (⟨#[]⟩ : ByteArray), .string (⟨#[]⟩ : ByteArray), .string (⟨#[]⟩ : ByteArray)]) (t := 108) ?hr ?_; (case hd => rfl); (case hg => rfl); (case hr => first | (go_simp; done) | (go_simp; rfl)); intro gb284 hg w87 hbox hb; have n0_ := Aside0.mk (blk_below (g := gb268) (o := .cells #[.slice A0_0 l0_0.length c0_0, .slice A0_1 l0_1.length c0_1, .slice A0_2 l0_2.length c0_2, .slice (some ad283) l0_3.length c0_3] 34 (0, 0)) m5_ hb); have n1_ := Aside0.mk (below_step m1_ hb); have n2_ := Aside0.mk (hbox); have n3_ := Aside0.mk ((by rw [hg]; exact (below_size m1_) : w.heap.size ≤ gb284)); have n4_ := Aside0.mk ((by rw [hg]; exact (below_size m1_) : w.heap.size ≤ gb284)); have n5_ := Aside0.mk ((by rw [hg]; exact Nat.ne_of_lt (blk_lt (g := gb268) (o := .cells #[.slice A0_0 l0_0.length c0_0, .slice A0_1 l0_1.length c0_1, .slice A0_2 l0_2.length c0_2, .slice (some ad283) l0_3.length c0_3] 34 (0, 0)) m5_) : gb268 ≠ gb284)); have n6_ := Aside0.mk ((by rw [hg]; exact Nat.ne_of_gt (blk_lt (g := gb268) (o := .cells #[.slice A0_0 l0_0.length c0_0, .slice A0_1 l0_1.length c0_1, .slice A0_2 l0_2.length c0_2, .slice (some ad283) l0_3.length c0_3] 34 (0, 0)) m5_) : gb284 ≠ gb268)); clear BK268; clear HB; have BK268 := n0_; have HB := n1_; have BK284 := n2_; have GW284 := n3_; have GE284 := n4_; have NB268_284 := n5_; have NB284_268 := n6_; clear n0_ n1_ n2_ n3_ n4_ n5_ n6_; clear hb hbox hg; have hnb88 := NB284_268.out; have hnc88 := NB268_284.out; obtain ⟨hcz89_0, hcz89_1, hcz89_2, hcz89_3⟩ := cz4_ BK284.out; obtain ⟨hfz89_0, hfz89_1, hfz89_2, hfz89_3⟩ := fz4_ BK284.out; obtain ⟨hcz90_0, hcz90_1, hcz90_2, hcz90_3⟩ := cz4_ BK268.out; obtain ⟨hfz90_0, hfz90_1, hfz90_2, hfz90_3⟩ := fz4_ BK268.out) | (go_at_call 77; (with_reducible refine (impl_Plant_place.calls k4 _ _ l0_0 _ _ l0_1 _ _ l0_2 _ _ l0_3 ((rd_T108 l0_3 x111_4).f1) t285 t286 t287 t288 _ ?side1 ?side2 ?side3 ?side4 ?side5 ?side6 ?side7 ?side8 A84.out).mono ?_); (case side1 => exact Kd.C_below HR0_0.out m11_); (case side2 => exact HC0_0.out); (case side3 => exact Kd.C_below HR0_1.out m11_); (case side4 => exact HC0_1.out); (case side5 => exact Kd.C_below HR0_2.out m11_); (case side6 => exact HC0_2.out); (case side7 => exact Kd.C_below HR0_3.out m11_); (case side8 => exact HC0_3.out); rintro e w91 ⟨rfl, hb⟩; have n0_ := Aside0.mk (blk_below (g := gb268) (o := .cells #[.slice A0_0 l0_0.length c0_0, .slice A0_1 l0_1.length c0_1, .slice A0_2 l0_2.length c0_2, .slice (some ad283) l0_3.length c0_3] 34 (0, 0)) m48_ hb); have n1_ := Aside0.mk (blk_below (g := gb284) (o := .cells #[.string ((rd_T108 l0_3 x111_4).f0), .string ((rd_T108 l0_3 x111_4).f1), .string ((rd_T108 l0_3 x111_4).f2), .string ((rd_T108 l0_3 x111_4).f3)] 108 (0, 0)) m26_ hb); have n2_ := Aside0.mk (below_step m11_ hb); clear BK268; clear BK284; clear HB; have BK268 := n0_; have BK284 := n1_; have HB := n2_; clear n0_ n1_ n2_; (try clear hb); (try clear hb2); (try clear hk); (try clear hi)) | ((with_reducible refine gate_dst (N := 9) rfl ?_); (try (refine gate_guard (by rfl) ?_; dsimp only)); refine box_event ?hg (N := 9) ?hd (cs := #[.string (⟨#[]⟩ : ByteArray), .int .i64 0, .string (⟨#[]⟩ : ByteArray)]) (t := 86) ?hr ?_; (case hd => rfl); (case hg => rfl); (case hr => first | (go_simp; done) | (go_simp; rfl)); intro gb289 hg w92 hbox hb; have n0_ := Aside0.mk (blk_below (g := gb268) (o := .cells #[.slice A0_0 l0_0.length c0_0, .slice A0_1 l0_1.length c0_1, .slice A0_2 l0_2.length c0_2, .slice (some ad283) l0_3.length c0_3] 34 (0, 0)) m5_ hb); have n1_ := Aside0.mk (blk_below (g := gb284) (o := .cells #[.string ((rd_T108 l0_3 x111_4).f0), .string ((rd_T108 l0_3 x111_4).f1), .string ((rd_T108 l0_3 x111_4).f2), .string ((rd_T108 l0_3 x111_4).f3)] 108 (0, 0)) m28_ hb); have n2_ := Aside0.mk (below_step m11_ hb); have n3_ := Aside0.mk (hbox); have n4_ := Aside0.mk ((by rw [hg]; exact (below_size m11_) : w.heap.size ≤ gb289)); have n5_ := Aside0.mk ((by rw [hg]; exact (below_size m11_) : w.heap.size ≤ gb289)); have n6_ := Aside0.mk ((by rw [hg]; exact Nat.ne_of_lt (blk_lt (g := gb268) (o := .cells #[.slice A0_0 l0_0.length c0_0, .slice A0_1 l0_1.length c0_1, .slice A0_2 l0_2.length c0_2, .slice (some ad283) l0_3.length c0_3] 34 (0, 0)) m5_) : gb268 ≠ gb289)); have n7_ := Aside0.mk ((by rw [hg]; exact Nat.ne_of_gt (blk_lt (g := gb268) (o := .cells #[.slice A0_0 l0_0.length c0_0, .slice A0_1 l0_1.length c0_1, .slice A0_2 l0_2.length c0_2, .slice (some ad283) l0_3.length c0_3] 34 (0, 0)) m5_) : gb289 ≠ gb268)); have n8_ := Aside0.mk ((by rw [hg]; exact Nat.ne_of_lt (blk_lt (g := gb284) (o := .cells #[.string ((rd_T108 l0_3 x111_4).f0), .string ((rd_T108 l0_3 x111_4).f1), .string ((rd_T108 l0_3 x111_4).f2), .string ((rd_T108 l0_3 x111_4).f3)] 108 (0, 0)) m28_) : gb284 ≠ gb289)); have n9_ := Aside0.mk ((by rw [hg]; exact Nat.ne_of_gt (blk_lt (g := gb284) (o := .cells #[.string ((rd_T108 l0_3 x111_4).f0), .string ((rd_T108 l0_3 x111_4).f1), .string ((rd_T108 l0_3 x111_4).f2), .string ((rd_T108 l0_3 x111_4).f3)] 108 (0, 0)) m28_) : gb289 ≠ gb284)); clear BK268; clear BK284; clear HB; have BK268 := n0_; have BK284 := n1_; have HB := n2_; have BK289 := n3_; have GW289 := n4_; have GE289 := n5_; have NB268_289 := n6_; have NB289_268 := n7_; have NB284_289 := n8_; have NB289_284 := n9_; clear n0_ n1_ n2_ n3_ n4_ n5_ n6_ n7_ n8_ n9_; clear hb hbox hg; have hnb93 := NB289_268.out; have hnc93 := NB268_289.out; have hnb94 := NB289_284.out; have hnc94 := NB284_289.out; obtain ⟨hcz95_0, hcz95_1, hcz95_2⟩ := cz3_ BK289.out; obtain ⟨hfz95_0, hfz95_1, hfz95_2⟩ := fz3_ BK289.out; obtain ⟨hcz96_0, hcz96_1, hcz96_2, hcz96_3⟩ := cz4_ BK268.out; obtain ⟨hfz96_0, hfz96_1, hfz96_2, hfz96_3⟩ := fz4_ BK268.out; obtain ⟨hcz97_0, hcz97_1, hcz97_2, hcz97_3⟩ := cz4_ BK284.out; obtain ⟨hfz97_0, hfz97_1, hfz97_2, hfz97_3⟩ := fz4_ BK284.out) | (go_at_call 77; (with_reducible refine (impl_Plant_place.calls k4 _ _ l0_0 _ _ l0_1 _ _ l0_2 _ _ l0_3 ((rd_T108 l0_3 x111_4).f2) t290 t291 t292 t293 _ ?side1 ?side2 ?side3 ?side4 ?side5 ?side6 ?side7 ?side8 A85.out).mono ?_); (case side1 => exact Kd.C_below HR0_0.out m10_); (case side2 => exact HC0_0.out); (case side3 => exact Kd.C_below HR0_1.out m10_); (case side4 => exact HC0_1.out); (case side5 => exact Kd.C_below HR0_2.out m10_); (case side6 => exact HC0_2.out); (case side7 => exact Kd.C_below HR0_3.out m10_); (case side8 => exact HC0_3.out); rintro e w98 ⟨rfl, hb⟩; have n0_ := Aside0.mk (blk_below (g := gb268) (o := .cells #[.slice A0_0 l0_0.length c0_0, .slice A0_1 l0_1.length c0_1, .slice A0_2 l0_2.length c0_2, .slice (some ad283) l0_3.length c0_3] 34 (0, 0)) m58_ hb); have n1_ := Aside0.mk (blk_below (g := gb284) (o := .cells #[.string ((rd_T108 l0_3 x111_4).f0), .string ((rd_T108 l0_3 x111_4).f1), .string ((rd_T108 l0_3 x111_4).f2), .string ((rd_T108 l0_3 x111_4).f3)] 108 (0, 0)) m59_ hb); have n2_ := Aside0.mk (blk_below (g := gb289) (o := .cells #[.string t285, .int .i64 t286, .string t287] 86 (0, 0)) m38_ hb); have n3_ := Aside0.mk (below_step m10_ hb); clear BK268; clear BK284; clear BK289; clear HB; have BK268 := n0_; have BK284 := n1_; have BK289 := n2_; have HB := n3_; clear n0_ n1_ n2_ n3_; (try clear hb); (try clear hb2); (try clear hk); (try clear hi)) | ((with_reducible refine gate_dst (N := 11) rfl ?_); (try (refine gate_guard (by rfl) ?_; dsimp only)); refine box_event ?hg (N := 11) ?hd (cs := #[.string (⟨#[]⟩ : ByteArray), .int .i64 0, .string (⟨#[]⟩ : ByteArray)]) (t := 86) ?hr ?_; (case hd => rfl); (case hg => rfl); (case hr => first | (go_simp; done) | (go_simp; rfl)); intro gb294 hg w99 hbox hb; have n0_ := Aside0.mk (blk_below (g := gb268) (o := .cells #[.slice A0_0 l0_0.length c0_0, .slice A0_1 l0_1.length c0_1, .slice A0_2 l0_2.length c0_2, .slice (some ad283) l0_3.length c0_3] 34 (0, 0)) m5_ hb); have n1_ := Aside0.mk (blk_below (g := gb284) (o := .cells #[.string ((rd_T108 l0_3 x111_4).f0), .string ((rd_T108 l0_3 x111_4).f1), .string ((rd_T108 l0_3 x111_4).f2), .string ((rd_T108 l0_3 x111_4).f3)] 108 (0, 0)) m28_ hb); have n2_ := Aside0.mk (blk_below (g := gb289) (o := .cells #[.string t285, .int .i64 t286, .string t287] 86 (0, 0)) m69_ hb); have n3_ := Aside0.mk (below_step m10_ hb); have n4_ := Aside0.mk (hbox); have n5_ := Aside0.mk ((by rw [hg]; exact (below_size m10_) : w.heap.size ≤ gb294)); have n6_ := Aside0.mk ((by rw [hg]; exact (below_size m10_) : w.heap.size ≤ gb294)); have n7_ := Aside0.mk ((by rw [hg]; exact Nat.ne_of_lt (blk_lt (g := gb268) (o := .cells #[.slice A0_0 l0_0.length c0_0, .slice A0_1 l0_1.length c0_1, .slice A0_2 l0_2.length c0_2, .slice (some ad283) l0_3.length c0_3] 34 (0, 0)) m5_) : gb268 ≠ gb294)); have n8_ := Aside0.mk ((by rw [hg]; exact Nat.ne_of_gt (blk_lt (g := gb268) (o := .cells #[.slice A0_0 l0_0.length c0_0, .slice A0_1 l0_1.length c0_1, .slice A0_2 l0_2.length c0_2, .slice (some ad283) l0_3.length c0_3] 34 (0, 0)) m5_) : gb294 ≠ gb268)); have n9_ := Aside0.mk ((by rw [hg]; exact Nat.ne_of_lt (blk_lt (g := gb284) (o := .cells #[.string ((rd_T108 l0_3 x111_4).f0), .string ((rd_T108 l0_3 x111_4).f1), .string ((rd_T108 l0_3 x111_4).f2), .string ((rd_T108 l0_3 x111_4).f3)] 108 (0, 0)) m28_) : gb284 ≠ gb294)); have n10_ := Aside0.mk ((by rw [hg]; exact Nat.ne_of_gt (blk_lt (g := gb284) (o := .cells #[.string ((rd_T108 l0_3 x111_4).f0), .string ((rd_T108 l0_3 x111_4).f1), .string ((rd_T108 l0_3 x111_4).f2), .string ((rd_T108 l0_3 x111_4).f3)] 108 (0, 0)) m28_) : gb294 ≠ gb284)); have n11_ := Aside0.mk ((by rw [hg]; exact Nat.ne_of_lt (blk_lt (g := gb289) (o := .cells #[.string t285, .int .i64 t286, .string t287] 86 (0, 0)) m69_) : gb289 ≠ gb294)); have n12_ := Aside0.mk ((by rw [hg]; exact Nat.ne_of_gt (blk_lt (g := gb289) (o := .cells #[.string t285, .int .i64 t286, .string t287] 86 (0, 0)) m69_) : gb294 ≠ gb289)); clear BK268; clear BK284; clear BK289; clear HB; have BK268 := n0_; have BK284 := n1_; have BK289 := n2_; have HB := n3_; have BK294 := n4_; have GW294 := n5_; have GE294 := n6_; have NB268_294 := n7_; have NB294_268 := n8_; have NB284_294 := n9_; have NB294_284 := n10_; have NB289_294 := n11_; have NB294_289 := n12_; clear n0_ n1_ n2_ n3_ n4_ n5_ n6_ n7_ n8_ n9_ n10_ n11_ n12_; clear hb hbox hg; have hnb100 := NB294_268.out; have hnc100 := NB268_294.out; have hnb101 := NB294_284.out; have hnc101 := NB284_294.out; have hnb102 := NB294_289.out; have hnc102 := NB289_294.out; obtain ⟨hcz103_0, hcz103_1, hcz103_2⟩ := cz3_ BK294.out; obtain ⟨hfz103_0, hfz103_1, hfz103_2⟩ := fz3_ BK294.out)))
               (try simp only [Act.put, List.setIfInBounds_toArray, List.set_cons_zero, List.set_cons_succ])
               go_cut [170] (fun v170 wc => ∃ (kq : Nat) (x170_85 : Bool), v170 = .bool x170_85 ∧ Aside0 (impl_PlantValid.j5 kq l0_3 (l0_3.length : Int) x111_4 x170_85 l0_0 l0_1 l0_2 l0_3 = some r) ∧ Aside0 (kq ≤ k4) ∧ Aside0 (wc.heap[gb268]? = some (.cells #[(.slice A0_0 l0_0.length c0_0), (.slice A0_1 l0_1.length c0_1), (.slice A0_2 l0_2.length c0_2), (.slice (some ad283) l0_3.length c0_3)] 34 (0, 0))) ∧ Aside0 (wc.heap[gb284]? = some (.cells #[.string ((rd_T108 l0_3 x111_4).f0), .string ((rd_T108 l0_3 x111_4).f1), .string ((rd_T108 l0_3 x111_4).f2), .string ((rd_T108 l0_3 x111_4).f3)] 108 (0, 0))) ∧ Aside0 (wc.heap[gb289]? = some (.cells #[.string t285, .int .i64 t286, .string t287] 86 (0, 0))) ∧ Aside0 (wc.heap[gb294]? = some (.cells #[.string t290, .int .i64 t291, .string t292] 86 (0, 0))) ∧ Aside0 (Below w.heap.size w wc))
               case first =>
                have H := HC86.out
                clear HC86
                replace H := Option.bind_eq_some_iff.mp H
                obtain ⟨t295, A1040, H⟩ := H
                replace H : (if t295 = true then (if t288 = true then (if t293 = true then (if ((Op.bytesLess (((rd_T108 l0_3 x111_4).f1).toList) (((rd_T108 l0_3 x111_4).f2).toList)) = true) then ((impl_isName.f k4 ((rd_T108 l0_3 x111_4).f3)).bind fun t296 => (if t296 = true then (if x111_4 > 0 then (if 0 ≤ (wrap64 (x111_4 - 1)) then (if (wrap64 (x111_4 - 1)) < (l0_3.length : Int) then (impl_PlantValid.j5 k4 l0_3 (l0_3.length : Int) x111_4 (!(Op.bytesLess (((rd_T108 l0_3 (wrap64 (x111_4 - 1))).f0).toList) (((rd_T108 l0_3 x111_4).f0).toList))) l0_0 l0_1 l0_2 l0_3) else (none)) else (none)) else (impl_PlantValid.j5 k4 l0_3 (l0_3.length : Int) x111_4 false l0_0 l0_1 l0_2 l0_3)) else (impl_PlantValid.j5 k4 l0_3 (l0_3.length : Int) x111_4 true l0_0 l0_1 l0_2 l0_3))) else (impl_PlantValid.j5 k4 l0_3 (l0_3.length : Int) x111_4 true l0_0 l0_1 l0_2 l0_3)) else (impl_PlantValid.j5 k4 l0_3 (l0_3.length : Int) x111_4 true l0_0 l0_1 l0_2 l0_3)) else (impl_PlantValid.j5 k4 l0_3 (l0_3.length : Int) x111_4 true l0_0 l0_1 l0_2 l0_3)) else (impl_PlantValid.j5 k4 l0_3 (l0_3.length : Int) x111_4 true l0_0 l0_1 l0_2 l0_3)) = some r := H
                have A104 := Aside0.mk A1040
                clear A1040
                refine (Classical.em (t295 = true)).elim (fun c105 => ?yes26) (fun c105 => ?no26)
                case' yes26 =>
                 subst c105
                 have H1 : (if t288 = true then (if t293 = true then (if ((Op.bytesLess (((rd_T108 l0_3 x111_4).f1).toList) (((rd_T108 l0_3 x111_4).f2).toList)) = true) then ((impl_isName.f k4 ((rd_T108 l0_3 x111_4).f3)).bind fun t296 => (if t296 = true then (if x111_4 > 0 then (if 0 ≤ (wrap64 (x111_4 - 1)) then (if (wrap64 (x111_4 - 1)) < (l0_3.length : Int) then (impl_PlantValid.j5 k4 l0_3 (l0_3.length : Int) x111_4 (!(Op.bytesLess (((rd_T108 l0_3 (wrap64 (x111_4 - 1))).f0).toList) (((rd_T108 l0_3 x111_4).f0).toList))) l0_0 l0_1 l0_2 l0_3) else (none)) else (none)) else (impl_PlantValid.j5 k4 l0_3 (l0_3.length : Int) x111_4 false l0_0 l0_1 l0_2 l0_3)) else (impl_PlantValid.j5 k4 l0_3 (l0_3.length : Int) x111_4 true l0_0 l0_1 l0_2 l0_3))) else (impl_PlantValid.j5 k4 l0_3 (l0_3.length : Int) x111_4 true l0_0 l0_1 l0_2 l0_3)) else (impl_PlantValid.j5 k4 l0_3 (l0_3.length : Int) x111_4 true l0_0 l0_1 l0_2 l0_3)) else (impl_PlantValid.j5 k4 l0_3 (l0_3.length : Int) x111_4 true l0_0 l0_1 l0_2 l0_3)) = some r := by rw [if_pos rfl] at H; exact H
                 clear H
                 have H := H1
                 clear H1
                 refine (Classical.em (t288 = true)).elim (fun c106 => ?yes27) (fun c106 => ?no27)
                 case' yes27 =>
                  subst c106
                  have H1 : (if t293 = true then (if ((Op.bytesLess (((rd_T108 l0_3 x111_4).f1).toList) (((rd_T108 l0_3 x111_4).f2).toList)) = true) then ((impl_isName.f k4 ((rd_T108 l0_3 x111_4).f3)).bind fun t296 => (if t296 = true then (if x111_4 > 0 then (if 0 ≤ (wrap64 (x111_4 - 1)) then (if (wrap64 (x111_4 - 1)) < (l0_3.length : Int) then (impl_PlantValid.j5 k4 l0_3 (l0_3.length : Int) x111_4 (!(Op.bytesLess (((rd_T108 l0_3 (wrap64 (x111_4 - 1))).f0).toList) (((rd_T108 l0_3 x111_4).f0).toList))) l0_0 l0_1 l0_2 l0_3) else (none)) else (none)) else (impl_PlantValid.j5 k4 l0_3 (l0_3.length : Int) x111_4 false l0_0 l0_1 l0_2 l0_3)) else (impl_PlantValid.j5 k4 l0_3 (l0_3.length : Int) x111_4 true l0_0 l0_1 l0_2 l0_3))) else (impl_PlantValid.j5 k4 l0_3 (l0_3.length : Int) x111_4 true l0_0 l0_1 l0_2 l0_3)) else (impl_PlantValid.j5 k4 l0_3 (l0_3.length : Int) x111_4 true l0_0 l0_1 l0_2 l0_3)) = some r := by rw [if_pos rfl] at H; exact H
                  clear H
                  have H := H1
                  clear H1
                  refine (Classical.em (t293 = true)).elim (fun c107 => ?yes28) (fun c107 => ?no28)
                  case' yes28 =>
                   subst c107
                   have H1 : (if ((Op.bytesLess (((rd_T108 l0_3 x111_4).f1).toList) (((rd_T108 l0_3 x111_4).f2).toList)) = true) then ((impl_isName.f k4 ((rd_T108 l0_3 x111_4).f3)).bind fun t296 => (if t296 = true then (if x111_4 > 0 then (if 0 ≤ (wrap64 (x111_4 - 1)) then (if (wrap64 (x111_4 - 1)) < (l0_3.length : Int) then (impl_PlantValid.j5 k4 l0_3 (l0_3.length : Int) x111_4 (!(Op.bytesLess (((rd_T108 l0_3 (wrap64 (x111_4 - 1))).f0).toList) (((rd_T108 l0_3 x111_4).f0).toList))) l0_0 l0_1 l0_2 l0_3) else (none)) else (none)) else (impl_PlantValid.j5 k4 l0_3 (l0_3.length : Int) x111_4 false l0_0 l0_1 l0_2 l0_3)) else (impl_PlantValid.j5 k4 l0_3 (l0_3.length : Int) x111_4 true l0_0 l0_1 l0_2 l0_3))) else (impl_PlantValid.j5 k4 l0_3 (l0_3.length : Int) x111_4 true l0_0 l0_1 l0_2 l0_3)) = some r := by rw [if_pos rfl] at H; exact H
                   clear H
                   have H := H1
                   clear H1
                   refine (Classical.em (((Op.bytesLess (((rd_T108 l0_3 x111_4).f1).toList) (((rd_T108 l0_3 x111_4).f2).toList)) = true))).elim (fun c108 => ?yes29) (fun c108 => ?no29)
                   case' yes29 =>
                    rw [if_pos c108] at H
                    have c108b0 : (Op.bytesLess (((rd_T108 l0_3 x111_4).f1).toList) (((rd_T108 l0_3 x111_4).f2).toList)) = true := c108
                    clear c108
                    (first | rw [c108b0] | (simp only [i64_w, i32_w]; rw [c108b0]) | skip)
                    replace H := Option.bind_eq_some_iff.mp H
                    obtain ⟨t296, A1090, H⟩ := H
                    replace H : (if t296 = true then (if x111_4 > 0 then (if 0 ≤ (wrap64 (x111_4 - 1)) then (if (wrap64 (x111_4 - 1)) < (l0_3.length : Int) then (impl_PlantValid.j5 k4 l0_3 (l0_3.length : Int) x111_4 (!(Op.bytesLess (((rd_T108 l0_3 (wrap64 (x111_4 - 1))).f0).toList) (((rd_T108 l0_3 x111_4).f0).toList))) l0_0 l0_1 l0_2 l0_3) else (none)) else (none)) else (impl_PlantValid.j5 k4 l0_3 (l0_3.length : Int) x111_4 false l0_0 l0_1 l0_2 l0_3)) else (impl_PlantValid.j5 k4 l0_3 (l0_3.length : Int) x111_4 true l0_0 l0_1 l0_2 l0_3)) = some r := H
                    have A109 := Aside0.mk A1090
                    clear A1090
                    refine (Classical.em (t296 = true)).elim (fun c110 => ?yes30) (fun c110 => ?no30)
                    case' yes30 =>
                     subst c110
                     have H1 : (if x111_4 > 0 then (if 0 ≤ (wrap64 (x111_4 - 1)) then (if (wrap64 (x111_4 - 1)) < (l0_3.length : Int) then (impl_PlantValid.j5 k4 l0_3 (l0_3.length : Int) x111_4 (!(Op.bytesLess (((rd_T108 l0_3 (wrap64 (x111_4 - 1))).f0).toList) (((rd_T108 l0_3 x111_4).f0).toList))) l0_0 l0_1 l0_2 l0_3) else (none)) else (none)) else (impl_PlantValid.j5 k4 l0_3 (l0_3.length : Int) x111_4 false l0_0 l0_1 l0_2 l0_3)) = some r := by rw [if_pos rfl] at H; exact H
                     clear H
                     have H := H1
                     clear H1
                     refine (Classical.em (x111_4 > 0)).elim (fun c111 => ?yes31) (fun c111 => ?no31)
                     case' yes31 =>
                      rw [if_pos c111] at H
                      have c111b0 : decide (0 < x111_4) = true := decide_eq_true c111
                      clear c111
                      obtain ⟨ji112, hji112⟩ : ∃ j_ : Int, (wrap64 (x111_4 - 1)) = j_ := ⟨_, rfl⟩
                      replace H : (if 0 ≤ (ji112) then (if (ji112) < (l0_3.length : Int) then (impl_PlantValid.j5 k4 l0_3 (l0_3.length : Int) x111_4 (!(Op.bytesLess (((rd_T108 l0_3 (ji112)).f0).toList) (((rd_T108 l0_3 x111_4).f0).toList))) l0_0 l0_1 l0_2 l0_3) else (none)) else (none)) = some r := by first | (rw [hji112] at H; exact H) | (simp only [hji112] at H ⊢; exact H)
                      (try rw [hji112] at A104)
                      (try rw [hji112] at A109)
                      have hji112w : (IntKind.i64.wrap (x111_4 - 1)) = ji112 := (i64_w _).trans hji112
                      refine (Classical.em (0 ≤ (ji112))).elim (fun c113 => ?yes32) (fun c113 => ?no32)
                      case' yes32 =>
                       rw [if_pos c113] at H
                       have c113b0 : decide (0 ≤ (ji112)) = true := decide_eq_true c113
                       clear c113
                       refine (Classical.em ((ji112) < (l0_3.length : Int))).elim (fun c114 => ?yes33) (fun c114 => ?no33)
                       case' yes33 =>
                        rw [if_pos c114] at H
                        have c114b0 : decide ((ji112) < (l0_3.length : Int)) = true := decide_eq_true c114
                        clear c114
                        have H' := Aside0.mk H
                        clear H
                       case' no33 =>
                        rw [if_neg c114] at H
                        exact absurd H (by simp)
                      case' no32 =>
                       rw [if_neg c113] at H
                       exact absurd H (by simp)
                     case' no31 =>
                      rw [if_neg c111] at H
                      have c111b0 : decide (0 < x111_4) = false := decide_eq_false c111
                      clear c111
                      have H' := Aside0.mk H
                      clear H
                    case' no30 =>
                     replace c110 := Bool.eq_false_iff.mpr c110
                     subst c110
                     have H1 : (impl_PlantValid.j5 k4 l0_3 (l0_3.length : Int) x111_4 true l0_0 l0_1 l0_2 l0_3) = some r := by rw [if_neg (show ¬ (false = true) by decide)] at H; exact H
                     clear H
                     have H := H1
                     clear H1
                     have H' := Aside0.mk H
                     clear H
                   case' no29 =>
                    rw [if_neg c108] at H
                    have c108b0 : (Op.bytesLess (((rd_T108 l0_3 x111_4).f1).toList) (((rd_T108 l0_3 x111_4).f2).toList)) = false := by simpa using c108
                    clear c108
                    (first | rw [c108b0] | (simp only [i64_w, i32_w]; rw [c108b0]) | skip)
                    have H' := Aside0.mk H
                    clear H
                  case' no28 =>
                   replace c107 := Bool.eq_false_iff.mpr c107
                   subst c107
                   have H1 : (impl_PlantValid.j5 k4 l0_3 (l0_3.length : Int) x111_4 true l0_0 l0_1 l0_2 l0_3) = some r := by rw [if_neg (show ¬ (false = true) by decide)] at H; exact H
                   clear H
                   have H := H1
                   clear H1
                   have H' := Aside0.mk H
                   clear H
                 case' no27 =>
                  replace c106 := Bool.eq_false_iff.mpr c106
                  subst c106
                  have H1 : (impl_PlantValid.j5 k4 l0_3 (l0_3.length : Int) x111_4 true l0_0 l0_1 l0_2 l0_3) = some r := by rw [if_neg (show ¬ (false = true) by decide)] at H; exact H
                  clear H
                  have H := H1
                  clear H1
                  have H' := Aside0.mk H
                  clear H
                case' no26 =>
                 replace c105 := Bool.eq_false_iff.mpr c105
                 subst c105
                 have H1 : (impl_PlantValid.j5 k4 l0_3 (l0_3.length : Int) x111_4 true l0_0 l0_1 l0_2 l0_3) = some r := by rw [if_neg (show ¬ (false = true) by decide)] at H; exact H
                 clear H
                 have H := H1
                 clear H1
                 have H' := Aside0.mk H
                 clear H
                all_goals
                 first
                  | (
                   have hnb115 := NB284_268.out
                   have hnc115 := NB268_284.out
                   have hnb116 := NB284_289.out
                   have hnc116 := NB289_284.out
                   have hnb117 := NB284_294.out
                   have hnc117 := NB294_284.out
                   obtain ⟨hcz118_0, hcz118_1, hcz118_2, hcz118_3⟩ := cz4_ BK284.out
                   obtain ⟨hfz118_0, hfz118_1, hfz118_2, hfz118_3⟩ := fz4_ BK284.out
                   go_wp2_with (first | (go_at_call 76; (with_reducible refine (impl_isName.calls k4 ((rd_T108 l0_3 x111_4).f0) _ _ (Aside0.out (by assumption))).mono ?_); rintro e w' ⟨rfl, ⟨nd, rfl⟩⟩; (try exact m2_)) | (go_at_call 76; (with_reducible refine (impl_isName.calls k4 ((rd_T108 l0_3 x111_4).f3) _ _ (Aside0.out (by assumption))).mono ?_); rintro e w' ⟨rfl, ⟨nd, rfl⟩⟩; (try exact m2_); have hnb119 := NB268_289.out; have hnc119 := NB289_268.out; have hnb120 := NB268_294.out; have hnc120 := NB294_268.out; obtain ⟨hcz121_0, hcz121_1, hcz121_2, hcz121_3⟩ := cz4_ BK268.out; obtain ⟨hfz121_0, hfz121_1, hfz121_2, hfz121_3⟩ := fz4_ BK268.out; have p297 : 0 ≤ ((ji112) : Int) := of_decide_eq_true m4_; have q297 : (ji112) < (l0_3.length : Int) := of_decide_eq_true m4_; obtain ⟨ad297, e297, hx297_0, hx297_1, hx297_2, hx297_3⟩ := at_T108 HR0_3.out (ji112) p297 q297; obtain rfl : ad283 = ad297 := (by injection e297); have hn297_0 : ad283.block ≠ gb294 := Nat.ne_of_lt (Nat.lt_of_lt_of_le m79_ GW294.out); have hn297_1 : ad283.block ≠ gb294 := Nat.ne_of_lt (Nat.lt_of_lt_of_le m79_ GW294.out); have hn297_2 : ad283.block ≠ gb294 := Nat.ne_of_lt (Nat.lt_of_lt_of_le m79_ GW294.out); replace hx297_0 := (HB.out.cell (World.block_lt_of_cell? w _ hx297_0)).trans hx297_0; replace hx297_1 := (HB.out.cell (World.block_lt_of_cell? w _ hx297_1)).trans hx297_1; replace hx297_2 := (HB.out.cell (World.block_lt_of_cell? w _ hx297_2)).trans hx297_2; replace hx297_3 := (HB.out.cell (World.block_lt_of_cell? w _ hx297_3)).trans hx297_3; replace hx297_0 := (cell_far (p := ⟨gb294, 0, none⟩) m43_ (.string t290)).trans hx297_0; replace hx297_1 := (cell_far (p := ⟨gb294, 0, none⟩) m43_ (.string t290)).trans hx297_1; replace hx297_2 := (cell_far (p := ⟨gb294, 0, none⟩) m43_ (.string t290)).trans hx297_2; replace hx297_3 := (cell_far (p := ⟨gb294, 0, none⟩) m43_ (.string t290)).trans hx297_3; replace hx297_0 := (cell_far (p := ⟨gb294, 1, none⟩) m44_ (.int .i64 t291)).trans hx297_0; replace hx297_1 := (cell_far (p := ⟨gb294, 1, none⟩) m44_ (.int .i64 t291)).trans hx297_1; replace hx297_2 := (cell_far (p := ⟨gb294, 1, none⟩) m44_ (.int .i64 t291)).trans hx297_2; replace hx297_3 := (cell_far (p := ⟨gb294, 1, none⟩) m44_ (.int .i64 t291)).trans hx297_3; replace hx297_0 := (cell_far (p := ⟨gb294, 2, none⟩) m45_ (.string t292)).trans hx297_0; replace hx297_1 := (cell_far (p := ⟨gb294, 2, none⟩) m45_ (.string t292)).trans hx297_1; replace hx297_2 := (cell_far (p := ⟨gb294, 2, none⟩) m45_ (.string t292)).trans hx297_2; replace hx297_3 := (cell_far (p := ⟨gb294, 2, none⟩) m45_ (.string t292)).trans hx297_3; (try have hy297_0 := fun (n_ : Nat) => (show (((((w99.drewN n_).setCell ⟨gb294, 0, none⟩ (.string t290)).setCell ⟨gb294, 1, none⟩ (.int .i64 t291)).setCell ⟨gb294, 2, none⟩ (.string t292))).cell? _ = some _ from hx297_0)); (try have hy297_1 := fun (n_ : Nat) => (show (((((w99.drewN n_).setCell ⟨gb294, 0, none⟩ (.string t290)).setCell ⟨gb294, 1, none⟩ (.int .i64 t291)).setCell ⟨gb294, 2, none⟩ (.string t292))).cell? _ = some _ from hx297_1)); (try have hy297_2 := fun (n_ : Nat) => (show (((((w99.drewN n_).setCell ⟨gb294, 0, none⟩ (.string t290)).setCell ⟨gb294, 1, none⟩ (.int .i64 t291)).setCell ⟨gb294, 2, none⟩ (.string t292))).cell? _ = some _ from hx297_2)); (try have hy297_3 := fun (n_ : Nat) => (show (((((w99.drewN n_).setCell ⟨gb294, 0, none⟩ (.string t290)).setCell ⟨gb294, 1, none⟩ (.int .i64 t291)).setCell ⟨gb294, 2, none⟩ (.string t292))).cell? _ = some _ from hx297_3)); clear hn297_0; clear hn297_1; clear hn297_2; replace p297 := eq_true p297; replace q297 := eq_true q297))
                   repeat (go_quiet (first | (go_at_call 76; (with_reducible refine (impl_isName.calls k4 ((rd_T108 l0_3 x111_4).f0) _ _ (Aside0.out (by assumption))).mono ?_); rintro e w' ⟨rfl, ⟨nd, rfl⟩⟩; (try exact m2_)) | (go_at_call 76; (with_reducible refine (impl_isName.calls k4 ((rd_T108 l0_3 x111_4).f3) _ _ (Aside0.out (by assumption))).mono ?_); rintro e w' ⟨rfl, ⟨nd, rfl⟩⟩; (try exact m2_); have hnb119 := NB268_289.out; have hnc119 := NB289_268.out; have hnb120 := NB268_294.out; have hnc120 := NB294_268.out; obtain ⟨hcz121_0, hcz121_1, hcz121_2, hcz121_3⟩ := cz4_ BK268.out; obtain ⟨hfz121_0, hfz121_1, hfz121_2, hfz121_3⟩ := fz4_ BK268.out; have p297 : 0 ≤ ((ji112) : Int) := of_decide_eq_true m4_; have q297 : (ji112) < (l0_3.length : Int) := of_decide_eq_true m4_; obtain ⟨ad297, e297, hx297_0, hx297_1, hx297_2, hx297_3⟩ := at_T108 HR0_3.out (ji112) p297 q297; obtain rfl : ad283 = ad297 := (by injection e297); have hn297_0 : ad283.block ≠ gb294 := Nat.ne_of_lt (Nat.lt_of_lt_of_le m79_ GW294.out); have hn297_1 : ad283.block ≠ gb294 := Nat.ne_of_lt (Nat.lt_of_lt_of_le m79_ GW294.out); have hn297_2 : ad283.block ≠ gb294 := Nat.ne_of_lt (Nat.lt_of_lt_of_le m79_ GW294.out); replace hx297_0 := (HB.out.cell (World.block_lt_of_cell? w _ hx297_0)).trans hx297_0; replace hx297_1 := (HB.out.cell (World.block_lt_of_cell? w _ hx297_1)).trans hx297_1; replace hx297_2 := (HB.out.cell (World.block_lt_of_cell? w _ hx297_2)).trans hx297_2; replace hx297_3 := (HB.out.cell (World.block_lt_of_cell? w _ hx297_3)).trans hx297_3; replace hx297_0 := (cell_far (p := ⟨gb294, 0, none⟩) m43_ (.string t290)).trans hx297_0; replace hx297_1 := (cell_far (p := ⟨gb294, 0, none⟩) m43_ (.string t290)).trans hx297_1; replace hx297_2 := (cell_far (p := ⟨gb294, 0, none⟩) m43_ (.string t290)).trans hx297_2; replace hx297_3 := (cell_far (p := ⟨gb294, 0, none⟩) m43_ (.string t290)).trans hx297_3; replace hx297_0 := (cell_far (p := ⟨gb294, 1, none⟩) m44_ (.int .i64 t291)).trans hx297_0; replace hx297_1 := (cell_far (p := ⟨gb294, 1, none⟩) m44_ (.int .i64 t291)).trans hx297_1; replace hx297_2 := (cell_far (p := ⟨gb294, 1, none⟩) m44_ (.int .i64 t291)).trans hx297_2; replace hx297_3 := (cell_far (p := ⟨gb294, 1, none⟩) m44_ (.int .i64 t291)).trans hx297_3; replace hx297_0 := (cell_far (p := ⟨gb294, 2, none⟩) m45_ (.string t292)).trans hx297_0; replace hx297_1 := (cell_far (p := ⟨gb294, 2, none⟩) m45_ (.string t292)).trans hx297_1; replace hx297_2 := (cell_far (p := ⟨gb294, 2, none⟩) m45_ (.string t292)).trans hx297_2; replace hx297_3 := (cell_far (p := ⟨gb294, 2, none⟩) m45_ (.string t292)).trans hx297_3; (try have hy297_0 := fun (n_ : Nat) => (show (((((w99.drewN n_).setCell ⟨gb294, 0, none⟩ (.string t290)).setCell ⟨gb294, 1, none⟩ (.int .i64 t291)).setCell ⟨gb294, 2, none⟩ (.string t292))).cell? _ = some _ from hx297_0)); (try have hy297_1 := fun (n_ : Nat) => (show (((((w99.drewN n_).setCell ⟨gb294, 0, none⟩ (.string t290)).setCell ⟨gb294, 1, none⟩ (.int .i64 t291)).setCell ⟨gb294, 2, none⟩ (.string t292))).cell? _ = some _ from hx297_1)); (try have hy297_2 := fun (n_ : Nat) => (show (((((w99.drewN n_).setCell ⟨gb294, 0, none⟩ (.string t290)).setCell ⟨gb294, 1, none⟩ (.int .i64 t291)).setCell ⟨gb294, 2, none⟩ (.string t292))).cell? _ = some _ from hx297_2)); (try have hy297_3 := fun (n_ : Nat) => (show (((((w99.drewN n_).setCell ⟨gb294, 0, none⟩ (.string t290)).setCell ⟨gb294, 1, none⟩ (.int .i64 t291)).setCell ⟨gb294, 2, none⟩ (.string t292))).cell? _ = some _ from hx297_3)); clear hn297_0; clear hn297_1; clear hn297_2; replace p297 := eq_true p297; replace q297 := eq_true q297)); try go_wp2_with (first | (go_at_call 76; (with_reducible refine (impl_isName.calls k4 ((rd_T108 l0_3 x111_4).f0) _ _ (Aside0.out (by assumption))).mono ?_); rintro e w' ⟨rfl, ⟨nd, rfl⟩⟩; (try exact m2_)) | (go_at_call 76; (with_reducible refine (impl_isName.calls k4 ((rd_T108 l0_3 x111_4).f3) _ _ (Aside0.out (by assumption))).mono ?_); rintro e w' ⟨rfl, ⟨nd, rfl⟩⟩; (try exact m2_); have hnb119 := NB268_289.out; have hnc119 := NB289_268.out; have hnb120 := NB268_294.out; have hnc120 := NB294_268.out; obtain ⟨hcz121_0, hcz121_1, hcz121_2, hcz121_3⟩ := cz4_ BK268.out; obtain ⟨hfz121_0, hfz121_1, hfz121_2, hfz121_3⟩ := fz4_ BK268.out; have p297 : 0 ≤ ((ji112) : Int) := of_decide_eq_true m4_; have q297 : (ji112) < (l0_3.length : Int) := of_decide_eq_true m4_; obtain ⟨ad297, e297, hx297_0, hx297_1, hx297_2, hx297_3⟩ := at_T108 HR0_3.out (ji112) p297 q297; obtain rfl : ad283 = ad297 := (by injection e297); have hn297_0 : ad283.block ≠ gb294 := Nat.ne_of_lt (Nat.lt_of_lt_of_le m79_ GW294.out); have hn297_1 : ad283.block ≠ gb294 := Nat.ne_of_lt (Nat.lt_of_lt_of_le m79_ GW294.out); have hn297_2 : ad283.block ≠ gb294 := Nat.ne_of_lt (Nat.lt_of_lt_of_le m79_ GW294.out); replace hx297_0 := (HB.out.cell (World.block_lt_of_cell? w _ hx297_0)).trans hx297_0; replace hx297_1 := (HB.out.cell (World.block_lt_of_cell? w _ hx297_1)).trans hx297_1; replace hx297_2 := (HB.out.cell (World.block_lt_of_cell? w _ hx297_2)).trans hx297_2; replace hx297_3 := (HB.out.cell (World.block_lt_of_cell? w _ hx297_3)).trans hx297_3; replace hx297_0 := (cell_far (p := ⟨gb294, 0, none⟩) m43_ (.string t290)).trans hx297_0; replace hx297_1 := (cell_far (p := ⟨gb294, 0, none⟩) m43_ (.string t290)).trans hx297_1; replace hx297_2 := (cell_far (p := ⟨gb294, 0, none⟩) m43_ (.string t290)).trans hx297_2; replace hx297_3 := (cell_far (p := ⟨gb294, 0, none⟩) m43_ (.string t290)).trans hx297_3; replace hx297_0 := (cell_far (p := ⟨gb294, 1, none⟩) m44_ (.int .i64 t291)).trans hx297_0; replace hx297_1 := (cell_far (p := ⟨gb294, 1, none⟩) m44_ (.int .i64 t291)).trans hx297_1; replace hx297_2 := (cell_far (p := ⟨gb294, 1, none⟩) m44_ (.int .i64 t291)).trans hx297_2; replace hx297_3 := (cell_far (p := ⟨gb294, 1, none⟩) m44_ (.int .i64 t291)).trans hx297_3; replace hx297_0 := (cell_far (p := ⟨gb294, 2, none⟩) m45_ (.string t292)).trans hx297_0; replace hx297_1 := (cell_far (p := ⟨gb294, 2, none⟩) m45_ (.string t292)).trans hx297_1; replace hx297_2 := (cell_far (p := ⟨gb294, 2, none⟩) m45_ (.string t292)).trans hx297_2; replace hx297_3 := (cell_far (p := ⟨gb294, 2, none⟩) m45_ (.string t292)).trans hx297_3; (try have hy297_0 := fun (n_ : Nat) => (show (((((w99.drewN n_).setCell ⟨gb294, 0, none⟩ (.string t290)).setCell ⟨gb294, 1, none⟩ (.int .i64 t291)).setCell ⟨gb294, 2, none⟩ (.string t292))).cell? _ = some _ from hx297_0)); (try have hy297_1 := fun (n_ : Nat) => (show (((((w99.drewN n_).setCell ⟨gb294, 0, none⟩ (.string t290)).setCell ⟨gb294, 1, none⟩ (.int .i64 t291)).setCell ⟨gb294, 2, none⟩ (.string t292))).cell? _ = some _ from hx297_1)); (try have hy297_2 := fun (n_ : Nat) => (show (((((w99.drewN n_).setCell ⟨gb294, 0, none⟩ (.string t290)).setCell ⟨gb294, 1, none⟩ (.int .i64 t291)).setCell ⟨gb294, 2, none⟩ (.string t292))).cell? _ = some _ from hx297_2)); (try have hy297_3 := fun (n_ : Nat) => (show (((((w99.drewN n_).setCell ⟨gb294, 0, none⟩ (.string t290)).setCell ⟨gb294, 1, none⟩ (.int .i64 t291)).setCell ⟨gb294, 2, none⟩ (.string t292))).cell? _ = some _ from hx297_3)); clear hn297_0; clear hn297_1; clear hn297_2; replace p297 := eq_true p297; replace q297 := eq_true q297)))
                   go_meet
                   case rel => exact ⟨_, _, (by first | rfl | (simp; done) | (simp only [← hji112] <;> (first | rfl | simp)) | (simp [*]; done)), H', ⟨(by have := HJ1.out; have := HK2.out; have := HK3.out; have := HK4.out; first | omega | exact Nat.le_refl _)⟩, ⟨m60_⟩, ⟨m61_⟩, ⟨m62_⟩, ⟨m39_⟩, ⟨m63_⟩⟩)
                  | (
                   have hnb122 := NB284_268.out
                   have hnc122 := NB268_284.out
                   have hnb123 := NB284_289.out
                   have hnc123 := NB289_284.out
                   have hnb124 := NB284_294.out
                   have hnc124 := NB294_284.out
                   obtain ⟨hcz125_0, hcz125_1, hcz125_2, hcz125_3⟩ := cz4_ BK284.out
                   obtain ⟨hfz125_0, hfz125_1, hfz125_2, hfz125_3⟩ := fz4_ BK284.out
                   go_wp2_with (first | (go_at_call 76; (with_reducible refine (impl_isName.calls k4 ((rd_T108 l0_3 x111_4).f0) _ _ (Aside0.out (by assumption))).mono ?_); rintro e w' ⟨rfl, ⟨nd, rfl⟩⟩; (try exact m2_)) | (go_at_call 76; (with_reducible refine (impl_isName.calls k4 ((rd_T108 l0_3 x111_4).f3) _ _ (Aside0.out (by assumption))).mono ?_); rintro e w' ⟨rfl, ⟨nd, rfl⟩⟩; (try exact m2_)))
                   repeat (go_quiet (first | (go_at_call 76; (with_reducible refine (impl_isName.calls k4 ((rd_T108 l0_3 x111_4).f0) _ _ (Aside0.out (by assumption))).mono ?_); rintro e w' ⟨rfl, ⟨nd, rfl⟩⟩; (try exact m2_)) | (go_at_call 76; (with_reducible refine (impl_isName.calls k4 ((rd_T108 l0_3 x111_4).f3) _ _ (Aside0.out (by assumption))).mono ?_); rintro e w' ⟨rfl, ⟨nd, rfl⟩⟩; (try exact m2_))); try go_wp2_with (first | (go_at_call 76; (with_reducible refine (impl_isName.calls k4 ((rd_T108 l0_3 x111_4).f0) _ _ (Aside0.out (by assumption))).mono ?_); rintro e w' ⟨rfl, ⟨nd, rfl⟩⟩; (try exact m2_)) | (go_at_call 76; (with_reducible refine (impl_isName.calls k4 ((rd_T108 l0_3 x111_4).f3) _ _ (Aside0.out (by assumption))).mono ?_); rintro e w' ⟨rfl, ⟨nd, rfl⟩⟩; (try exact m2_))))
                   go_meet
                   case rel => exact ⟨_, _, m8_, H', ⟨(by have := HJ1.out; have := HK2.out; have := HK3.out; have := HK4.out; first | omega | exact Nat.le_refl _)⟩, ⟨m60_⟩, ⟨m61_⟩, ⟨m62_⟩, ⟨m39_⟩, ⟨m63_⟩⟩)
                  | (
                   have hnb130 := NB284_268.out
                   have hnc130 := NB268_284.out
                   have hnb131 := NB284_289.out
                   have hnc131 := NB289_284.out
                   have hnb132 := NB284_294.out
                   have hnc132 := NB294_284.out
                   obtain ⟨hcz133_0, hcz133_1, hcz133_2, hcz133_3⟩ := cz4_ BK284.out
                   obtain ⟨hfz133_0, hfz133_1, hfz133_2, hfz133_3⟩ := fz4_ BK284.out
                   go_wp2_with (first | (go_at_call 76; (with_reducible refine (impl_isName.calls k4 ((rd_T108 l0_3 x111_4).f0) _ _ (Aside0.out (by assumption))).mono ?_); rintro e w' ⟨rfl, ⟨nd, rfl⟩⟩; (try exact m2_)))
                   repeat (go_quiet (first | (go_at_call 76; (with_reducible refine (impl_isName.calls k4 ((rd_T108 l0_3 x111_4).f0) _ _ (Aside0.out (by assumption))).mono ?_); rintro e w' ⟨rfl, ⟨nd, rfl⟩⟩; (try exact m2_))); try go_wp2_with (first | (go_at_call 76; (with_reducible refine (impl_isName.calls k4 ((rd_T108 l0_3 x111_4).f0) _ _ (Aside0.out (by assumption))).mono ?_); rintro e w' ⟨rfl, ⟨nd, rfl⟩⟩; (try exact m2_))))
                   go_meet
                   case rel => exact ⟨_, _, m8_, H', ⟨(by have := HJ1.out; have := HK2.out; have := HK3.out; have := HK4.out; first | omega | exact Nat.le_refl _)⟩, ⟨m60_⟩, ⟨m61_⟩, ⟨m62_⟩, ⟨m39_⟩, ⟨m63_⟩⟩)
               case rest =>
                clear HC86
                try clear c1
                try clear c2
                try clear p2
                try clear q2
                try clear hx2
                try clear c3
                try clear c4
                try clear c4b0
                try clear c4b1
                try clear c5
                try clear c6
                try clear p6
                try clear c7
                try clear c8
                try clear c9
                try clear c10
                try clear c11
                try clear c11b0
                try clear c11b1
                try clear c12
                try clear c13
                try clear c14
                try clear c17
                try clear c27
                try clear p27
                try clear q27
                try clear hx27
                try clear p28
                try clear q28
                try clear hx28
                try clear c29
                try clear c29b0
                try clear p29
                try clear q29
                try clear hx29
                try clear c30
                try clear c30b0
                try clear c31
                try clear c31b0
                try clear c33
                try clear c35
                try clear c37
                try clear c41
                try clear c45
                try clear c49
                try clear c49b0
                try clear c50
                try clear c50b0
                try clear c51
                try clear c51b0
                try clear c54
                try clear c57
                try clear c58
                try clear c58b0
                try clear c59
                try clear c61
                try clear c61b0
                try clear c62
                try clear p64
                try clear c65
                try clear c66
                try clear c66b0
                try clear c68
                try clear c68b0
                try clear c69
                try clear c69b0
                try clear c70
                try clear c73
                try clear c75
                try clear c77
                try clear c79
                try clear c81
                try clear c81b0
                try clear c82
                try clear c82b0
                try clear c83
                try clear c83b0
                try clear c88
                try clear c93
                try clear c94
                try clear c100
                try clear c101
                try clear c102
                try clear c105
                try clear c106
                try clear c107
                try clear c108
                try clear c108b0
                try clear c110
                try clear c111
                try clear c111b0
                try clear c113
                try clear c113b0
                try clear c114
                try clear c114b0
                try clear c115
                try clear c116
                try clear c117
                try clear c119
                try clear c120
                try clear c122
                try clear c123
                try clear c124
                try clear c126
                try clear c127
                try clear c128
                try clear c130
                try clear c131
                try clear c132
                try clear c134
                try clear c135
                try clear c136
                try clear c138
                try clear c139
                try clear c140
                try clear c142
                try clear c143
                try clear c144
                try clear hcz103_0
                try clear hcz103_1
                try clear hcz103_2
                try clear hcz118_0
                try clear hcz118_1
                try clear hcz118_2
                try clear hcz118_3
                try clear hcz121_0
                try clear hcz121_1
                try clear hcz121_2
                try clear hcz121_3
                try clear hcz125_0
                try clear hcz125_1
                try clear hcz125_2
                try clear hcz125_3
                try clear hcz129_0
                try clear hcz129_1
                try clear hcz129_2
                try clear hcz129_3
                try clear hcz12_0
                try clear hcz12_1
                try clear hcz12_2
                try clear hcz12_3
                try clear hcz133_0
                try clear hcz133_1
                try clear hcz133_2
                try clear hcz133_3
                try clear hcz137_0
                try clear hcz137_1
                try clear hcz137_2
                try clear hcz137_3
                try clear hcz141_0
                try clear hcz141_1
                try clear hcz141_2
                try clear hcz141_3
                try clear hcz145_0
                try clear hcz145_1
                try clear hcz145_2
                try clear hcz145_3
                try clear hcz16_0
                try clear hcz16_1
                try clear hcz16_2
                try clear hcz16_3
                try clear hcz17_0
                try clear hcz17_1
                try clear hcz17_2
                try clear hcz17_3
                try clear hcz21_0
                try clear hcz21_1
                try clear hcz21_2
                try clear hcz21_3
                try clear hcz22_0
                try clear hcz22_1
                try clear hcz22_2
                try clear hcz22_3
                try clear hcz26_0
                try clear hcz26_1
                try clear hcz26_2
                try clear hcz26_3
                try clear hcz28_0
                try clear hcz28_1
                try clear hcz28_2
                try clear hcz28_3
                try clear hcz38_0
                try clear hcz38_1
                try clear hcz39_0
                try clear hcz39_1
                try clear hcz39_2
                try clear hcz39_3
                try clear hcz42_0
                try clear hcz42_1
                try clear hcz43_0
                try clear hcz43_1
                try clear hcz43_2
                try clear hcz43_3
                try clear hcz46_0
                try clear hcz46_1
                try clear hcz47_0
                try clear hcz47_1
                try clear hcz47_2
                try clear hcz47_3
                try clear hcz48_0
                try clear hcz48_1
                try clear hcz48_2
                try clear hcz48_3
                try clear hcz55_0
                try clear hcz55_1
                try clear hcz55_2
                try clear hcz5_0
                try clear hcz5_1
                try clear hcz5_2
                try clear hcz5_3
                try clear hcz60_0
                try clear hcz60_1
                try clear hcz60_2
                try clear hcz63_0
                try clear hcz63_1
                try clear hcz63_2
                try clear hcz71_0
                try clear hcz71_1
                try clear hcz71_2
                try clear hcz72_0
                try clear hcz72_1
                try clear hcz72_2
                try clear hcz72_3
                try clear hcz74_0
                try clear hcz74_1
                try clear hcz74_2
                try clear hcz76_0
                try clear hcz76_1
                try clear hcz76_2
                try clear hcz78_0
                try clear hcz78_1
                try clear hcz78_2
                try clear hcz80_0
                try clear hcz80_1
                try clear hcz80_2
                try clear hcz80_3
                try clear hcz89_0
                try clear hcz89_1
                try clear hcz89_2
                try clear hcz89_3
                try clear hcz90_0
                try clear hcz90_1
                try clear hcz90_2
                try clear hcz90_3
                try clear hcz95_0
                try clear hcz95_1
                try clear hcz95_2
                try clear hcz96_0
                try clear hcz96_1
                try clear hcz96_2
                try clear hcz96_3
                try clear hcz97_0
                try clear hcz97_1
                try clear hcz97_2
                try clear hcz97_3
                try clear hfz103_0
                try clear hfz103_1
                try clear hfz103_2
                try clear hfz118_0
                try clear hfz118_1
                try clear hfz118_2
                try clear hfz118_3
                try clear hfz121_0
                try clear hfz121_1
                try clear hfz121_2
                try clear hfz121_3
                try clear hfz125_0
                try clear hfz125_1
                try clear hfz125_2
                try clear hfz125_3
                try clear hfz129_0
                try clear hfz129_1
                try clear hfz129_2
                try clear hfz129_3
                try clear hfz12_0
                try clear hfz12_1
                try clear hfz12_2
                try clear hfz12_3
                try clear hfz133_0
                try clear hfz133_1
                try clear hfz133_2
                try clear hfz133_3
                try clear hfz137_0
                try clear hfz137_1
                try clear hfz137_2
                try clear hfz137_3
                try clear hfz141_0
                try clear hfz141_1
                try clear hfz141_2
                try clear hfz141_3
                try clear hfz145_0
                try clear hfz145_1
                try clear hfz145_2
                try clear hfz145_3
                try clear hfz16_0
                try clear hfz16_1
                try clear hfz16_2
                try clear hfz16_3
                try clear hfz17_0
                try clear hfz17_1
                try clear hfz17_2
                try clear hfz17_3
                try clear hfz21_0
                try clear hfz21_1
                try clear hfz21_2
                try clear hfz21_3
                try clear hfz22_0
                try clear hfz22_1
                try clear hfz22_2
                try clear hfz22_3
                try clear hfz26_0
                try clear hfz26_1
                try clear hfz26_2
                try clear hfz26_3
                try clear hfz28_0
                try clear hfz28_1
                try clear hfz28_2
                try clear hfz28_3
                try clear hfz38_0
                try clear hfz38_1
                try clear hfz39_0
                try clear hfz39_1
                try clear hfz39_2
                try clear hfz39_3
                try clear hfz42_0
                try clear hfz42_1
                try clear hfz43_0
                try clear hfz43_1
                try clear hfz43_2
                try clear hfz43_3
                try clear hfz46_0
                try clear hfz46_1
                try clear hfz47_0
                try clear hfz47_1
                try clear hfz47_2
                try clear hfz47_3
                try clear hfz48_0
                try clear hfz48_1
                try clear hfz48_2
                try clear hfz48_3
                try clear hfz55_0
                try clear hfz55_1
                try clear hfz55_2
                try clear hfz5_0
                try clear hfz5_1
                try clear hfz5_2
                try clear hfz5_3
                try clear hfz60_0
                try clear hfz60_1
                try clear hfz60_2
                try clear hfz63_0
                try clear hfz63_1
                try clear hfz63_2
                try clear hfz71_0
                try clear hfz71_1
                try clear hfz71_2
                try clear hfz72_0
                try clear hfz72_1
                try clear hfz72_2
                try clear hfz72_3
                try clear hfz74_0
                try clear hfz74_1
                try clear hfz74_2
                try clear hfz76_0
                try clear hfz76_1
                try clear hfz76_2
                try clear hfz78_0
                try clear hfz78_1
                try clear hfz78_2
                try clear hfz80_0
                try clear hfz80_1
                try clear hfz80_2
                try clear hfz80_3
                try clear hfz89_0
                try clear hfz89_1
                try clear hfz89_2
                try clear hfz89_3
                try clear hfz90_0
                try clear hfz90_1
                try clear hfz90_2
                try clear hfz90_3
                try clear hfz95_0
                try clear hfz95_1
                try clear hfz95_2
                try clear hfz96_0
                try clear hfz96_1
                try clear hfz96_2
                try clear hfz96_3
                try clear hfz97_0
                try clear hfz97_1
                try clear hfz97_2
                try clear hfz97_3
                try clear hx274_0
                try clear hx274_1
                try clear hx278_0
                try clear hx278_1
                try clear hx278_2
                try clear hx282_0
                try clear hx282_1
                try clear hx282_2
                try clear hx283_0
                try clear hx283_1
                try clear hx283_2
                try clear hx283_3
                try clear hx297_0
                try clear hx297_1
                try clear hx297_2
                try clear hx297_3
                try clear p2
                try clear p27
                try clear p274
                try clear p278
                try clear p28
                try clear p282
                try clear p283
                try clear p297
                try clear p6
                try clear p64
                try clear q2
                try clear q27
                try clear q274
                try clear q278
                try clear q28
                try clear q282
                try clear q283
                try clear q297
                obtain ⟨kq, x170_85, rfl, HA, HJ85, BK268, BK284, BK289, BK294, HB⟩ := hcut
                cases kq with
                | zero => exact absurd HA.out (by simp [impl_PlantValid.j5])
                | succ kj85 =>
                 have H := HA.out
                 clear HA
                 simp only [impl_PlantValid.j5] at H
                 by_cases c146 : x170_85 = true
                 ·subst c146
                  have H1 : (some false) = some r := by rw [if_pos rfl] at H; exact H
                  clear H
                  have H := H1
                  clear H1
                  obtain rfl := Option.some.inj H
                  go_wp2
                  repeat (go_quiet (fail); try go_wp2)
                  go_ret
                  exact ⟨m6_, m63_⟩
                 ·replace c146 := Bool.eq_false_iff.mpr c146
                  subst c146
                  have H1 : (impl_PlantValid.l2 kj85 l0_3 (l0_3.length : Int) (wrap64 (x111_4 + 1)) l0_0 l0_1 l0_2 l0_3) = some r := by rw [if_neg (show ¬ (false = true) by decide)] at H; exact H
                  clear H
                  have H := H1
                  clear H1
                  have H' := Aside0.mk H
                  clear H
                  go_wp2
                  repeat (go_quiet (fail); try go_wp2)
                  go_roundg kj85
                  case measure => have := HJ1.out; have := HK2.out; have := HK3.out; have := HK4.out; have := HJ85.out; omega
                  case rel => exact ⟨(wrap64 (x111_4 + 1)), m8_, H', ⟨(by have := HJ1.out; have := HK2.out; have := HK3.out; have := HK4.out; have := HJ85.out; omega)⟩, ⟨m5_⟩, ⟨m63_⟩⟩
              ·rw [if_neg c83] at H
               exact absurd H (by simp)
             ·rw [if_neg c82] at H
              exact absurd H (by simp)
            ·rw [if_neg c81] at H
             have c81b0 : decide (x111_4 < (l0_3.length : Int)) = false := decide_eq_false c81
             clear c81
             obtain rfl := Option.some.inj H
             go_wp2
             repeat (go_quiet (fail); try go_wp2)
             go_ret
             exact ⟨m6_, m1_⟩

end Go.Proofs.Ytpildfacenlceaa.QFnExactPlantFoes
