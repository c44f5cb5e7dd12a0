/- Laid by a program of this session: the texts of one law, joined, without what it does not come to. -/
import Derived.Test.YtpildfacenlceaaZFnExactPlantFoes4
namespace Go.Proofs.Ytpildfacenlceaa.QFnExactPlantFoes
open Go.RowKit Go.Proofs.YtpildfacenlceaaW.PrintWords Go.Proofs.YtpildfacenlceaaW.PrintLast Go.Proofs.YtpildfacenlceaaW.PrintMore
attribute [local go_sem] str_geq str_gtr str_leq max2_int min2_int max_two min_two max_three min_three max_four min_four   -- for this text's walks alone
set_option linter.unusedVariables false
set_option linter.unusedSimpArgs false
mutual
def spec_l2StuffsOk.j0 : Nat → Bool → List ByteArray → List (S105) → List (S86) → List (S108) → Option (Bool)
 | 0, _, _, _, _, _ => none
 | k + 1, x15, x197000, x197001, x197002, x197003 => if x15 = true then (some false) else (spec_l2StuffsOk.l0 k 0 x197000 x197001 x197002 x197003)
def spec_l2StuffsOk.l0 : Nat → Int → List ByteArray → List (S105) → List (S86) → List (S108) → Option (Bool)
 | 0, _, _, _, _, _ => none
 | k + 1, x3, x197000, x197001, x197002, x197003 => if x3 < (x197000.length : Int) then (if 0 ≤ x3 then ((spec_l2NameOk.f k (rdOf ByteArray.empty x197000 x3)).bind fun t198 => (if t198 = true then (if x3 > 0 then (if 0 ≤ (wrap64 (x3 - 1)) then (if (wrap64 (x3 - 1)) < (x197000.length : Int) then (spec_l2StuffsOk.j2 k x3 (!(Op.bytesLess ((rdOf ByteArray.empty x197000 (wrap64 (x3 - 1))).toList) ((rdOf ByteArray.empty x197000 x3).toList))) x197000 x197001 x197002 x197003) else (none)) else (none)) else (spec_l2StuffsOk.j2 k x3 false x197000 x197001 x197002 x197003)) else (spec_l2StuffsOk.j2 k x3 true x197000 x197001 x197002 x197003))) else (none)) else (spec_l2StuffsOk.l1 k 0 x197000 x197001 x197002 x197003)
def spec_l2StuffsOk.j2 : Nat → Int → Bool → List ByteArray → List (S105) → List (S86) → List (S108) → Option (Bool)
 | 0, _, _, _, _, _, _ => none
 | k + 1, x3, x47, x197000, x197001, x197002, x197003 => if x47 = true then (some false) else (spec_l2StuffsOk.l0 k (wrap64 (x3 + 1)) x197000 x197001 x197002 x197003)
def spec_l2StuffsOk.l1 : Nat → Int → List ByteArray → List (S105) → List (S86) → List (S108) → Option (Bool)
 | 0, _, _, _, _, _ => none
 | k + 1, x4, x197000, x197001, x197002, x197003 => if x4 < (x197001.length : Int) then (if 0 ≤ x4 then (if ((Op.bytesLess (((rd_T105 x197001 x4).f0).toList) (((rd_T105 x197001 x4).f1).toList)) = true) then ((spec_l2Has.f k x197000 ((rd_T105 x197001 x4).f0)).bind fun t203 => (if t203 = true then ((spec_l2Has.f k x197000 ((rd_T105 x197001 x4).f1)).bind fun t204 => (if t204 = true then (if x4 > 0 then (if 0 ≤ (wrap64 (x4 - 1)) then (if (wrap64 (x4 - 1)) < (x197001.length : Int) then ((spec_l2Before.f ((rd_T105 x197001 (wrap64 (x4 - 1))).f0) ((rd_T105 x197001 (wrap64 (x4 - 1))).f1) ((rd_T105 x197001 x4).f0) ((rd_T105 x197001 x4).f1)).bind fun t206 => (spec_l2StuffsOk.j4 k x4 (!t206) x197000 x197001 x197002 x197003)) else (none)) else (none)) else (spec_l2StuffsOk.j4 k x4 false x197000 x197001 x197002 x197003)) else (spec_l2StuffsOk.j4 k x4 true x197000 x197001 x197002 x197003))) else (spec_l2StuffsOk.j4 k x4 true x197000 x197001 x197002 x197003))) else (spec_l2StuffsOk.j4 k x4 true x197000 x197001 x197002 x197003)) else (none)) else (some true)
def spec_l2StuffsOk.j4 : Nat → Int → Bool → List ByteArray → List (S105) → List (S86) → List (S108) → Option (Bool)
 | 0, _, _, _, _, _, _ => none
 | k + 1, x4, x95, x197000, x197001, x197002, x197003 => if x95 = true then (some false) else (spec_l2StuffsOk.l1 k (wrap64 (x4 + 1)) x197000 x197001 x197002 x197003)
end
def spec_l2StuffsOk.f (k : Nat) (l0_0 : List ByteArray) (l0_1 : List (S105)) (l0_2 : List (S86)) (l0_3 : List (S108)) : Option (Bool) := if (l0_0.length : Int) > 8 then (spec_l2StuffsOk.j0 k true l0_0 l0_1 l0_2 l0_3) else (spec_l2StuffsOk.j0 k (decide ((l0_1.length : Int) > 12)) l0_0 l0_1 l0_2 l0_3)
theorem spec_l2StuffsOk.mono_l : ∀ k, (∀ y0 y1 y2 y3 y4, LeO (spec_l2StuffsOk.j0 k y0 y1 y2 y3 y4) (spec_l2StuffsOk.j0 (k + 1) y0 y1 y2 y3 y4)) ∧ (∀ y0 y1 y2 y3 y4, LeO (spec_l2StuffsOk.l0 k y0 y1 y2 y3 y4) (spec_l2StuffsOk.l0 (k + 1) y0 y1 y2 y3 y4)) ∧ (∀ y0 y1 y2 y3 y4 y5, LeO (spec_l2StuffsOk.j2 k y0 y1 y2 y3 y4 y5) (spec_l2StuffsOk.j2 (k + 1) y0 y1 y2 y3 y4 y5)) ∧ (∀ y0 y1 y2 y3 y4, LeO (spec_l2StuffsOk.l1 k y0 y1 y2 y3 y4) (spec_l2StuffsOk.l1 (k + 1) y0 y1 y2 y3 y4)) ∧ (∀ y0 y1 y2 y3 y4 y5, LeO (spec_l2StuffsOk.j4 k y0 y1 y2 y3 y4 y5) (spec_l2StuffsOk.j4 (k + 1) y0 y1 y2 y3 y4 y5))
 | 0 => ⟨fun _ _ _ _ _ r h => by simp [spec_l2StuffsOk.j0] at h, fun _ _ _ _ _ r h => by simp [spec_l2StuffsOk.l0] at h, fun _ _ _ _ _ _ r h => by simp [spec_l2StuffsOk.j2] at h, fun _ _ _ _ _ r h => by simp [spec_l2StuffsOk.l1] at h, fun _ _ _ _ _ _ r h => by simp [spec_l2StuffsOk.j4] at h⟩
 | k + 1 => by
  obtain ⟨ih0, ih1, ih2, ih3, ih4⟩ := spec_l2StuffsOk.mono_l k
  refine ⟨?_, ?_, ?_, ?_, ?_⟩
  ·intro y0 y1 y2 y3 y4
   unfold spec_l2StuffsOk.j0
   repeat' first
   | (with_reducible exact ih0 _ _ _ _ _)
   | (with_reducible exact ih1 _ _ _ _ _)
   | (with_reducible exact ih2 _ _ _ _ _ _)
   | (with_reducible exact ih3 _ _ _ _ _)
   | (with_reducible exact ih4 _ _ _ _ _ _)
   | (with_reducible exact spec_l2Has.mono _ _ _)
   | (with_reducible exact spec_l2NameOk.mono _ _)
   | (with_reducible exact LeO.refl _)
   | (with_reducible exact LeO.none _)
   | (with_reducible refine LeO.ite ?_ ?_)
   | (with_reducible refine LeO.bind ?_ (fun _ => ?_))
   | exact ih0 _ _ _ _ _
   | exact ih1 _ _ _ _ _
   | exact ih2 _ _ _ _ _ _
   | exact ih3 _ _ _ _ _
   | exact ih4 _ _ _ _ _ _
   | exact spec_l2Has.mono _ _ _
   | exact spec_l2NameOk.mono _ _
   | exact LeO.none _
   | refine LeO.ite ?_ ?_
   | refine LeO.bind ?_ (fun _ => ?_)
  ·intro y0 y1 y2 y3 y4
   unfold spec_l2StuffsOk.l0
   repeat' first
   | (with_reducible exact ih0 _ _ _ _ _)
   | (with_reducible exact ih1 _ _ _ _ _)
   | (with_reducible exact ih2 _ _ _ _ _ _)
   | (with_reducible exact ih3 _ _ _ _ _)
   | (with_reducible exact ih4 _ _ _ _ _ _)
   | (with_reducible exact spec_l2Has.mono _ _ _)
   | (with_reducible exact spec_l2NameOk.mono _ _)
   | (with_reducible exact LeO.refl _)
   | (with_reducible exact LeO.none _)
   | (with_reducible refine LeO.ite ?_ ?_)
   | (with_reducible refine LeO.bind ?_ (fun _ => ?_))
   | exact ih0 _ _ _ _ _
   | exact ih1 _ _ _ _ _
   | exact ih2 _ _ _ _ _ _
   | exact ih3 _ _ _ _ _
   | exact ih4 _ _ _ _ _ _
   | exact spec_l2Has.mono _ _ _
   | exact spec_l2NameOk.mono _ _
   | exact LeO.none _
   | refine LeO.ite ?_ ?_
   | refine LeO.bind ?_ (fun _ => ?_)
  ·intro y0 y1 y2 y3 y4 y5
   unfold spec_l2StuffsOk.j2
   repeat' first
   | (with_reducible exact ih0 _ _ _ _ _)
   | (with_reducible exact ih1 _ _ _ _ _)
   | (with_reducible exact ih2 _ _ _ _ _ _)
   | (with_reducible exact ih3 _ _ _ _ _)
   | (with_reducible exact ih4 _ _ _ _ _ _)
   | (with_reducible exact spec_l2Has.mono _ _ _)
   | (with_reducible exact spec_l2NameOk.mono _ _)
   | (with_reducible exact LeO.refl _)
   | (with_reducible exact LeO.none _)
   | (with_reducible refine LeO.ite ?_ ?_)
   | (with_reducible refine LeO.bind ?_ (fun _ => ?_))
   | exact ih0 _ _ _ _ _
   | exact ih1 _ _ _ _ _
   | exact ih2 _ _ _ _ _ _
   | exact ih3 _ _ _ _ _
   | exact ih4 _ _ _ _ _ _
   | exact spec_l2Has.mono _ _ _
   | exact spec_l2NameOk.mono _ _
   | exact LeO.none _
   | refine LeO.ite ?_ ?_
   | refine LeO.bind ?_ (fun _ => ?_)
  ·intro y0 y1 y2 y3 y4
   unfold spec_l2StuffsOk.l1
   repeat' first
   | (with_reducible exact ih0 _ _ _ _ _)
   | (with_reducible exact ih1 _ _ _ _ _)
   | (with_reducible exact ih2 _ _ _ _ _ _)
   | (with_reducible exact ih3 _ _ _ _ _)
   | (with_reducible exact ih4 _ _ _ _ _ _)
   | (with_reducible exact spec_l2Has.mono _ _ _)
   | (with_reducible exact spec_l2NameOk.mono _ _)
   | (with_reducible exact LeO.refl _)
   | (with_reducible exact LeO.none _)
   | (with_reducible refine LeO.ite ?_ ?_)
   | (with_reducible refine LeO.bind ?_ (fun _ => ?_))
   | exact ih0 _ _ _ _ _
   | exact ih1 _ _ _ _ _
   | exact ih2 _ _ _ _ _ _
   | exact ih3 _ _ _ _ _
   | exact ih4 _ _ _ _ _ _
   | exact spec_l2Has.mono _ _ _
   | exact spec_l2NameOk.mono _ _
   | exact LeO.none _
   | refine LeO.ite ?_ ?_
   | refine LeO.bind ?_ (fun _ => ?_)
  ·intro y0 y1 y2 y3 y4 y5
   unfold spec_l2StuffsOk.j4
   repeat' first
   | (with_reducible exact ih0 _ _ _ _ _)
   | (with_reducible exact ih1 _ _ _ _ _)
   | (with_reducible exact ih2 _ _ _ _ _ _)
   | (with_reducible exact ih3 _ _ _ _ _)
   | (with_reducible exact ih4 _ _ _ _ _ _)
   | (with_reducible exact spec_l2Has.mono _ _ _)
   | (with_reducible exact spec_l2NameOk.mono _ _)
   | (with_reducible exact LeO.refl _)
   | (with_reducible exact LeO.none _)
   | (with_reducible refine LeO.ite ?_ ?_)
   | (with_reducible refine LeO.bind ?_ (fun _ => ?_))
   | exact ih0 _ _ _ _ _
   | exact ih1 _ _ _ _ _
   | exact ih2 _ _ _ _ _ _
   | exact ih3 _ _ _ _ _
   | exact ih4 _ _ _ _ _ _
   | exact spec_l2Has.mono _ _ _
   | exact spec_l2NameOk.mono _ _
   | exact LeO.none _
   | refine LeO.ite ?_ ?_
   | refine LeO.bind ?_ (fun _ => ?_)
theorem spec_l2StuffsOk.mono : ∀ a0 a1 a2 a3 k, LeO (spec_l2StuffsOk.f k a0 a1 a2 a3) (spec_l2StuffsOk.f (k + 1) a0 a1 a2 a3) := by
 intro a0 a1 a2 a3 k
 obtain ⟨ih0, ih1, ih2, ih3, ih4⟩ := spec_l2StuffsOk.mono_l k
 unfold spec_l2StuffsOk.f
 repeat' first
   | (with_reducible exact ih0 _ _ _ _ _)
   | (with_reducible exact ih1 _ _ _ _ _)
   | (with_reducible exact ih2 _ _ _ _ _ _)
   | (with_reducible exact ih3 _ _ _ _ _)
   | (with_reducible exact ih4 _ _ _ _ _ _)
   | (with_reducible exact spec_l2Has.mono _ _ _)
   | (with_reducible exact spec_l2NameOk.mono _ _)
   | (with_reducible exact LeO.refl _)
   | (with_reducible exact LeO.none _)
   | (with_reducible refine LeO.ite ?_ ?_)
   | (with_reducible refine LeO.bind ?_ (fun _ => ?_))
   | exact ih0 _ _ _ _ _
   | exact ih1 _ _ _ _ _
   | exact ih2 _ _ _ _ _ _
   | exact ih3 _ _ _ _ _
   | exact ih4 _ _ _ _ _ _
   | exact spec_l2Has.mono _ _ _
   | exact spec_l2NameOk.mono _ _
   | exact LeO.none _
   | refine LeO.ite ?_ ?_
   | refine LeO.bind ?_ (fun _ => ?_)
def spec_l2StuffsOk.T6 : Bool × List (List Nat × List Nat) := (true, [([], []), ([0], [0]), ([], []), ([1, 2], [1, 2]), ([3], [3]), ([4], [4]), ([5], [5]), ([6, 5], [6]), ([7], [7]), ([8, 7], [7, 8]), ([9, 7, 7], [7, 9]), ([10], [10]), ([11, 10], [10, 11]), ([10], [10]), ([13, 10], [10, 13]), ([12, 14, 10], [10, 12, 14]), ([15, 10], [10, 15]), ([10], [10]), ([17, 10], [10, 17]), ([10], [10]), ([18, 19, 10], [10, 18, 19]), ([20, 10], [10, 20]), ([16, 21, 10], [10, 16, 21]), ([10, 22, 7], [7, 10, 22]), ([7, 23], [7, 23])])
def spec_l2StuffsOk.B6 : List Nat := [0, 1, 0, 7, 15, 31, 63, 127, 255, 511, 1023, 2047, 4095, 2047, 10239, 32767, 65535, 2047, 133119, 2047, 919551, 1968127, 4194303, 8388607, 16777215]
theorem spec_l2StuffsOk.tab6 : rtab .any (opsOf Try.f66 6) = spec_l2StuffsOk.T6 := by kernel_rfl
theorem spec_l2StuffsOk.bits6 : waitsOk spec_l2StuffsOk.T6.2 spec_l2StuffsOk.B6 = true := by kernel_rfl
def spec_l2StuffsOk.T12 : Bool × List (List Nat × List Nat) := (true, [([], []), ([0], [0]), ([], []), ([2], [2]), ([1, 3], [1, 3]), ([4], [4]), ([5], [5]), ([6, 5], [5, 6]), ([5], [5]), ([8, 5], [5, 8]), ([7, 9, 5, 5], [5, 7, 9]), ([10, 5], [5, 10]), ([5, 11], [5, 11]), ([12, 10], [12]), ([13], [13]), ([14, 13], [13, 14]), ([13], [13]), ([16, 13], [13, 16]), ([15, 17, 13, 13], [13, 15, 17]), ([18, 13], [13, 18]), ([13, 19], [13, 19]), ([20, 18], [20]), ([21], [21]), ([22, 21], [21, 22]), ([23, 21, 21], [21, 23]), ([24], [24]), ([25, 24], [24, 25]), ([24], [24]), ([27, 24], [24, 27]), ([26, 28, 24], [24, 26, 28]), ([29, 24], [24, 29]), ([24], [24]), ([30, 31, 24, 24], [24, 30, 31]), ([32, 24], [24, 32]), ([24, 33, 21], [21, 24, 33]), ([21, 34], [21, 34])])
def spec_l2StuffsOk.B12 : List Nat := [0, 1, 0, 4, 15, 31, 63, 127, 63, 319, 1023, 2047, 4095, 8191, 16383, 32767, 16383, 81919, 262143, 524287, 1048575, 2097151, 4194303, 8388607, 16777215, 33554431, 67108863, 33554431, 167772159, 536870911, 1073741823, 33554431, 4294967295, 8589934591, 17179869183, 34359738367]
theorem spec_l2StuffsOk.tab12 : rtab .any (opsOf Try.f66 12) = spec_l2StuffsOk.T12 := by kernel_rfl
theorem spec_l2StuffsOk.bits12 : waitsOk spec_l2StuffsOk.T12.2 spec_l2StuffsOk.B12 = true := by kernel_rfl
set_option maxHeartbeats 8000000 in
set_option maxRecDepth 100000 in
theorem spec_l2StuffsOk.calls (k : Nat) (A0_0 : Option Addr) (c0_0 : Nat) (l0_0 : List ByteArray) (A0_1 : Option Addr) (c0_1 : Nat) (l0_1 : List (S105)) (A0_2 : Option Addr) (c0_2 : Nat) (l0_2 : List (S86)) (A0_3 : Option Addr) (c0_3 : Nat) (l0_3 : List (S108)) (r : Bool) (w : World) (hr0_0 : Kd.C Kd.string w A0_0 l0_0.length l0_0) (hc0_0 : l0_0.length ≤ c0_0) (hr0_1 : Kd.C k105 w A0_1 l0_1.length l0_1) (hc0_1 : l0_1.length ≤ c0_1) (hr0_2 : Kd.C k86 w A0_2 l0_2.length l0_2) (hc0_2 : l0_2.length ≤ c0_2) (hr0_3 : Kd.C k108 w A0_3 l0_3.length l0_3) (hc0_3 : l0_3.length ≤ c0_3) (h : spec_l2StuffsOk.f k l0_0 l0_1 l0_2 l0_3 = some r) :
  Calls Try.prog 66 #[.agg #[.slice A0_0 l0_0.length c0_0, .slice A0_1 l0_1.length c0_1, .slice A0_2 l0_2.length c0_2, .slice A0_3 l0_3.length c0_3]] w fun e w' => e = .returned (.bool r) ∧ Below w.heap.size w w' := by
 have hu34 := Try.underlying34
 have hu105 := Try.underlying105
 have HR0_0 := Aside0.mk hr0_0
 have HC0_0 := Aside0.mk hc0_0
 clear hr0_0 hc0_0
 have HR0_1 := Aside0.mk hr0_1
 have HC0_1 := Aside0.mk hc0_1
 clear hr0_1 hc0_1
 have HR0_2 := Aside0.mk hr0_2
 have HC0_2 := Aside0.mk hc0_2
 clear hr0_2 hc0_2
 have HR0_3 := Aside0.mk hr0_3
 have HC0_3 := Aside0.mk hc0_3
 clear hr0_3 hc0_3
 have HB := Aside0.mk (Below.refl w.heap.size w)
 have H : (if (l0_0.length : Int) > 8 then (spec_l2StuffsOk.j0 k true l0_0 l0_1 l0_2 l0_3) else (spec_l2StuffsOk.j0 k (decide ((l0_1.length : Int) > 12)) l0_0 l0_1 l0_2 l0_3)) = some r := h
 clear h
 have HC2 := Aside0.mk H
 clear H
 go_enter Try.func66, Try.ntmps66
 go_upto_region 1 with (first | ((with_reducible refine gate_dst (N := 1) rfl ?_); (try (refine gate_guard (by rfl) ?_; dsimp only)); refine box_event ?hg (N := 1) ?hd (cs := #[.slice A0_0 l0_0.length c0_0, .slice A0_1 l0_1.length c0_1, .slice A0_2 l0_2.length c0_2, .slice A0_3 l0_3.length c0_3]) (t := 34) ?hr ?_; (case hd => rfl); (case hg => rfl); (case hr => first | (go_simp; done) | (go_simp; rfl)); intro gb196 hg w3 hbox hb; have n0_ := Aside0.mk (below_step m0_ hb); have n1_ := Aside0.mk (hbox); have n2_ := Aside0.mk ((by rw [hg]; exact (below_size m0_) : w.heap.size ≤ gb196)); have n3_ := Aside0.mk ((by rw [hg]; exact (below_size m0_) : w.heap.size ≤ gb196)); clear HB; have HB := n0_; have BK196 := n1_; have GW196 := n2_; have GE196 := n3_; clear n0_ n1_ n2_ n3_; clear hb hbox hg))
 (try simp only [Act.put, List.setIfInBounds_toArray, List.set_cons_zero, List.set_cons_succ])
 go_cut [15] (fun v15 wc => ∃ (kq : Nat) (x15_1 : Bool), v15 = .bool x15_1 ∧ Aside0 (spec_l2StuffsOk.j0 kq x15_1 l0_0 l0_1 l0_2 l0_3 = some r) ∧ Aside0 (kq ≤ k) ∧ Aside0 (wc.heap[gb196]? = some (.cells #[(.slice A0_0 l0_0.length c0_0), (.slice A0_1 l0_1.length c0_1), (.slice A0_2 l0_2.length c0_2), (.slice A0_3 l0_3.length c0_3)] 34 (0, 0))) ∧ Aside0 (Below w.heap.size w wc))
 case first =>
  have H := HC2.out
  clear HC2
  by_cases c4 : (l0_0.length : Int) > 8
  ·rw [if_pos c4] at H
   have c4b0 : decide (8 < (l0_0.length : Int)) = true := decide_eq_true c4
   have c4b1 : decide (8 < l0_0.length) = true := decide_eq_true (by omega)
   clear c4
   (first | rw [c4b0] | (simp only [i64_w, i32_w]; rw [c4b0]) | skip)
   have H' := Aside0.mk H
   clear H
   obtain ⟨hcz5_0, hcz5_1, hcz5_2, hcz5_3⟩ := cz4_ BK196.out
   obtain ⟨hfz5_0, hfz5_1, hfz5_2, hfz5_3⟩ := fz4_ BK196.out
   go_wp2
   go_meet
   case rel => exact ⟨_, (true), m8_, H', ⟨(by first | omega | exact Nat.le_refl _)⟩, ⟨m36_⟩, ⟨m30_⟩⟩
  ·rw [if_neg c4] at H
   have c4b0 : decide (8 < (l0_0.length : Int)) = false := decide_eq_false c4
   have c4b1 : decide (8 < l0_0.length) = false := decide_eq_false (by omega)
   clear c4
   (first | rw [c4b0] | (simp only [i64_w, i32_w]; rw [c4b0]) | skip)
   have H' := Aside0.mk H
   clear H
   obtain ⟨hcz6_0, hcz6_1, hcz6_2, hcz6_3⟩ := cz4_ BK196.out
   obtain ⟨hfz6_0, hfz6_1, hfz6_2, hfz6_3⟩ := fz4_ BK196.out
   go_wp2
   go_meet
   case rel => exact ⟨_, (decide ((l0_1.length : Int) > 12)), m8_, H', ⟨(by first | omega | exact Nat.le_refl _)⟩, ⟨m36_⟩, ⟨m30_⟩⟩
 case rest =>
  clear HC2
  try clear p2
  try clear c4
  try clear c4b0
  try clear c4b1
  try clear c6
  try clear hcz5_0
  try clear hcz5_1
  try clear hcz5_2
  try clear hcz5_3
  try clear hcz6_0
  try clear hcz6_1
  try clear hcz6_2
  try clear hcz6_3
  try clear hfz5_0
  try clear hfz5_1
  try clear hfz5_2
  try clear hfz5_3
  try clear hfz6_0
  try clear hfz6_1
  try clear hfz6_2
  try clear hfz6_3
  obtain ⟨kq, x15_1, rfl, HA, HJ1, BK196, HB⟩ := hcut
  cases kq with
  | zero => exact absurd HA.out (by simp [spec_l2StuffsOk.j0])
  | succ kj1 =>
   have H := HA.out
   clear HA
   simp only [spec_l2StuffsOk.j0] at H
   by_cases c7 : x15_1 = true
   ·subst c7
    have H1 : (some false) = some r := by rw [if_pos rfl] at H; exact H
    clear H
    have H := H1
    clear H1
    obtain rfl := Option.some.inj H
    go_wp2
    go_ret
    exact ⟨m6_, m30_⟩
   ·replace c7 := Bool.eq_false_iff.mpr c7
    subst c7
    have H1 : (spec_l2StuffsOk.l0 kj1 0 l0_0 l0_1 l0_2 l0_3) = some r := by rw [if_neg (show ¬ (false = true) by decide)] at H; exact H
    clear H
    have H := H1
    clear H1
    have H' := Aside0.mk H
    clear H
    go_wp2
    go_loopg [3] kj1 (fun kq v3 w' => ∃ (x3_2 : Int), v3 = .int .i64 x3_2 ∧ Aside0 (spec_l2StuffsOk.l0 kq x3_2 l0_0 l0_1 l0_2 l0_3 = some r) ∧ Aside0 (kq ≤ kj1) ∧ Aside0 (w'.heap[gb196]? = some (.cells #[(.slice A0_0 l0_0.length c0_0), (.slice A0_1 l0_1.length c0_1), (.slice A0_2 l0_2.length c0_2), (.slice A0_3 l0_3.length c0_3)] 34 (0, 0))) ∧ Aside0 (Below w.heap.size w w'))
    case atStart => exact ⟨(0), m8_, H', ⟨Nat.le_refl _⟩, ⟨m36_⟩, ⟨m30_⟩⟩
    case round =>
     clear H'
     try clear p2
     try clear c4
     try clear c4b0
     try clear c4b1
     try clear c6
     try clear c7
     try clear hcz5_0
     try clear hcz5_1
     try clear hcz5_2
     try clear hcz5_3
     try clear hcz6_0
     try clear hcz6_1
     try clear hcz6_2
     try clear hcz6_3
     try clear hfz5_0
     try clear hfz5_1
     try clear hfz5_2
     try clear hfz5_3
     try clear hfz6_0
     try clear hfz6_1
     try clear hfz6_2
     try clear hfz6_3
     try clear p2
     obtain ⟨x3_2, rfl, HA, HK2, BK196, HB⟩ := hrel
     cases gk with
     | zero => exact absurd HA.out (by simp [spec_l2StuffsOk.l0])
     | succ k2 =>
      have H := HA.out
      clear HA
      simp only [spec_l2StuffsOk.l0] at H
      by_cases c8 : x3_2 < (l0_0.length : Int)
      ·rw [if_pos c8] at H
       have c8b0 : decide (x3_2 < (l0_0.length : Int)) = true := decide_eq_true c8
       clear c8
       have HC9 := Aside0.mk H
       clear H
       obtain ⟨hcz10_0, hcz10_1, hcz10_2, hcz10_3⟩ := cz4_ BK196.out
       obtain ⟨hfz10_0, hfz10_1, hfz10_2, hfz10_3⟩ := fz4_ BK196.out
       go_upto_region 6 with (fail)
       go_cut [47] (fun v47 wc => ∃ (kq : Nat) (x47_8 : Bool), v47 = .bool x47_8 ∧ Aside0 (spec_l2StuffsOk.j2 kq x3_2 x47_8 l0_0 l0_1 l0_2 l0_3 = some r) ∧ Aside0 (kq ≤ k2) ∧ Aside0 (wc.heap[gb196]? = some (.cells #[(.slice A0_0 l0_0.length c0_0), (.slice A0_1 l0_1.length c0_1), (.slice A0_2 l0_2.length c0_2), (.slice A0_3 l0_3.length c0_3)] 34 (0, 0))) ∧ Aside0 (Below w.heap.size w wc))
       case first =>
        have H := HC9.out
        clear HC9
        refine (Classical.em (0 ≤ x3_2)).elim (fun c11 => ?yes66) (fun c11 => ?no66)
        case' yes66 =>
         rw [if_pos c11] at H
         have c11b0 : decide (0 ≤ x3_2) = true := decide_eq_true c11
         clear c11
         (first | rw [c11b0] | (simp only [i64_w, i32_w]; rw [c11b0]) | skip)
         replace H := Option.bind_eq_some_iff.mp H
         obtain ⟨t198, A120, H⟩ := H
         replace H : (if t198 = true then (if x3_2 > 0 then (if 0 ≤ (wrap64 (x3_2 - 1)) then (if (wrap64 (x3_2 - 1)) < (l0_0.length : Int) then (spec_l2StuffsOk.j2 k2 x3_2 (!(Op.bytesLess ((rdOf ByteArray.empty l0_0 (wrap64 (x3_2 - 1))).toList) ((rdOf ByteArray.empty l0_0 x3_2).toList))) l0_0 l0_1 l0_2 l0_3) else (none)) else (none)) else (spec_l2StuffsOk.j2 k2 x3_2 false l0_0 l0_1 l0_2 l0_3)) else (spec_l2StuffsOk.j2 k2 x3_2 true l0_0 l0_1 l0_2 l0_3)) = some r := H
         have A12 := Aside0.mk A120
         clear A120
         refine (Classical.em (t198 = true)).elim (fun c13 => ?yes67) (fun c13 => ?no67)
         case' yes67 =>
          subst c13
          have H1 : (if x3_2 > 0 then (if 0 ≤ (wrap64 (x3_2 - 1)) then (if (wrap64 (x3_2 - 1)) < (l0_0.length : Int) then (spec_l2StuffsOk.j2 k2 x3_2 (!(Op.bytesLess ((rdOf ByteArray.empty l0_0 (wrap64 (x3_2 - 1))).toList) ((rdOf ByteArray.empty l0_0 x3_2).toList))) l0_0 l0_1 l0_2 l0_3) else (none)) else (none)) else (spec_l2StuffsOk.j2 k2 x3_2 false l0_0 l0_1 l0_2 l0_3)) = some r := by rw [if_pos rfl] at H; exact H
          clear H
          have H := H1
          clear H1
          refine (Classical.em (x3_2 > 0)).elim (fun c14 => ?yes68) (fun c14 => ?no68)
          case' yes68 =>
           rw [if_pos c14] at H
           have c14b0 : decide (0 < x3_2) = true := decide_eq_true c14
           clear c14
           obtain ⟨ji15, hji15⟩ : ∃ j_ : Int, (wrap64 (x3_2 - 1)) = j_ := ⟨_, rfl⟩
           replace H : (if 0 ≤ (ji15) then (if (ji15) < (l0_0.length : Int) then (spec_l2StuffsOk.j2 k2 x3_2 (!(Op.bytesLess ((rdOf ByteArray.empty l0_0 (ji15)).toList) ((rdOf ByteArray.empty l0_0 x3_2).toList))) l0_0 l0_1 l0_2 l0_3) else (none)) else (none)) = some r := by first | (rw [hji15] at H; exact H) | (simp only [hji15] at H ⊢; exact H)
           (try rw [hji15] at A12)
           have hji15w : (IntKind.i64.wrap (x3_2 - 1)) = ji15 := (i64_w _).trans hji15
           refine (Classical.em (0 ≤ (ji15))).elim (fun c16 => ?yes69) (fun c16 => ?no69)
           case' yes69 =>
            rw [if_pos c16] at H
            have c16b0 : decide (0 ≤ (ji15)) = true := decide_eq_true c16
            clear c16
            refine (Classical.em ((ji15) < (l0_0.length : Int))).elim (fun c17 => ?yes70) (fun c17 => ?no70)
            case' yes70 =>
             rw [if_pos c17] at H
             have c17b0 : decide ((ji15) < (l0_0.length : Int)) = true := decide_eq_true c17
             clear c17
             have H' := Aside0.mk H
             clear H
            case' no70 =>
             rw [if_neg c17] at H
             exact absurd H (by simp)
           case' no69 =>
            rw [if_neg c16] at H
            exact absurd H (by simp)
          case' no68 =>
           rw [if_neg c14] at H
           have c14b0 : decide (0 < x3_2) = false := decide_eq_false c14
           clear c14
           have H' := Aside0.mk H
           clear H
         case' no67 =>
          replace c13 := Bool.eq_false_iff.mpr c13
          subst c13
          have H1 : (spec_l2StuffsOk.j2 k2 x3_2 true l0_0 l0_1 l0_2 l0_3) = some r := by rw [if_neg (show ¬ (false = true) by decide)] at H; exact H
          clear H
          have H := H1
          clear H1
          have H' := Aside0.mk H
          clear H
        case' no66 =>
         rw [if_neg c11] at H
         exact absurd H (by simp)
        all_goals
         first
          | (
           try go_wp2
           have n0_ := Aside0.mk (blk_drew BK196.out)
           have n1_ := Aside0.mk (below_drew1 HB.out)
           clear BK196
           clear HB
           have BK196 := n0_
           have HB := n1_
           clear n0_ n1_
           have p197 : 0 ≤ (x3_2 : Int) := of_decide_eq_true m4_
           have q197 : x3_2 < (l0_0.length : Int) := of_decide_eq_true m4_
           obtain ⟨ad197, e197, hx197_0⟩ := Kd.at_string HR0_0.out x3_2 p197 q197
           have hw197_0 := hx197_0
           cases e197
           replace hx197_0 := (HB.out.cell (World.block_lt_of_cell? w _ hx197_0)).trans hx197_0
           replace p197 := eq_true p197
           replace q197 := eq_true q197
           have p199 : 0 ≤ ((ji15) : Int) := of_decide_eq_true m4_
           have q199 : (ji15) < (l0_0.length : Int) := of_decide_eq_true m4_
           obtain ⟨ad199, e199, hx199_0⟩ := Kd.at_string HR0_0.out (ji15) p199 q199
           have hw199_0 := hx199_0
           obtain rfl : ad197 = ad199 := (by injection e199)
           replace hx199_0 := (HB.out.cell (World.block_lt_of_cell? w _ hx199_0)).trans hx199_0
           replace p199 := eq_true p199
           replace q199 := eq_true q199
           have p200 : 0 ≤ (x3_2 : Int) := of_decide_eq_true m4_
           have q200 : x3_2 < (l0_0.length : Int) := of_decide_eq_true m4_
           obtain ⟨ad200, e200, hx200_0⟩ := Kd.at_string HR0_0.out x3_2 p200 q200
           have hw200_0 := hx200_0
           obtain rfl : ad197 = ad200 := (by injection e200)
           replace hx200_0 := (HB.out.cell (World.block_lt_of_cell? w _ hx200_0)).trans hx200_0
           replace p200 := eq_true p200
           replace q200 := eq_true q200
           refine start_ (n := 25) (S := fun w' => w'.cell? ⟨gb196, 0, none⟩ = some (.slice (some ad197) l0_0.length c0_0) ∧ w'.cell? ⟨gb196, 1, none⟩ = some (.slice A0_1 l0_1.length c0_1) ∧ w'.cell? ⟨gb196, 2, none⟩ = some (.slice A0_2 l0_2.length c0_2) ∧ w'.cell? ⟨gb196, 3, none⟩ = some (.slice A0_3 l0_3.length c0_3) ∧ w'.cell? (ad197.add (x3_2).toNat) = some (.string (rdOf ByteArray.empty l0_0 x3_2)) ∧ w'.cell? (ad197.add ((ji15)).toNat) = some (.string (rdOf ByteArray.empty l0_0 (ji15))) ∧ w'.cell? (ad197.add (x3_2).toNat) = some (.string (rdOf ByteArray.empty l0_0 x3_2))) (ds := []) (bm 25 0) (by kernel_rfl) rfl rfl ⟨(blk_cell BK196.out 0).trans rfl, (blk_cell BK196.out 1).trans rfl, (blk_cell BK196.out 2).trans rfl, (blk_cell BK196.out 3).trans rfl, ((HB.out.cell (World.block_lt_of_cell? w _ hw197_0)).trans hw197_0), ((HB.out.cell (World.block_lt_of_cell? w _ hw199_0)).trans hw199_0), ((HB.out.cell (World.block_lt_of_cell? w _ hw200_0)).trans hw200_0)⟩ (fun hHeld => ?_); refine with_tabW spec_l2StuffsOk.tab6 spec_l2StuffsOk.bits6 (fun HT_ HW_ => ?_)
           generalize wr.drew = w18 at BK196 HB hx197_0 hx199_0 hx200_0 hHeld ⊢
           refine pure_ (i := 0) (N := some 23) (v := ?_) (a' := ?_) (bm 25 1) rfl rfl (any_of HT_.out (by kernel_rfl)) (fun _ _ _ h => h) (Or.inl ⟨(by rfl), ?_⟩) ?_ ?_; rotate_left; intro w'; go_simp; with_reducible rfl; rotate_left; simp only [Act.put, List.setIfInBounds_toArray, List.set_cons_zero, List.set_cons_succ, i64_w, i32_w]; rfl
           refine pure_ (i := 2) (N := some 25) (v := ?_) (a' := ?_) (bm 25 5) rfl rfl (any_of HT_.out (by kernel_rfl)) (fun _ _ _ h => h) (Or.inl ⟨(by rfl), ?_⟩) ?_ ?_; rotate_left; intro w'; go_simp; with_reducible rfl; rotate_left; simp only [Act.put, List.setIfInBounds_toArray, List.set_cons_zero, List.set_cons_succ, i64_w, i32_w]; rfl
           refine take_ (i := 1) (N := some 24) (v := ?_) (a' := ?_) (bm 25 7) rfl rfl (take_ofW HT_.out HW_.out (by kernel_rfl)) (fun _ _ _ h => h) (Or.inl ⟨(by rfl), ?_⟩) hHeld ?_ ?_; rotate_left; rintro w' ⟨s0, s1, s2, s3, s4, s5, s6⟩; go_simp; with_reducible rfl; rotate_left; simp only [Act.put, List.setIfInBounds_toArray, List.set_cons_zero, List.set_cons_succ, i64_w, i32_w]; rfl
           refine pure_ (i := 3) (N := some 26) (v := ?_) (a' := ?_) (bm 25 15) rfl rfl (any_of HT_.out (by kernel_rfl)) (fun _ _ _ h => h) (Or.inl ⟨(by rfl), ?_⟩) ?_ ?_; rotate_left; intro w'; go_simp; with_reducible rfl; rotate_left; simp only [Act.put, List.setIfInBounds_toArray, List.set_cons_zero, List.set_cons_succ, i64_w, i32_w]; rfl
           refine take_ (i := 4) (N := some 27) (v := ?_) (a' := ?_) (bm 25 31) rfl rfl (take_ofW HT_.out HW_.out (by kernel_rfl)) (fun _ _ _ h => h) (Or.inl ⟨(by rfl), ?_⟩) hHeld ?_ ?_; rotate_left; rintro w' ⟨s0, s1, s2, s3, s4, s5, s6⟩; go_simp; with_reducible rfl; rotate_left; simp only [Act.put, List.setIfInBounds_toArray, List.set_cons_zero, List.set_cons_succ, i64_w, i32_w]; rfl
           refine one_ (i := 5) (N := some 28) (bm 25 63) rfl rfl (one_of HT_.out (by kernel_rfl)) (by decide) (fun K hK => ?_)
           refine goes_ Try.func119 (by kernel_rfl) rfl #[.string (rdOf ByteArray.empty l0_0 x3_2)] (by rfl) rfl rfl m3_ ?_
           with_reducible refine (spec_l2NameOk.calls k2 (rdOf ByteArray.empty l0_0 x3_2) _ _ (Aside0.out (by assumption))).mono ?_
           rintro e w' ⟨rfl, ⟨nd, rfl⟩⟩
           refine ⟨_, rfl, ?_⟩
           refine hK.out _ _ ⟨(blk_cell BK196.out 0).trans rfl, (blk_cell BK196.out 1).trans rfl, (blk_cell BK196.out 2).trans rfl, (blk_cell BK196.out 3).trans rfl, ((HB.out.cell (World.block_lt_of_cell? w _ hw197_0)).trans hw197_0), ((HB.out.cell (World.block_lt_of_cell? w _ hw199_0)).trans hw199_0), ((HB.out.cell (World.block_lt_of_cell? w _ hw200_0)).trans hw200_0)⟩ (fun hHeld => ?_)
           clear hK K
           refine no_ ?_
           refine pure_ (i := 6) (N := some 29) (v := ?_) (a' := ?_) (bm 25 127) rfl rfl (any_of HT_.out (by kernel_rfl)) (fun _ _ _ h => h) (Or.inl ⟨(by rfl), ?_⟩) ?_ ?_; rotate_left; intro w'; go_simp; with_reducible rfl; rotate_left; simp only [Act.put, List.setIfInBounds_toArray, List.set_cons_zero, List.set_cons_succ, i64_w, i32_w]; rfl
           refine pure_ (i := 7) (N := some 30) (v := ?_) (a' := ?_) (bm 25 255) rfl rfl (any_of HT_.out (by kernel_rfl)) (fun _ _ _ h => h) (Or.inl ⟨(by rfl), ?_⟩) ?_ ?_; rotate_left; intro w'; go_simp; with_reducible rfl; rotate_left; simp only [Act.put, List.setIfInBounds_toArray, List.set_cons_zero, List.set_cons_succ, i64_w, i32_w]; rfl
           refine pure_ (i := 8) (N := some 31) (v := ?_) (a' := ?_) (bm 25 511) rfl rfl (any_of HT_.out (by kernel_rfl)) (fun _ _ _ h => h) (Or.inl ⟨(by rfl), ?_⟩) ?_ ?_; rotate_left; intro w'; go_simp; with_reducible rfl; rotate_left; simp only [Act.put, List.setIfInBounds_toArray, List.set_cons_zero, List.set_cons_succ, i64_w, i32_w]; rfl
           refine pure_ (i := 9) (N := some 32) (v := ?_) (a' := ?_) (bm 25 1023) rfl rfl (any_of HT_.out (by kernel_rfl)) (fun _ _ _ h => h) (Or.inl ⟨(by rfl), ?_⟩) ?_ ?_; rotate_left; intro w'; go_simp; with_reducible rfl; rotate_left; simp only [Act.put, List.setIfInBounds_toArray, List.set_cons_zero, List.set_cons_succ, i64_w, i32_w]; rfl
           refine pure_ (i := 10) (N := some 33) (v := ?_) (a' := ?_) (bm 25 2047) rfl rfl (any_of HT_.out (by kernel_rfl)) (fun _ _ _ h => h) (Or.inl ⟨(by rfl), ?_⟩) ?_ ?_; rotate_left; intro w'; go_simp; with_reducible rfl; rotate_left; simp only [Act.put, List.setIfInBounds_toArray, List.set_cons_zero, List.set_cons_succ, i64_w, i32_w]; rfl
           refine pure_ (i := 11) (N := some 34) (v := ?_) (a' := ?_) (bm 25 4095) rfl rfl (any_of HT_.out (by kernel_rfl)) (fun _ _ _ h => h) (Or.inl ⟨(by rfl), ?_⟩) ?_ ?_; rotate_left; intro w'; go_simp; with_reducible rfl; rotate_left; simp only [Act.put, List.setIfInBounds_toArray, List.set_cons_zero, List.set_cons_succ, i64_w, i32_w]; rfl
           refine pure_ (i := 13) (N := some 36) (v := ?_) (a' := ?_) (bm 25 12287) rfl rfl (any_of HT_.out (by kernel_rfl)) (fun _ _ _ h => h) (Or.inl ⟨(by rfl), ?_⟩) ?_ ?_; rotate_left; intro w'; go_simp; with_reducible rfl; rotate_left; simp only [Act.put, List.setIfInBounds_toArray, List.set_cons_zero, List.set_cons_succ, i64_w, i32_w]; rfl
           refine pure_ (i := 14) (N := some 37) (v := ?_) (a' := ?_) (bm 25 28671) rfl rfl (any_of HT_.out (by kernel_rfl)) (fun _ _ _ h => h) (Or.inl ⟨(by rfl), ?_⟩) ?_ ?_; rotate_left; intro w'; go_simp; with_reducible rfl; rotate_left; simp only [Act.put, List.setIfInBounds_toArray, List.set_cons_zero, List.set_cons_succ, i64_w, i32_w]; rfl
           refine pure_ (i := 17) (N := some 40) (v := ?_) (a' := ?_) (bm 25 159743) rfl rfl (any_of HT_.out (by kernel_rfl)) (fun _ _ _ h => h) (Or.inl ⟨(by rfl), ?_⟩) ?_ ?_; rotate_left; intro w'; go_simp; with_reducible rfl; rotate_left; simp only [Act.put, List.setIfInBounds_toArray, List.set_cons_zero, List.set_cons_succ, i64_w, i32_w]; rfl
           refine pure_ (i := 19) (N := some 42) (v := ?_) (a' := ?_) (bm 25 684031) rfl rfl (any_of HT_.out (by kernel_rfl)) (fun _ _ _ h => h) (Or.inl ⟨(by rfl), ?_⟩) ?_ ?_; rotate_left; intro w'; go_simp; with_reducible rfl; rotate_left; simp only [Act.put, List.setIfInBounds_toArray, List.set_cons_zero, List.set_cons_succ, i64_w, i32_w]; rfl
           refine take_ (i := 12) (N := some 35) (v := ?_) (a' := ?_) (bm 25 688127) rfl rfl (take_ofW HT_.out HW_.out (by kernel_rfl)) (fun _ _ _ h => h) (Or.inl ⟨(by rfl), ?_⟩) hHeld ?_ ?_; rotate_left; rintro w' ⟨s0, s1, s2, s3, s4, s5, s6⟩; go_simp; with_reducible rfl; rotate_left; simp only [Act.put, List.setIfInBounds_toArray, List.set_cons_zero, List.set_cons_succ, i64_w, i32_w]; rfl
           refine pure_ (i := 15) (N := some 38) (v := ?_) (a' := ?_) (bm 25 720895) rfl rfl (any_of HT_.out (by kernel_rfl)) (fun _ _ _ h => h) (Or.inl ⟨(by rfl), ?_⟩) ?_ ?_; rotate_left; intro w'; go_simp; with_reducible rfl; rotate_left; simp only [Act.put, List.setIfInBounds_toArray, List.set_cons_zero, List.set_cons_succ, i64_w, i32_w]; rfl
           refine take_ (i := 16) (N := some 39) (v := ?_) (a' := ?_) (bm 25 786431) rfl rfl (take_ofW HT_.out HW_.out (by kernel_rfl)) (fun _ _ _ h => h) (Or.inl ⟨(by rfl), ?_⟩) hHeld ?_ ?_; rotate_left; rintro w' ⟨s0, s1, s2, s3, s4, s5, s6⟩; go_simp; with_reducible rfl; rotate_left; simp only [Act.put, List.setIfInBounds_toArray, List.set_cons_zero, List.set_cons_succ, i64_w, i32_w]; rfl
           refine take_ (i := 18) (N := some 41) (v := ?_) (a' := ?_) (bm 25 1048575) rfl rfl (take_ofW HT_.out HW_.out (by kernel_rfl)) (fun _ _ _ h => h) (Or.inl ⟨(by rfl), ?_⟩) hHeld ?_ ?_; rotate_left; rintro w' ⟨s0, s1, s2, s3, s4, s5, s6⟩; go_simp; with_reducible rfl; rotate_left; simp only [Act.put, List.setIfInBounds_toArray, List.set_cons_zero, List.set_cons_succ, i64_w, i32_w]; rfl
           refine pure_ (i := 20) (N := some 43) (v := ?_) (a' := ?_) (bm 25 2097151) rfl rfl (any_of HT_.out (by kernel_rfl)) (fun _ _ _ h => h) (Or.inl ⟨(by rfl), ?_⟩) ?_ ?_; rotate_left; intro w'; go_simp; with_reducible rfl; rotate_left; simp only [Act.put, List.setIfInBounds_toArray, List.set_cons_zero, List.set_cons_succ, i64_w, i32_w]; rfl
           refine take_ (i := 21) (N := some 44) (v := ?_) (a' := ?_) (bm 25 4194303) rfl rfl (take_ofW HT_.out HW_.out (by kernel_rfl)) (fun _ _ _ h => h) (Or.inl ⟨(by rfl), ?_⟩) hHeld ?_ ?_; rotate_left; rintro w' ⟨s0, s1, s2, s3, s4, s5, s6⟩; go_simp; with_reducible rfl; rotate_left; simp only [Act.put, List.setIfInBounds_toArray, List.set_cons_zero, List.set_cons_succ, i64_w, i32_w]; rfl
           refine pure_ (i := 22) (N := some 45) (v := ?_) (a' := ?_) (bm 25 8388607) rfl rfl (any_of HT_.out (by kernel_rfl)) (fun _ _ _ h => h) (Or.inl ⟨(by rfl), ?_⟩) ?_ ?_; rotate_left; intro w'; go_simp; with_reducible rfl; rotate_left; simp only [Act.put, List.setIfInBounds_toArray, List.set_cons_zero, List.set_cons_succ, i64_w, i32_w]; rfl
           refine pure_ (i := 23) (N := some 46) (v := ?_) (a' := ?_) (bm 25 16777215) rfl rfl (any_of HT_.out (by kernel_rfl)) (fun _ _ _ h => h) (Or.inl ⟨(by rfl), ?_⟩) ?_ ?_; rotate_left; intro w'; go_simp; with_reducible rfl; rotate_left; simp only [Act.put, List.setIfInBounds_toArray, List.set_cons_zero, List.set_cons_succ, i64_w, i32_w]; rfl
           refine pure_ (i := 24) (N := some 47) (v := ?_) (a' := ?_) (bm 25 33554431) rfl rfl (any_of HT_.out (by kernel_rfl)) (fun _ _ _ h => h) (Or.inl ⟨(by rfl), ?_⟩) ?_ ?_; rotate_left; intro w'; go_simp; with_reducible rfl; rotate_left; simp only [Act.put, List.setIfInBounds_toArray, List.set_cons_zero, List.set_cons_succ, i64_w, i32_w]; rfl
           refine done_ (done_of HT_.out (by kernel_rfl)) ?_
           try go_wp2
           go_meet
           case rel => exact ⟨_, _, (by first | rfl | (simp; done) | (simp only [← hji15] <;> (first | rfl | simp)) | (simp [*]; done)), H', ⟨(by have := HJ1.out; have := HK2.out; first | omega | exact Nat.le_refl _)⟩, ⟨m36_⟩, ⟨m30_⟩⟩)
          | (
           try go_wp2
           have n0_ := Aside0.mk (blk_drew BK196.out)
           have n1_ := Aside0.mk (below_drew1 HB.out)
           clear BK196
           clear HB
           have BK196 := n0_
           have HB := n1_
           clear n0_ n1_
           have p197 : 0 ≤ (x3_2 : Int) := of_decide_eq_true m4_
           have q197 : x3_2 < (l0_0.length : Int) := of_decide_eq_true m4_
           obtain ⟨ad197, e197, hx197_0⟩ := Kd.at_string HR0_0.out x3_2 p197 q197
           have hw197_0 := hx197_0
           cases e197
           replace hx197_0 := (HB.out.cell (World.block_lt_of_cell? w _ hx197_0)).trans hx197_0
           replace p197 := eq_true p197
           replace q197 := eq_true q197
           refine start_ (n := 25) (S := fun w' => w'.cell? ⟨gb196, 0, none⟩ = some (.slice (some ad197) l0_0.length c0_0) ∧ w'.cell? ⟨gb196, 1, none⟩ = some (.slice A0_1 l0_1.length c0_1) ∧ w'.cell? ⟨gb196, 2, none⟩ = some (.slice A0_2 l0_2.length c0_2) ∧ w'.cell? ⟨gb196, 3, none⟩ = some (.slice A0_3 l0_3.length c0_3) ∧ w'.cell? (ad197.add (x3_2).toNat) = some (.string (rdOf ByteArray.empty l0_0 x3_2))) (ds := []) (bm 25 0) (by kernel_rfl) rfl rfl ⟨(blk_cell BK196.out 0).trans rfl, (blk_cell BK196.out 1).trans rfl, (blk_cell BK196.out 2).trans rfl, (blk_cell BK196.out 3).trans rfl, ((HB.out.cell (World.block_lt_of_cell? w _ hw197_0)).trans hw197_0)⟩ (fun hHeld => ?_); refine with_tabW spec_l2StuffsOk.tab6 spec_l2StuffsOk.bits6 (fun HT_ HW_ => ?_)
           generalize wr.drew = w19 at BK196 HB hx197_0 hHeld ⊢
           refine pure_ (i := 0) (N := some 23) (v := ?_) (a' := ?_) (bm 25 1) rfl rfl (any_of HT_.out (by kernel_rfl)) (fun _ _ _ h => h) (Or.inl ⟨(by rfl), ?_⟩) ?_ ?_; rotate_left; intro w'; go_simp; with_reducible rfl; rotate_left; simp only [Act.put, List.setIfInBounds_toArray, List.set_cons_zero, List.set_cons_succ, i64_w, i32_w]; rfl
           refine pure_ (i := 2) (N := some 25) (v := ?_) (a' := ?_) (bm 25 5) rfl rfl (any_of HT_.out (by kernel_rfl)) (fun _ _ _ h => h) (Or.inl ⟨(by rfl), ?_⟩) ?_ ?_; rotate_left; intro w'; go_simp; with_reducible rfl; rotate_left; simp only [Act.put, List.setIfInBounds_toArray, List.set_cons_zero, List.set_cons_succ, i64_w, i32_w]; rfl
           refine take_ (i := 1) (N := some 24) (v := ?_) (a' := ?_) (bm 25 7) rfl rfl (take_ofW HT_.out HW_.out (by kernel_rfl)) (fun _ _ _ h => h) (Or.inl ⟨(by rfl), ?_⟩) hHeld ?_ ?_; rotate_left; rintro w' ⟨s0, s1, s2, s3, s4⟩; go_simp; with_reducible rfl; rotate_left; simp only [Act.put, List.setIfInBounds_toArray, List.set_cons_zero, List.set_cons_succ, i64_w, i32_w]; rfl
           refine pure_ (i := 3) (N := some 26) (v := ?_) (a' := ?_) (bm 25 15) rfl rfl (any_of HT_.out (by kernel_rfl)) (fun _ _ _ h => h) (Or.inl ⟨(by rfl), ?_⟩) ?_ ?_; rotate_left; intro w'; go_simp; with_reducible rfl; rotate_left; simp only [Act.put, List.setIfInBounds_toArray, List.set_cons_zero, List.set_cons_succ, i64_w, i32_w]; rfl
           refine take_ (i := 4) (N := some 27) (v := ?_) (a' := ?_) (bm 25 31) rfl rfl (take_ofW HT_.out HW_.out (by kernel_rfl)) (fun _ _ _ h => h) (Or.inl ⟨(by rfl), ?_⟩) hHeld ?_ ?_; rotate_left; rintro w' ⟨s0, s1, s2, s3, s4⟩; go_simp; with_reducible rfl; rotate_left; simp only [Act.put, List.setIfInBounds_toArray, List.set_cons_zero, List.set_cons_succ, i64_w, i32_w]; rfl
           refine one_ (i := 5) (N := some 28) (bm 25 63) rfl rfl (one_of HT_.out (by kernel_rfl)) (by decide) (fun K hK => ?_)
           refine goes_ Try.func119 (by kernel_rfl) rfl #[.string (rdOf ByteArray.empty l0_0 x3_2)] (by rfl) rfl rfl m3_ ?_
           with_reducible refine (spec_l2NameOk.calls k2 (rdOf ByteArray.empty l0_0 x3_2) _ _ (Aside0.out (by assumption))).mono ?_
           rintro e w' ⟨rfl, ⟨nd, rfl⟩⟩
           refine ⟨_, rfl, ?_⟩
           refine hK.out _ _ ⟨(blk_cell BK196.out 0).trans rfl, (blk_cell BK196.out 1).trans rfl, (blk_cell BK196.out 2).trans rfl, (blk_cell BK196.out 3).trans rfl, ((HB.out.cell (World.block_lt_of_cell? w _ hw197_0)).trans hw197_0)⟩ (fun hHeld => ?_)
           clear hK K
           refine no_ ?_
           refine pure_ (i := 6) (N := some 29) (v := ?_) (a' := ?_) (bm 25 127) rfl rfl (any_of HT_.out (by kernel_rfl)) (fun _ _ _ h => h) (Or.inl ⟨(by rfl), ?_⟩) ?_ ?_; rotate_left; intro w'; go_simp; with_reducible rfl; rotate_left; simp only [Act.put, List.setIfInBounds_toArray, List.set_cons_zero, List.set_cons_succ, i64_w, i32_w]; rfl
           refine pure_ (i := 7) (N := some 30) (v := ?_) (a' := ?_) (bm 25 255) rfl rfl (any_of HT_.out (by kernel_rfl)) (fun _ _ _ h => h) (Or.inl ⟨(by rfl), ?_⟩) ?_ ?_; rotate_left; intro w'; go_simp; with_reducible rfl; rotate_left; simp only [Act.put, List.setIfInBounds_toArray, List.set_cons_zero, List.set_cons_succ, i64_w, i32_w]; rfl
           first
            | (
             refine pure_ (i := 8) (N := some 31) (v := ?_) (a' := ?_) (bm 25 511) rfl rfl (any_of HT_.out (by kernel_rfl)) (fun _ _ _ h => h) (Or.inl ⟨rfl, ?_⟩) ?_ ?_
             rotate_left
             ·intro w'
              go_simp
              with_reducible rfl
             rotate_left
             ·simp only [Act.put, List.setIfInBounds_toArray, List.set_cons_zero, List.set_cons_succ, i64_w, i32_w]
              rfl)
            | (
             refine pure_ (i := 8) (N := some 31) (v := undef) (a' := ?_) (bm 25 511) rfl rfl (any_of HT_.out (by kernel_rfl)) (fun _ _ _ h => h) (Or.inr ⟨rfl, rfl⟩) ?_ ?_
             rotate_left
             ·simp only [Act.put, List.setIfInBounds_toArray, List.set_cons_zero, List.set_cons_succ, i64_w, i32_w]
              rfl)
           first
            | (
             refine pure_ (i := 9) (N := some 32) (v := ?_) (a' := ?_) (bm 25 1023) rfl rfl (any_of HT_.out (by kernel_rfl)) (fun _ _ _ h => h) (Or.inl ⟨rfl, ?_⟩) ?_ ?_
             rotate_left
             ·intro w'
              go_simp
              with_reducible rfl
             rotate_left
             ·simp only [Act.put, List.setIfInBounds_toArray, List.set_cons_zero, List.set_cons_succ, i64_w, i32_w]
              rfl)
            | (
             refine pure_ (i := 9) (N := some 32) (v := undef) (a' := ?_) (bm 25 1023) rfl rfl (any_of HT_.out (by kernel_rfl)) (fun _ _ _ h => h) (Or.inr ⟨rfl, rfl⟩) ?_ ?_
             rotate_left
             ·simp only [Act.put, List.setIfInBounds_toArray, List.set_cons_zero, List.set_cons_succ, i64_w, i32_w]
              rfl)
           first
            | (
             refine pure_ (i := 10) (N := some 33) (v := ?_) (a' := ?_) (bm 25 2047) rfl rfl (any_of HT_.out (by kernel_rfl)) (fun _ _ _ h => h) (Or.inl ⟨rfl, ?_⟩) ?_ ?_
             rotate_left
             ·intro w'
              go_simp
              with_reducible rfl
             rotate_left
             ·simp only [Act.put, List.setIfInBounds_toArray, List.set_cons_zero, List.set_cons_succ, i64_w, i32_w]
              rfl)
            | (
             refine pure_ (i := 10) (N := some 33) (v := undef) (a' := ?_) (bm 25 2047) rfl rfl (any_of HT_.out (by kernel_rfl)) (fun _ _ _ h => h) (Or.inr ⟨rfl, rfl⟩) ?_ ?_
             rotate_left
             ·simp only [Act.put, List.setIfInBounds_toArray, List.set_cons_zero, List.set_cons_succ, i64_w, i32_w]
              rfl)
           refine un_ 11 34 (bm 25 4095) HT_.out ?_
           refine un_ 12 35 (bm 25 8191) HT_.out ?_
           refine un_ 13 36 (bm 25 16383) HT_.out ?_
           refine un_ 14 37 (bm 25 32767) HT_.out ?_
           refine un_ 15 38 (bm 25 65535) HT_.out ?_
           refine un_ 16 39 (bm 25 131071) HT_.out ?_
           refine un_ 17 40 (bm 25 262143) HT_.out ?_
           refine un_ 18 41 (bm 25 524287) HT_.out ?_
           refine un_ 19 42 (bm 25 1048575) HT_.out ?_
           refine un_ 20 43 (bm 25 2097151) HT_.out ?_
           refine un_ 21 44 (bm 25 4194303) HT_.out ?_
           refine un_ 22 45 (bm 25 8388607) HT_.out ?_
           first
            | (
             refine pure_ (i := 23) (N := some 46) (v := ?_) (a' := ?_) (bm 25 16777215) rfl rfl (any_of HT_.out (by kernel_rfl)) (fun _ _ _ h => h) (Or.inl ⟨rfl, ?_⟩) ?_ ?_
             rotate_left
             ·intro w'
              go_simp
              with_reducible rfl
             rotate_left
             ·simp only [Act.put, List.setIfInBounds_toArray, List.set_cons_zero, List.set_cons_succ, i64_w, i32_w]
              rfl)
            | (
             refine pure_ (i := 23) (N := some 46) (v := undef) (a' := ?_) (bm 25 16777215) rfl rfl (any_of HT_.out (by kernel_rfl)) (fun _ _ _ h => h) (Or.inr ⟨rfl, rfl⟩) ?_ ?_
             rotate_left
             ·simp only [Act.put, List.setIfInBounds_toArray, List.set_cons_zero, List.set_cons_succ, i64_w, i32_w]
              rfl)
           refine pure_ (i := 24) (N := some 47) (v := ?_) (a' := ?_) (bm 25 33554431) rfl rfl (any_of HT_.out (by kernel_rfl)) (fun _ _ _ h => h) (Or.inl ⟨(by rfl), ?_⟩) ?_ ?_; rotate_left; intro w'; go_simp; with_reducible rfl; rotate_left; simp only [Act.put, List.setIfInBounds_toArray, List.set_cons_zero, List.set_cons_succ, i64_w, i32_w]; rfl
           refine done_ (done_of HT_.out (by kernel_rfl)) ?_
           try go_wp2
           go_meet
           case rel => exact ⟨_, _, m8_, H', ⟨(by have := HJ1.out; have := HK2.out; first | omega | exact Nat.le_refl _)⟩, ⟨m36_⟩, ⟨m30_⟩⟩)
       case rest =>
        clear HC9
        try clear c1
        try clear p1
        try clear q1
        try clear hx1
        try clear p2
        try clear q2
        try clear hx2
        try clear c11
        try clear c13
        try clear c14
        try clear c14b0
        try clear c16
        try clear c17
        try clear p19
        try clear q19
        try clear hx19
        try clear p20
        try clear q20
        try clear hx20
        try clear hx197_0
        try clear hx199_0
        try clear hx200_0
        try clear p197
        try clear p199
        try clear p200
        try clear q197
        try clear q199
        try clear q200
        obtain ⟨kq, x47_8, rfl, HA, HJ8, BK196, HB⟩ := hcut
        cases kq with
        | zero => exact absurd HA.out (by simp [spec_l2StuffsOk.j2])
        | succ kj8 =>
         have H := HA.out
         clear HA
         simp only [spec_l2StuffsOk.j2] at H
         by_cases c21 : x47_8 = true
         ·subst c21
          have H1 : (some false) = some r := by rw [if_pos rfl] at H; exact H
          clear H
          have H := H1
          clear H1
          obtain rfl := Option.some.inj H
          go_wp2
          go_ret
          exact ⟨m6_, m30_⟩
         ·replace c21 := Bool.eq_false_iff.mpr c21
          subst c21
          have H1 : (spec_l2StuffsOk.l0 kj8 (wrap64 (x3_2 + 1)) l0_0 l0_1 l0_2 l0_3) = some r := by rw [if_neg (show ¬ (false = true) by decide)] at H; exact H
          clear H
          have H := H1
          clear H1
          have H' := Aside0.mk H
          clear H
          go_wp2
          go_roundg kj8
          case measure => have := HJ1.out; have := HK2.out; have := HJ8.out; omega
          case rel => exact ⟨(wrap64 (x3_2 + 1)), m8_, H', ⟨(by have := HJ1.out; have := HK2.out; have := HJ8.out; omega)⟩, ⟨m36_⟩, ⟨m30_⟩⟩
      ·rw [if_neg c8] at H
       have c8b0 : decide (x3_2 < (l0_0.length : Int)) = false := decide_eq_false c8
       clear c8
       have H' := Aside0.mk H
       clear H
       obtain ⟨hcz22_0, hcz22_1, hcz22_2, hcz22_3⟩ := cz4_ BK196.out
       obtain ⟨hfz22_0, hfz22_1, hfz22_2, hfz22_3⟩ := fz4_ BK196.out
       go_wp2
       go_loopg [4] k2 (fun kq v4 w' => ∃ (x4_3 : Int), v4 = .int .i64 x4_3 ∧ Aside0 (spec_l2StuffsOk.l1 kq x4_3 l0_0 l0_1 l0_2 l0_3 = some r) ∧ Aside0 (kq ≤ k2) ∧ Aside0 (w'.heap[gb196]? = some (.cells #[(.slice A0_0 l0_0.length c0_0), (.slice A0_1 l0_1.length c0_1), (.slice A0_2 l0_2.length c0_2), (.slice A0_3 l0_3.length c0_3)] 34 (0, 0))) ∧ Aside0 (Below w.heap.size w w'))
       case atStart => exact ⟨(0), m8_, H', ⟨Nat.le_refl _⟩, ⟨m36_⟩, ⟨m30_⟩⟩
       case round =>
        clear H'
        try clear c1
        try clear p1
        try clear q1
        try clear hx1
        try clear c2
        try clear p2
        try clear q2
        try clear hx2
        try clear p6
        try clear c8
        try clear c8b0
        try clear c11
        try clear c13
        try clear c14
        try clear c14b0
        try clear c16
        try clear c17
        try clear p19
        try clear q19
        try clear hx19
        try clear p20
        try clear q20
        try clear hx20
        try clear c21
        try clear hcz22_0
        try clear hcz22_1
        try clear hcz22_2
        try clear hcz22_3
        try clear hfz22_0
        try clear hfz22_1
        try clear hfz22_2
        try clear hfz22_3
        try clear hx197_0
        try clear hx199_0
        try clear hx200_0
        try clear p1
        try clear p19
        try clear p197
        try clear p199
        try clear p2
        try clear p20
        try clear p200
        try clear q1
        try clear q19
        try clear q197
        try clear q199
        try clear q2
        try clear q20
        try clear q200
        obtain ⟨x4_3, rfl, HA, HK3, BK196, HB⟩ := hrel
        cases gk with
        | zero => exact absurd HA.out (by simp [spec_l2StuffsOk.l1])
        | succ k3 =>
         have H := HA.out
         clear HA
         simp only [spec_l2StuffsOk.l1] at H
         by_cases c23 : x4_3 < (l0_1.length : Int)
         ·rw [if_pos c23] at H
          have c23b0 : decide (x4_3 < (l0_1.length : Int)) = true := decide_eq_true c23
          clear c23
          by_cases c24 : 0 ≤ x4_3
          ·rw [if_pos c24] at H
           have c24b0 : decide (0 ≤ x4_3) = true := decide_eq_true c24
           clear c24
           have HC25 := Aside0.mk H
           clear H
           obtain ⟨hcz26_0, hcz26_1, hcz26_2, hcz26_3⟩ := cz4_ BK196.out
           obtain ⟨hfz26_0, hfz26_1, hfz26_2, hfz26_3⟩ := fz4_ BK196.out
           have p201 : 0 ≤ (x4_3 : Int) := of_decide_eq_true m4_
           have q201 : x4_3 < (l0_1.length : Int) := of_decide_eq_true m4_
           obtain ⟨ad201, e201, hx201_0, hx201_1⟩ := at_T105 HR0_1.out x4_3 p201 q201
           cases e201
           replace hx201_0 := (HB.out.cell (World.block_lt_of_cell? w _ hx201_0)).trans hx201_0
           replace hx201_1 := (HB.out.cell (World.block_lt_of_cell? w _ hx201_1)).trans hx201_1
           replace p201 := eq_true p201
           replace q201 := eq_true q201
           go_upto_region 12 with (first | ((with_reducible refine gate_dst (N := 5) rfl ?_); (try (refine gate_guard (by rfl) ?_; dsimp only)); refine box_event ?hg (N := 5) ?hd (cs := #[.string (⟨#[]⟩ : ByteArray), .string (⟨#[]⟩ : ByteArray)]) (t := 105) ?hr ?_; (case hd => rfl); (case hg => rfl); (case hr => first | (go_simp; done) | (go_simp; rfl)); intro gb202 hg w27 hbox hb; have n0_ := Aside0.mk (blk_below (g := gb196) (o := .cells #[.slice A0_0 l0_0.length c0_0, .slice (some ad201) l0_1.length c0_1, .slice A0_2 l0_2.length c0_2, .slice A0_3 l0_3.length c0_3] 34 (0, 0)) m36_ hb); have n1_ := Aside0.mk (below_step m30_ hb); have n2_ := Aside0.mk (hbox); have n3_ := Aside0.mk ((by rw [hg]; exact (below_size m30_) : w.heap.size ≤ gb202)); have n4_ := Aside0.mk ((by rw [hg]; exact (below_size m30_) : w.heap.size ≤ gb202)); have n5_ := Aside0.mk ((by rw [hg]; exact Nat.ne_of_lt (blk_lt (g := gb196) (o := .cells #[.slice A0_0 l0_0.length c0_0, .slice (some ad201) l0_1.length c0_1, .slice A0_2 l0_2.length c0_2, .slice A0_3 l0_3.length c0_3] 34 (0, 0)) m36_) : gb196 ≠ gb202)); have n6_ := Aside0.mk ((by rw [hg]; exact Nat.ne_of_gt (blk_lt (g := gb196) (o := .cells #[.slice A0_0 l0_0.length c0_0, .slice (some ad201) l0_1.length c0_1, .slice A0_2 l0_2.length c0_2, .slice A0_3 l0_3.length c0_3] 34 (0, 0)) m36_) : gb202 ≠ gb196)); clear BK196; clear HB; have BK196 := n0_; have HB := n1_; have BK202 := n2_; have GW202 := n3_; have GE202 := n4_; have NB196_202 := n5_; have NB202_196 := n6_; clear n0_ n1_ n2_ n3_ n4_ n5_ n6_; clear hb hbox hg; have hnb28 := NB202_196.out; have hnc28 := NB196_202.out; obtain ⟨hcz29_0, hcz29_1⟩ := cz2_ BK202.out; obtain ⟨hfz29_0, hfz29_1⟩ := fz2_ BK202.out))
           (try simp only [Act.put, List.setIfInBounds_toArray, List.set_cons_zero, List.set_cons_succ])
           go_cut [95] (fun v95 wc => ∃ (kq : Nat) (x95_24 : Bool), v95 = .bool x95_24 ∧ Aside0 (spec_l2StuffsOk.j4 kq x4_3 x95_24 l0_0 l0_1 l0_2 l0_3 = some r) ∧ Aside0 (kq ≤ k3) ∧ Aside0 (wc.heap[gb196]? = some (.cells #[(.slice A0_0 l0_0.length c0_0), (.slice (some ad201) l0_1.length c0_1), (.slice A0_2 l0_2.length c0_2), (.slice A0_3 l0_3.length c0_3)] 34 (0, 0))) ∧ Aside0 (wc.heap[gb202]? = some (.cells #[.string ((rd_T105 l0_1 x4_3).f0), .string ((rd_T105 l0_1 x4_3).f1)] 105 (0, 0))) ∧ Aside0 (Below w.heap.size w wc))
           case first =>
            have H := HC25.out
            clear HC25
            refine (Classical.em (((Op.bytesLess (((rd_T105 l0_1 x4_3).f0).toList) (((rd_T105 l0_1 x4_3).f1).toList)) = true))).elim (fun c30 => ?yes71) (fun c30 => ?no71)
            case' yes71 =>
             rw [if_pos c30] at H
             have c30b0 : (Op.bytesLess (((rd_T105 l0_1 x4_3).f0).toList) (((rd_T105 l0_1 x4_3).f1).toList)) = true := c30
             clear c30
             (first | rw [c30b0] | (simp only [i64_w, i32_w]; rw [c30b0]) | skip)
             replace H := Option.bind_eq_some_iff.mp H
             obtain ⟨t203, A310, H⟩ := H
             replace H : (if t203 = true then ((spec_l2Has.f k3 l0_0 ((rd_T105 l0_1 x4_3).f1)).bind fun t204 => (if t204 = true then (if x4_3 > 0 then (if 0 ≤ (wrap64 (x4_3 - 1)) then (if (wrap64 (x4_3 - 1)) < (l0_1.length : Int) then ((spec_l2Before.f ((rd_T105 l0_1 (wrap64 (x4_3 - 1))).f0) ((rd_T105 l0_1 (wrap64 (x4_3 - 1))).f1) ((rd_T105 l0_1 x4_3).f0) ((rd_T105 l0_1 x4_3).f1)).bind fun t206 => (spec_l2StuffsOk.j4 k3 x4_3 (!t206) l0_0 l0_1 l0_2 l0_3)) else (none)) else (none)) else (spec_l2StuffsOk.j4 k3 x4_3 false l0_0 l0_1 l0_2 l0_3)) else (spec_l2StuffsOk.j4 k3 x4_3 true l0_0 l0_1 l0_2 l0_3))) else (spec_l2StuffsOk.j4 k3 x4_3 true l0_0 l0_1 l0_2 l0_3)) = some r := H
             have A31 := Aside0.mk A310
             clear A310
             refine (Classical.em (t203 = true)).elim (fun c32 => ?yes72) (fun c32 => ?no72)
             case' yes72 =>
              subst c32
              have H1 : ((spec_l2Has.f k3 l0_0 ((rd_T105 l0_1 x4_3).f1)).bind fun t204 => (if t204 = true then (if x4_3 > 0 then (if 0 ≤ (wrap64 (x4_3 - 1)) then (if (wrap64 (x4_3 - 1)) < (l0_1.length : Int) then ((spec_l2Before.f ((rd_T105 l0_1 (wrap64 (x4_3 - 1))).f0) ((rd_T105 l0_1 (wrap64 (x4_3 - 1))).f1) ((rd_T105 l0_1 x4_3).f0) ((rd_T105 l0_1 x4_3).f1)).bind fun t206 => (spec_l2StuffsOk.j4 k3 x4_3 (!t206) l0_0 l0_1 l0_2 l0_3)) else (none)) else (none)) else (spec_l2StuffsOk.j4 k3 x4_3 false l0_0 l0_1 l0_2 l0_3)) else (spec_l2StuffsOk.j4 k3 x4_3 true l0_0 l0_1 l0_2 l0_3))) = some r := by rw [if_pos rfl] at H; exact H
              clear H
              have H := H1
              clear H1
              replace H := Option.bind_eq_some_iff.mp H
              obtain ⟨t204, A330, H⟩ := H
              replace H : (if t204 = true then (if x4_3 > 0 then (if 0 ≤ (wrap64 (x4_3 - 1)) then (if (wrap64 (x4_3 - 1)) < (l0_1.length : Int) then ((spec_l2Before.f ((rd_T105 l0_1 (wrap64 (x4_3 - 1))).f0) ((rd_T105 l0_1 (wrap64 (x4_3 - 1))).f1) ((rd_T105 l0_1 x4_3).f0) ((rd_T105 l0_1 x4_3).f1)).bind fun t206 => (spec_l2StuffsOk.j4 k3 x4_3 (!t206) l0_0 l0_1 l0_2 l0_3)) else (none)) else (none)) else (spec_l2StuffsOk.j4 k3 x4_3 false l0_0 l0_1 l0_2 l0_3)) else (spec_l2StuffsOk.j4 k3 x4_3 true l0_0 l0_1 l0_2 l0_3)) = some r := H
              have A33 := Aside0.mk A330
              clear A330
              refine (Classical.em (t204 = true)).elim (fun c34 => ?yes73) (fun c34 => ?no73)
              case' yes73 =>
               subst c34
               have H1 : (if x4_3 > 0 then (if 0 ≤ (wrap64 (x4_3 - 1)) then (if (wrap64 (x4_3 - 1)) < (l0_1.length : Int) then ((spec_l2Before.f ((rd_T105 l0_1 (wrap64 (x4_3 - 1))).f0) ((rd_T105 l0_1 (wrap64 (x4_3 - 1))).f1) ((rd_T105 l0_1 x4_3).f0) ((rd_T105 l0_1 x4_3).f1)).bind fun t206 => (spec_l2StuffsOk.j4 k3 x4_3 (!t206) l0_0 l0_1 l0_2 l0_3)) else (none)) else (none)) else (spec_l2StuffsOk.j4 k3 x4_3 false l0_0 l0_1 l0_2 l0_3)) = some r := by rw [if_pos rfl] at H; exact H
               clear H
               have H := H1
               clear H1
               refine (Classical.em (x4_3 > 0)).elim (fun c35 => ?yes74) (fun c35 => ?no74)
               case' yes74 =>
                rw [if_pos c35] at H
                have c35b0 : decide (0 < x4_3) = true := decide_eq_true c35
                clear c35
                obtain ⟨ji36, hji36⟩ : ∃ j_ : Int, (wrap64 (x4_3 - 1)) = j_ := ⟨_, rfl⟩
                replace H : (if 0 ≤ (ji36) then (if (ji36) < (l0_1.length : Int) then ((spec_l2Before.f ((rd_T105 l0_1 (ji36)).f0) ((rd_T105 l0_1 (ji36)).f1) ((rd_T105 l0_1 x4_3).f0) ((rd_T105 l0_1 x4_3).f1)).bind fun t206 => (spec_l2StuffsOk.j4 k3 x4_3 (!t206) l0_0 l0_1 l0_2 l0_3)) else (none)) else (none)) = some r := by first | (rw [hji36] at H; exact H) | (simp only [hji36] at H ⊢; exact H)
                (try rw [hji36] at A31)
                (try rw [hji36] at A33)
                have hji36w : (IntKind.i64.wrap (x4_3 - 1)) = ji36 := (i64_w _).trans hji36
                refine (Classical.em (0 ≤ (ji36))).elim (fun c37 => ?yes75) (fun c37 => ?no75)
                case' yes75 =>
                 rw [if_pos c37] at H
                 have c37b0 : decide (0 ≤ (ji36)) = true := decide_eq_true c37
                 clear c37
                 refine (Classical.em ((ji36) < (l0_1.length : Int))).elim (fun c38 => ?yes76) (fun c38 => ?no76)
                 case' yes76 =>
                  rw [if_pos c38] at H
                  have c38b0 : decide ((ji36) < (l0_1.length : Int)) = true := decide_eq_true c38
                  clear c38
                  replace H := Option.bind_eq_some_iff.mp H
                  obtain ⟨t206, A390, H⟩ := H
                  replace H : (spec_l2StuffsOk.j4 k3 x4_3 (!t206) l0_0 l0_1 l0_2 l0_3) = some r := H
                  have A39 := Aside0.mk A390
                  clear A390
                  have H' := Aside0.mk H
                  clear H
                 case' no76 =>
                  rw [if_neg c38] at H
                  exact absurd H (by simp)
                case' no75 =>
                 rw [if_neg c37] at H
                 exact absurd H (by simp)
               case' no74 =>
                rw [if_neg c35] at H
                have c35b0 : decide (0 < x4_3) = false := decide_eq_false c35
                clear c35
                have H' := Aside0.mk H
                clear H
              case' no73 =>
               replace c34 := Bool.eq_false_iff.mpr c34
               subst c34
               have H1 : (spec_l2StuffsOk.j4 k3 x4_3 true l0_0 l0_1 l0_2 l0_3) = some r := by rw [if_neg (show ¬ (false = true) by decide)] at H; exact H
               clear H
               have H := H1
               clear H1
               have H' := Aside0.mk H
               clear H
             case' no72 =>
              replace c32 := Bool.eq_false_iff.mpr c32
              subst c32
              have H1 : (spec_l2StuffsOk.j4 k3 x4_3 true l0_0 l0_1 l0_2 l0_3) = some r := by rw [if_neg (show ¬ (false = true) by decide)] at H; exact H
              clear H
              have H := H1
              clear H1
              have H' := Aside0.mk H
              clear H
            case' no71 =>
             rw [if_neg c30] at H
             have c30b0 : (Op.bytesLess (((rd_T105 l0_1 x4_3).f0).toList) (((rd_T105 l0_1 x4_3).f1).toList)) = false := by simpa using c30
             clear c30
             (first | rw [c30b0] | (simp only [i64_w, i32_w]; rw [c30b0]) | skip)
             have H' := Aside0.mk H
             clear H
            all_goals
             first
              | (
               try go_wp2
               have n0_ : Aside0 (((w27.setCell ⟨gb202, 0, none⟩ (.string ((rd_T105 l0_1 x4_3).f0))).setCell ⟨gb202, 1, none⟩ (.string ((rd_T105 l0_1 x4_3).f1))).heap[gb196]? = some (.cells #[.slice A0_0 l0_0.length c0_0, .slice (some ad201) l0_1.length c0_1, .slice A0_2 l0_2.length c0_2, .slice A0_3 l0_3.length c0_3] 34 (0, 0))) := ⟨m120_⟩
               have n1_ : Aside0 (((w27.setCell ⟨gb202, 0, none⟩ (.string ((rd_T105 l0_1 x4_3).f0))).setCell ⟨gb202, 1, none⟩ (.string ((rd_T105 l0_1 x4_3).f1))).heap[gb202]? = some (.cells #[.string ((rd_T105 l0_1 x4_3).f0), .string ((rd_T105 l0_1 x4_3).f1)] 105 (0, 0))) := ⟨m95_⟩
               have n2_ : Aside0 (Below w.heap.size w ((w27.setCell ⟨gb202, 0, none⟩ (.string ((rd_T105 l0_1 x4_3).f0))).setCell ⟨gb202, 1, none⟩ (.string ((rd_T105 l0_1 x4_3).f1)))) := ⟨m35_⟩
               (try clear BK196)
               (try clear BK202)
               (try clear HB)
               generalize ((w27.setCell ⟨gb202, 0, none⟩ (.string ((rd_T105 l0_1 x4_3).f0))).setCell ⟨gb202, 1, none⟩ (.string ((rd_T105 l0_1 x4_3).f1))) = w40 at n0_ n1_ n2_ ⊢
               have BK196 := n0_
               have BK202 := n1_
               have HB := n2_
               clear n0_ n1_ n2_
               have n0_ := Aside0.mk (blk_drew BK196.out)
               have n1_ := Aside0.mk (blk_drew BK202.out)
               have n2_ := Aside0.mk (below_drew1 HB.out)
               clear BK196
               clear BK202
               clear HB
               have BK196 := n0_
               have BK202 := n1_
               have HB := n2_
               clear n0_ n1_ n2_
               have p205 : 0 ≤ ((ji36) : Int) := of_decide_eq_true m4_
               have q205 : (ji36) < (l0_1.length : Int) := of_decide_eq_true m4_
               obtain ⟨ad205, e205, hx205_0, hx205_1⟩ := at_T105 HR0_1.out (ji36) p205 q205
               have hw205_1 := hx205_1
               have hw205_0 := hx205_0
               obtain rfl : ad201 = ad205 := (by injection e205)
               replace hx205_0 := (HB.out.cell (World.block_lt_of_cell? w _ hx205_0)).trans hx205_0
               replace hx205_1 := (HB.out.cell (World.block_lt_of_cell? w _ hx205_1)).trans hx205_1
               replace p205 := eq_true p205
               replace q205 := eq_true q205
               refine start_ (n := 36) (S := fun w' => w'.cell? ⟨gb202, 0, none⟩ = some (.string ((rd_T105 l0_1 x4_3).f0)) ∧ w'.cell? ⟨gb202, 1, none⟩ = some (.string ((rd_T105 l0_1 x4_3).f1)) ∧ w'.cell? ⟨gb196, 0, none⟩ = some (.slice A0_0 l0_0.length c0_0) ∧ w'.cell? ⟨gb196, 1, none⟩ = some (.slice (some ad201) l0_1.length c0_1) ∧ w'.cell? ⟨gb196, 2, none⟩ = some (.slice A0_2 l0_2.length c0_2) ∧ w'.cell? ⟨gb196, 3, none⟩ = some (.slice A0_3 l0_3.length c0_3) ∧ w'.cell? (ad201.add (((ji36)).toNat * 2)) = some (.string ((rd_T105 l0_1 (ji36)).f0)) ∧ w'.cell? ⟨(ad201.add (((ji36)).toNat * 2)).block, (ad201.add (((ji36)).toNat * 2)).off + 1, none⟩ = some (.string ((rd_T105 l0_1 (ji36)).f1))) (ds := []) (bm 36 0) (by kernel_rfl) rfl rfl ⟨(blk_cell BK202.out 0).trans rfl, (blk_cell BK202.out 1).trans rfl, (blk_cell BK196.out 0).trans rfl, (blk_cell BK196.out 1).trans rfl, (blk_cell BK196.out 2).trans rfl, (blk_cell BK196.out 3).trans rfl, ((HB.out.cell (World.block_lt_of_cell? w _ hw205_0)).trans hw205_0), ((HB.out.cell (World.block_lt_of_cell? w _ hw205_1)).trans hw205_1)⟩ (fun hHeld => ?_); refine with_tabW spec_l2StuffsOk.tab12 spec_l2StuffsOk.bits12 (fun HT_ HW_ => ?_)
               generalize w40.drew = w41 at BK196 BK202 HB hx205_0 hx205_1 hHeld ⊢
               refine pure_ (i := 0) (N := some 60) (v := ?_) (a' := ?_) (bm 36 1) rfl rfl (any_of HT_.out (by kernel_rfl)) (fun _ _ _ h => h) (Or.inl ⟨(by rfl), ?_⟩) ?_ ?_; rotate_left; intro w'; go_simp; with_reducible rfl; rotate_left; simp only [Act.put, List.setIfInBounds_toArray, List.set_cons_zero, List.set_cons_succ, i64_w, i32_w]; rfl
               refine pure_ (i := 2) (N := some 62) (v := ?_) (a' := ?_) (bm 36 5) rfl rfl (any_of HT_.out (by kernel_rfl)) (fun _ _ _ h => h) (Or.inl ⟨(by rfl), ?_⟩) ?_ ?_; rotate_left; intro w'; go_simp; with_reducible rfl; rotate_left; simp only [Act.put, List.setIfInBounds_toArray, List.set_cons_zero, List.set_cons_succ, i64_w, i32_w]; rfl
               refine take_ (i := 1) (N := some 61) (v := ?_) (a' := ?_) (bm 36 7) rfl rfl (take_ofW HT_.out HW_.out (by kernel_rfl)) (fun _ _ _ h => h) (Or.inl ⟨(by rfl), ?_⟩) hHeld ?_ ?_; rotate_left; rintro w' ⟨s0, s1, s2, s3, s4, s5, s6, s7⟩; go_simp; with_reducible rfl; rotate_left; simp only [Act.put, List.setIfInBounds_toArray, List.set_cons_zero, List.set_cons_succ, i64_w, i32_w]; rfl
               refine take_ (i := 3) (N := some 63) (v := ?_) (a' := ?_) (bm 36 15) rfl rfl (take_ofW HT_.out HW_.out (by kernel_rfl)) (fun _ _ _ h => h) (Or.inl ⟨(by rfl), ?_⟩) hHeld ?_ ?_; rotate_left; rintro w' ⟨s0, s1, s2, s3, s4, s5, s6, s7⟩; go_simp; with_reducible rfl; rotate_left; simp only [Act.put, List.setIfInBounds_toArray, List.set_cons_zero, List.set_cons_succ, i64_w, i32_w]; rfl
               refine pure_ (i := 4) (N := some 64) (v := ?_) (a' := ?_) (bm 36 31) rfl rfl (any_of HT_.out (by kernel_rfl)) (fun _ _ _ h => h) (Or.inl ⟨(by rfl), ?_⟩) ?_ ?_; rotate_left; intro w'; go_simp; with_reducible rfl; rotate_left; simp only [Act.put, List.setIfInBounds_toArray, List.set_cons_zero, List.set_cons_succ, i64_w, i32_w]; rfl
               refine pure_ (i := 5) (N := some 65) (v := ?_) (a' := ?_) (bm 36 63) rfl rfl (any_of HT_.out (by kernel_rfl)) (fun _ _ _ h => h) (Or.inl ⟨(by rfl), ?_⟩) ?_ ?_; rotate_left; intro w'; go_simp; with_reducible rfl; rotate_left; simp only [Act.put, List.setIfInBounds_toArray, List.set_cons_zero, List.set_cons_succ, i64_w, i32_w]; rfl
               refine pure_ (i := 6) (N := some 66) (v := ?_) (a' := ?_) (bm 36 127) rfl rfl (any_of HT_.out (by kernel_rfl)) (fun _ _ _ h => h) (Or.inl ⟨(by rfl), ?_⟩) ?_ ?_; rotate_left; intro w'; go_simp; with_reducible rfl; rotate_left; simp only [Act.put, List.setIfInBounds_toArray, List.set_cons_zero, List.set_cons_succ, i64_w, i32_w]; rfl
               refine pure_ (i := 8) (N := some 68) (v := ?_) (a' := ?_) (bm 36 383) rfl rfl (any_of HT_.out (by kernel_rfl)) (fun _ _ _ h => h) (Or.inl ⟨(by rfl), ?_⟩) ?_ ?_; rotate_left; intro w'; go_simp; with_reducible rfl; rotate_left; simp only [Act.put, List.setIfInBounds_toArray, List.set_cons_zero, List.set_cons_succ, i64_w, i32_w]; rfl
               refine take_ (i := 7) (N := some 67) (v := ?_) (a' := ?_) (bm 36 511) rfl rfl (take_ofW HT_.out HW_.out (by kernel_rfl)) (fun _ _ _ h => h) (Or.inl ⟨(by rfl), ?_⟩) hHeld ?_ ?_; rotate_left; rintro w' ⟨s0, s1, s2, s3, s4, s5, s6, s7⟩; go_simp; with_reducible rfl; rotate_left; simp only [Act.put, List.setIfInBounds_toArray, List.set_cons_zero, List.set_cons_succ, i64_w, i32_w]; rfl
               refine take_ (i := 9) (N := some 69) (v := ?_) (a' := ?_) (bm 36 1023) rfl rfl (take_ofW HT_.out HW_.out (by kernel_rfl)) (fun _ _ _ h => h) (Or.inl ⟨(by rfl), ?_⟩) hHeld ?_ ?_; rotate_left; rintro w' ⟨s0, s1, s2, s3, s4, s5, s6, s7⟩; go_simp; with_reducible rfl; rotate_left; simp only [Act.put, List.setIfInBounds_toArray, List.set_cons_zero, List.set_cons_succ, i64_w, i32_w]; rfl
               refine one_ (i := 10) (N := some 70) (bm 36 2047) rfl rfl (one_of HT_.out (by kernel_rfl)) (by decide) (fun K hK => ?_)
               refine goes_ Try.func90 (by kernel_rfl) rfl #[.slice A0_0 l0_0.length c0_0, .string ((rd_T105 l0_1 x4_3).f0)] (by rfl) rfl rfl m3_ ?_
               with_reducible refine (spec_l2Has.calls k3 _ _ l0_0 ((rd_T105 l0_1 x4_3).f0) _ _ ?side1 ?side2 (Aside0.out (by assumption))).mono ?_
               (case side1 => exact m7_)
               (case side2 => exact HC0_0.out)
               rintro e w' ⟨rfl, ⟨nd, rfl⟩⟩
               refine ⟨_, rfl, ?_⟩
               refine hK.out _ _ ⟨(blk_cell BK202.out 0).trans rfl, (blk_cell BK202.out 1).trans rfl, (blk_cell BK196.out 0).trans rfl, (blk_cell BK196.out 1).trans rfl, (blk_cell BK196.out 2).trans rfl, (blk_cell BK196.out 3).trans rfl, ((HB.out.cell (World.block_lt_of_cell? w _ hw205_0)).trans hw205_0), ((HB.out.cell (World.block_lt_of_cell? w _ hw205_1)).trans hw205_1)⟩ (fun hHeld => ?_)
               clear hK K
               refine no_ ?_
               refine pure_ (i := 11) (N := some 71) (v := ?_) (a' := ?_) (bm 36 4095) rfl rfl (any_of HT_.out (by kernel_rfl)) (fun _ _ _ h => h) (Or.inl ⟨(by rfl), ?_⟩) ?_ ?_; rotate_left; intro w'; go_simp; with_reducible rfl; rotate_left; simp only [Act.put, List.setIfInBounds_toArray, List.set_cons_zero, List.set_cons_succ, i64_w, i32_w]; rfl
               refine pure_ (i := 12) (N := some 72) (v := ?_) (a' := ?_) (bm 36 8191) rfl rfl (any_of HT_.out (by kernel_rfl)) (fun _ _ _ h => h) (Or.inl ⟨(by rfl), ?_⟩) ?_ ?_; rotate_left; intro w'; go_simp; with_reducible rfl; rotate_left; simp only [Act.put, List.setIfInBounds_toArray, List.set_cons_zero, List.set_cons_succ, i64_w, i32_w]; rfl
               refine pure_ (i := 13) (N := some 73) (v := ?_) (a' := ?_) (bm 36 16383) rfl rfl (any_of HT_.out (by kernel_rfl)) (fun _ _ _ h => h) (Or.inl ⟨(by rfl), ?_⟩) ?_ ?_; rotate_left; intro w'; go_simp; with_reducible rfl; rotate_left; simp only [Act.put, List.setIfInBounds_toArray, List.set_cons_zero, List.set_cons_succ, i64_w, i32_w]; rfl
               refine pure_ (i := 14) (N := some 74) (v := ?_) (a' := ?_) (bm 36 32767) rfl rfl (any_of HT_.out (by kernel_rfl)) (fun _ _ _ h => h) (Or.inl ⟨(by rfl), ?_⟩) ?_ ?_; rotate_left; intro w'; go_simp; with_reducible rfl; rotate_left; simp only [Act.put, List.setIfInBounds_toArray, List.set_cons_zero, List.set_cons_succ, i64_w, i32_w]; rfl
               refine pure_ (i := 16) (N := some 76) (v := ?_) (a' := ?_) (bm 36 98303) rfl rfl (any_of HT_.out (by kernel_rfl)) (fun _ _ _ h => h) (Or.inl ⟨(by rfl), ?_⟩) ?_ ?_; rotate_left; intro w'; go_simp; with_reducible rfl; rotate_left; simp only [Act.put, List.setIfInBounds_toArray, List.set_cons_zero, List.set_cons_succ, i64_w, i32_w]; rfl
               refine take_ (i := 15) (N := some 75) (v := ?_) (a' := ?_) (bm 36 131071) rfl rfl (take_ofW HT_.out HW_.out (by kernel_rfl)) (fun _ _ _ h => h) (Or.inl ⟨(by rfl), ?_⟩) hHeld ?_ ?_; rotate_left; rintro w' ⟨s0, s1, s2, s3, s4, s5, s6, s7⟩; go_simp; with_reducible rfl; rotate_left; simp only [Act.put, List.setIfInBounds_toArray, List.set_cons_zero, List.set_cons_succ, i64_w, i32_w]; rfl
               refine take_ (i := 17) (N := some 77) (v := ?_) (a' := ?_) (bm 36 262143) rfl rfl (take_ofW HT_.out HW_.out (by kernel_rfl)) (fun _ _ _ h => h) (Or.inl ⟨(by rfl), ?_⟩) hHeld ?_ ?_; rotate_left; rintro w' ⟨s0, s1, s2, s3, s4, s5, s6, s7⟩; go_simp; with_reducible rfl; rotate_left; simp only [Act.put, List.setIfInBounds_toArray, List.set_cons_zero, List.set_cons_succ, i64_w, i32_w]; rfl
               refine one_ (i := 18) (N := some 78) (bm 36 524287) rfl rfl (one_of HT_.out (by kernel_rfl)) (by decide) (fun K hK => ?_)
               refine goes_ Try.func90 (by kernel_rfl) rfl #[.slice A0_0 l0_0.length c0_0, .string ((rd_T105 l0_1 x4_3).f1)] (by rfl) rfl rfl m3_ ?_
               with_reducible refine (spec_l2Has.calls k3 _ _ l0_0 ((rd_T105 l0_1 x4_3).f1) _ _ ?side1 ?side2 (Aside0.out (by assumption))).mono ?_
               (case side1 => exact (by repeat (first | exact (Kd.C_below HR0_0.out m35_) | (with_reducible refine Kd.C_alloc ?_ _) | (with_reducible refine Kd.C_drewN ?_ _) | (with_reducible refine Kd.C_drew ?_))))
               (case side2 => exact HC0_0.out)
               rintro e w' ⟨rfl, ⟨nd, rfl⟩⟩
               refine ⟨_, rfl, ?_⟩
               refine hK.out _ _ ⟨(blk_cell BK202.out 0).trans rfl, (blk_cell BK202.out 1).trans rfl, (blk_cell BK196.out 0).trans rfl, (blk_cell BK196.out 1).trans rfl, (blk_cell BK196.out 2).trans rfl, (blk_cell BK196.out 3).trans rfl, ((HB.out.cell (World.block_lt_of_cell? w _ hw205_0)).trans hw205_0), ((HB.out.cell (World.block_lt_of_cell? w _ hw205_1)).trans hw205_1)⟩ (fun hHeld => ?_)
               clear hK K
               refine no_ ?_
               refine pure_ (i := 19) (N := some 79) (v := ?_) (a' := ?_) (bm 36 1048575) rfl rfl (any_of HT_.out (by kernel_rfl)) (fun _ _ _ h => h) (Or.inl ⟨(by rfl), ?_⟩) ?_ ?_; rotate_left; intro w'; go_simp; with_reducible rfl; rotate_left; simp only [Act.put, List.setIfInBounds_toArray, List.set_cons_zero, List.set_cons_succ, i64_w, i32_w]; rfl
               refine pure_ (i := 20) (N := some 80) (v := ?_) (a' := ?_) (bm 36 2097151) rfl rfl (any_of HT_.out (by kernel_rfl)) (fun _ _ _ h => h) (Or.inl ⟨(by rfl), ?_⟩) ?_ ?_; rotate_left; intro w'; go_simp; with_reducible rfl; rotate_left; simp only [Act.put, List.setIfInBounds_toArray, List.set_cons_zero, List.set_cons_succ, i64_w, i32_w]; rfl
               refine pure_ (i := 21) (N := some 81) (v := ?_) (a' := ?_) (bm 36 4194303) rfl rfl (any_of HT_.out (by kernel_rfl)) (fun _ _ _ h => h) (Or.inl ⟨(by rfl), ?_⟩) ?_ ?_; rotate_left; intro w'; go_simp; with_reducible rfl; rotate_left; simp only [Act.put, List.setIfInBounds_toArray, List.set_cons_zero, List.set_cons_succ, i64_w, i32_w]; rfl
               refine pure_ (i := 22) (N := some 82) (v := ?_) (a' := ?_) (bm 36 8388607) rfl rfl (any_of HT_.out (by kernel_rfl)) (fun _ _ _ h => h) (Or.inl ⟨(by rfl), ?_⟩) ?_ ?_; rotate_left; intro w'; go_simp; with_reducible rfl; rotate_left; simp only [Act.put, List.setIfInBounds_toArray, List.set_cons_zero, List.set_cons_succ, i64_w, i32_w]; rfl
               refine pure_ (i := 23) (N := some 83) (v := ?_) (a' := ?_) (bm 36 16777215) rfl rfl (any_of HT_.out (by kernel_rfl)) (fun _ _ _ h => h) (Or.inl ⟨(by rfl), ?_⟩) ?_ ?_; rotate_left; intro w'; go_simp; with_reducible rfl; rotate_left; simp only [Act.put, List.setIfInBounds_toArray, List.set_cons_zero, List.set_cons_succ, i64_w, i32_w]; rfl
               refine pure_ (i := 24) (N := some 84) (v := ?_) (a' := ?_) (bm 36 33554431) rfl rfl (any_of HT_.out (by kernel_rfl)) (fun _ _ _ h => h) (Or.inl ⟨(by rfl), ?_⟩) ?_ ?_; rotate_left; intro w'; go_simp; with_reducible rfl; rotate_left; simp only [Act.put, List.setIfInBounds_toArray, List.set_cons_zero, List.set_cons_succ, i64_w, i32_w]; rfl
               refine pure_ (i := 25) (N := some 85) (v := ?_) (a' := ?_) (bm 36 67108863) rfl rfl (any_of HT_.out (by kernel_rfl)) (fun _ _ _ h => h) (Or.inl ⟨(by rfl), ?_⟩) ?_ ?_; rotate_left; intro w'; go_simp; with_reducible rfl; rotate_left; simp only [Act.put, List.setIfInBounds_toArray, List.set_cons_zero, List.set_cons_succ, i64_w, i32_w]; rfl
               refine pure_ (i := 27) (N := some 87) (v := ?_) (a' := ?_) (bm 36 201326591) rfl rfl (any_of HT_.out (by kernel_rfl)) (fun _ _ _ h => h) (Or.inl ⟨(by rfl), ?_⟩) ?_ ?_; rotate_left; intro w'; go_simp; with_reducible rfl; rotate_left; simp only [Act.put, List.setIfInBounds_toArray, List.set_cons_zero, List.set_cons_succ, i64_w, i32_w]; rfl
               refine pure_ (i := 28) (N := some 88) (v := ?_) (a' := ?_) (bm 36 469762047) rfl rfl (any_of HT_.out (by kernel_rfl)) (fun _ _ _ h => h) (Or.inl ⟨(by rfl), ?_⟩) ?_ ?_; rotate_left; intro w'; go_simp; with_reducible rfl; rotate_left; simp only [Act.put, List.setIfInBounds_toArray, List.set_cons_zero, List.set_cons_succ, i64_w, i32_w]; rfl
               refine take_ (i := 26) (N := some 86) (v := ?_) (a' := ?_) (bm 36 536870911) rfl rfl (take_ofW HT_.out HW_.out (by kernel_rfl)) (fun _ _ _ h => h) (Or.inl ⟨(by rfl), ?_⟩) hHeld ?_ ?_; rotate_left; rintro w' ⟨s0, s1, s2, s3, s4, s5, s6, s7⟩; go_simp; with_reducible rfl; rotate_left; simp only [Act.put, List.setIfInBounds_toArray, List.set_cons_zero, List.set_cons_succ, i64_w, i32_w]; rfl
               refine pure_ (i := 29) (N := some 89) (v := ?_) (a' := ?_) (bm 36 1073741823) rfl rfl (any_of HT_.out (by kernel_rfl)) (fun _ _ _ h => h) (Or.inl ⟨(by rfl), ?_⟩) ?_ ?_; rotate_left; intro w'; go_simp; with_reducible rfl; rotate_left; simp only [Act.put, List.setIfInBounds_toArray, List.set_cons_zero, List.set_cons_succ, i64_w, i32_w]; rfl
               refine take_ (i := 30) (N := some 90) (v := ?_) (a' := ?_) (bm 36 2147483647) rfl rfl (take_ofW HT_.out HW_.out (by kernel_rfl)) (fun _ _ _ h => h) (Or.inl ⟨(by rfl), ?_⟩) hHeld ?_ ?_; rotate_left; rintro w' ⟨s0, s1, s2, s3, s4, s5, s6, s7⟩; go_simp; with_reducible rfl; rotate_left; simp only [Act.put, List.setIfInBounds_toArray, List.set_cons_zero, List.set_cons_succ, i64_w, i32_w]; rfl
               refine take_ (i := 31) (N := some 91) (v := ?_) (a' := ?_) (bm 36 4294967295) rfl rfl (take_ofW HT_.out HW_.out (by kernel_rfl)) (fun _ _ _ h => h) (Or.inl ⟨(by rfl), ?_⟩) hHeld ?_ ?_; rotate_left; rintro w' ⟨s0, s1, s2, s3, s4, s5, s6, s7⟩; go_simp; with_reducible rfl; rotate_left; simp only [Act.put, List.setIfInBounds_toArray, List.set_cons_zero, List.set_cons_succ, i64_w, i32_w]; rfl
               refine one_ (i := 32) (N := some 92) (bm 36 8589934591) rfl rfl (one_of HT_.out (by kernel_rfl)) (by decide) (fun K hK => ?_)
               refine goes_ Try.func120 (by kernel_rfl) rfl #[.agg #[.string ((rd_T105 l0_1 (ji36)).f0), .string ((rd_T105 l0_1 (ji36)).f1)], .agg #[.string ((rd_T105 l0_1 x4_3).f0), .string ((rd_T105 l0_1 x4_3).f1)]] (by rfl) rfl rfl (by (try simp only [List.map_toArray, List.map_cons, List.map_nil]); first | done | (simp only [hji36]; rfl) | rfl | (simp only [List.length_drop, List.length_take]; rfl)) ?_
               with_reducible refine (spec_l2Before.calls ((rd_T105 l0_1 (ji36)).f0) ((rd_T105 l0_1 (ji36)).f1) ((rd_T105 l0_1 x4_3).f0) ((rd_T105 l0_1 x4_3).f1) _ _ (Aside0.out (by assumption))).mono ?_
               rintro e w42 ⟨rfl, hb⟩
               refine ⟨_, rfl, ?_⟩
               have n0_ := Aside0.mk (blk_below (g := gb196) (o := .cells #[.slice A0_0 l0_0.length c0_0, .slice (some ad201) l0_1.length c0_1, .slice A0_2 l0_2.length c0_2, .slice A0_3 l0_3.length c0_3] 34 (0, 0)) m36_ hb)
               have n1_ := Aside0.mk (blk_below (g := gb202) (o := .cells #[.string ((rd_T105 l0_1 x4_3).f0), .string ((rd_T105 l0_1 x4_3).f1)] 105 (0, 0)) m147_ hb)
               have n2_ := Aside0.mk (below_step m35_ hb)
               clear BK196
               clear BK202
               clear HB
               have BK196 := n0_
               have BK202 := n1_
               have HB := n2_
               clear n0_ n1_ n2_
               (try clear hb)
               (try clear hb2)
               (try clear hk)
               (try clear hi)
               refine hK.out _ _ ⟨(blk_cell BK202.out 0).trans rfl, (blk_cell BK202.out 1).trans rfl, (blk_cell BK196.out 0).trans rfl, (blk_cell BK196.out 1).trans rfl, (blk_cell BK196.out 2).trans rfl, (blk_cell BK196.out 3).trans rfl, ((HB.out.cell (World.block_lt_of_cell? w _ hw205_0)).trans hw205_0), ((HB.out.cell (World.block_lt_of_cell? w _ hw205_1)).trans hw205_1)⟩ (fun hHeld => ?_)
               clear hK K
               refine no_ ?_
               refine pure_ (i := 33) (N := some 93) (v := ?_) (a' := ?_) (bm 36 17179869183) rfl rfl (any_of HT_.out (by kernel_rfl)) (fun _ _ _ h => h) (Or.inl ⟨(by rfl), ?_⟩) ?_ ?_; rotate_left; intro w'; go_simp; with_reducible rfl; rotate_left; simp only [Act.put, List.setIfInBounds_toArray, List.set_cons_zero, List.set_cons_succ, i64_w, i32_w]; rfl
               refine pure_ (i := 34) (N := some 94) (v := ?_) (a' := ?_) (bm 36 34359738367) rfl rfl (any_of HT_.out (by kernel_rfl)) (fun _ _ _ h => h) (Or.inl ⟨(by rfl), ?_⟩) ?_ ?_; rotate_left; intro w'; go_simp; with_reducible rfl; rotate_left; simp only [Act.put, List.setIfInBounds_toArray, List.set_cons_zero, List.set_cons_succ, i64_w, i32_w]; rfl
               refine pure_ (i := 35) (N := some 95) (v := ?_) (a' := ?_) (bm 36 68719476735) rfl rfl (any_of HT_.out (by kernel_rfl)) (fun _ _ _ h => h) (Or.inl ⟨(by rfl), ?_⟩) ?_ ?_; rotate_left; intro w'; go_simp; with_reducible rfl; rotate_left; simp only [Act.put, List.setIfInBounds_toArray, List.set_cons_zero, List.set_cons_succ, i64_w, i32_w]; rfl
               refine done_ (done_of HT_.out (by kernel_rfl)) ?_
               try go_wp2
               go_meet
               case rel => exact ⟨_, _, m8_, H', ⟨m124_⟩, ⟨m36_⟩, ⟨m147_⟩, ⟨m35_⟩⟩)
              | (
               try go_wp2
               have n0_ : Aside0 (((w27.setCell ⟨gb202, 0, none⟩ (.string ((rd_T105 l0_1 x4_3).f0))).setCell ⟨gb202, 1, none⟩ (.string ((rd_T105 l0_1 x4_3).f1))).heap[gb196]? = some (.cells #[.slice A0_0 l0_0.length c0_0, .slice (some ad201) l0_1.length c0_1, .slice A0_2 l0_2.length c0_2, .slice A0_3 l0_3.length c0_3] 34 (0, 0))) := ⟨m120_⟩
               have n1_ : Aside0 (((w27.setCell ⟨gb202, 0, none⟩ (.string ((rd_T105 l0_1 x4_3).f0))).setCell ⟨gb202, 1, none⟩ (.string ((rd_T105 l0_1 x4_3).f1))).heap[gb202]? = some (.cells #[.string ((rd_T105 l0_1 x4_3).f0), .string ((rd_T105 l0_1 x4_3).f1)] 105 (0, 0))) := ⟨m95_⟩
               have n2_ : Aside0 (Below w.heap.size w ((w27.setCell ⟨gb202, 0, none⟩ (.string ((rd_T105 l0_1 x4_3).f0))).setCell ⟨gb202, 1, none⟩ (.string ((rd_T105 l0_1 x4_3).f1)))) := ⟨m35_⟩
               (try clear BK196)
               (try clear BK202)
               (try clear HB)
               generalize ((w27.setCell ⟨gb202, 0, none⟩ (.string ((rd_T105 l0_1 x4_3).f0))).setCell ⟨gb202, 1, none⟩ (.string ((rd_T105 l0_1 x4_3).f1))) = w43 at n0_ n1_ n2_ ⊢
               have BK196 := n0_
               have BK202 := n1_
               have HB := n2_
               clear n0_ n1_ n2_
               have n0_ := Aside0.mk (blk_drew BK196.out)
               have n1_ := Aside0.mk (blk_drew BK202.out)
               have n2_ := Aside0.mk (below_drew1 HB.out)
               clear BK196
               clear BK202
               clear HB
               have BK196 := n0_
               have BK202 := n1_
               have HB := n2_
               clear n0_ n1_ n2_
               refine start_ (n := 36) (S := fun w' => w'.cell? ⟨gb202, 0, none⟩ = some (.string ((rd_T105 l0_1 x4_3).f0)) ∧ w'.cell? ⟨gb202, 1, none⟩ = some (.string ((rd_T105 l0_1 x4_3).f1)) ∧ w'.cell? ⟨gb196, 0, none⟩ = some (.slice A0_0 l0_0.length c0_0) ∧ w'.cell? ⟨gb196, 1, none⟩ = some (.slice (some ad201) l0_1.length c0_1) ∧ w'.cell? ⟨gb196, 2, none⟩ = some (.slice A0_2 l0_2.length c0_2) ∧ w'.cell? ⟨gb196, 3, none⟩ = some (.slice A0_3 l0_3.length c0_3)) (ds := []) (bm 36 0) (by kernel_rfl) rfl rfl ⟨(blk_cell BK202.out 0).trans rfl, (blk_cell BK202.out 1).trans rfl, (blk_cell BK196.out 0).trans rfl, (blk_cell BK196.out 1).trans rfl, (blk_cell BK196.out 2).trans rfl, (blk_cell BK196.out 3).trans rfl⟩ (fun hHeld => ?_); refine with_tabW spec_l2StuffsOk.tab12 spec_l2StuffsOk.bits12 (fun HT_ HW_ => ?_)
               generalize w43.drew = w44 at BK196 BK202 HB hHeld ⊢
               refine pure_ (i := 0) (N := some 60) (v := ?_) (a' := ?_) (bm 36 1) rfl rfl (any_of HT_.out (by kernel_rfl)) (fun _ _ _ h => h) (Or.inl ⟨(by rfl), ?_⟩) ?_ ?_; rotate_left; intro w'; go_simp; with_reducible rfl; rotate_left; simp only [Act.put, List.setIfInBounds_toArray, List.set_cons_zero, List.set_cons_succ, i64_w, i32_w]; rfl
               refine pure_ (i := 2) (N := some 62) (v := ?_) (a' := ?_) (bm 36 5) rfl rfl (any_of HT_.out (by kernel_rfl)) (fun _ _ _ h => h) (Or.inl ⟨(by rfl), ?_⟩) ?_ ?_; rotate_left; intro w'; go_simp; with_reducible rfl; rotate_left; simp only [Act.put, List.setIfInBounds_toArray, List.set_cons_zero, List.set_cons_succ, i64_w, i32_w]; rfl
               first
                | (
                 refine take_ (i := 1) (N := some 61) (v := ?_) (a' := ?_) (bm 36 7) rfl rfl (take_ofW HT_.out HW_.out (by kernel_rfl)) (fun _ _ _ h => h) (Or.inl ⟨rfl, ?_⟩) hHeld ?_ ?_
                 rotate_left
                 ·rintro w' ⟨s0, s1, s2, s3, s4, s5⟩
                  go_simp
                  with_reducible rfl
                 rotate_left
                 ·simp only [Act.put, List.setIfInBounds_toArray, List.set_cons_zero, List.set_cons_succ, i64_w, i32_w]
                  rfl)
                | (
                 refine take_ (i := 1) (N := some 61) (v := ?_) (a' := ?_) (bm 36 7) rfl rfl (take_ofW HT_.out HW_.out (by kernel_rfl)) (fun _ _ _ h => h) (Or.inl ⟨rfl, ?_⟩) hHeld ?_ ?_
                 rotate_left
                 ·rintro w' ⟨s0, s1⟩
                  go_simp
                  with_reducible rfl
                 rotate_left
                 ·simp only [Act.put, List.setIfInBounds_toArray, List.set_cons_zero, List.set_cons_succ, i64_w, i32_w]
                  rfl)
               first
                | (
                 refine take_ (i := 3) (N := some 63) (v := ?_) (a' := ?_) (bm 36 15) rfl rfl (take_ofW HT_.out HW_.out (by kernel_rfl)) (fun _ _ _ h => h) (Or.inl ⟨rfl, ?_⟩) hHeld ?_ ?_
                 rotate_left
                 ·rintro w' ⟨s0, s1, s2, s3, s4, s5⟩
                  go_simp
                  with_reducible rfl
                 rotate_left
                 ·simp only [Act.put, List.setIfInBounds_toArray, List.set_cons_zero, List.set_cons_succ, i64_w, i32_w]
                  rfl)
                | (
                 refine take_ (i := 3) (N := some 63) (v := ?_) (a' := ?_) (bm 36 15) rfl rfl (take_ofW HT_.out HW_.out (by kernel_rfl)) (fun _ _ _ h => h) (Or.inl ⟨rfl, ?_⟩) hHeld ?_ ?_
                 rotate_left
                 ·rintro w' ⟨s0, s1⟩
                  go_simp
                  with_reducible rfl
                 rotate_left
                 ·simp only [Act.put, List.setIfInBounds_toArray, List.set_cons_zero, List.set_cons_succ, i64_w, i32_w]
                  rfl)
               refine pure_ (i := 4) (N := some 64) (v := ?_) (a' := ?_) (bm 36 31) rfl rfl (any_of HT_.out (by kernel_rfl)) (fun _ _ _ h => h) (Or.inl ⟨(by rfl), ?_⟩) ?_ ?_; rotate_left; intro w'; go_simp; with_reducible rfl; rotate_left; simp only [Act.put, List.setIfInBounds_toArray, List.set_cons_zero, List.set_cons_succ, i64_w, i32_w]; rfl
               refine pure_ (i := 5) (N := some 65) (v := ?_) (a' := ?_) (bm 36 63) rfl rfl (any_of HT_.out (by kernel_rfl)) (fun _ _ _ h => h) (Or.inl ⟨(by rfl), ?_⟩) ?_ ?_; rotate_left; intro w'; go_simp; with_reducible rfl; rotate_left; simp only [Act.put, List.setIfInBounds_toArray, List.set_cons_zero, List.set_cons_succ, i64_w, i32_w]; rfl
               first
                | (
                 refine pure_ (i := 6) (N := some 66) (v := ?_) (a' := ?_) (bm 36 127) rfl rfl (any_of HT_.out (by kernel_rfl)) (fun _ _ _ h => h) (Or.inl ⟨rfl, ?_⟩) ?_ ?_
                 rotate_left
                 ·intro w'
                  go_simp
                  with_reducible rfl
                 rotate_left
                 ·simp only [Act.put, List.setIfInBounds_toArray, List.set_cons_zero, List.set_cons_succ, i64_w, i32_w]
                  rfl)
                | (
                 refine pure_ (i := 6) (N := some 66) (v := undef) (a' := ?_) (bm 36 127) rfl rfl (any_of HT_.out (by kernel_rfl)) (fun _ _ _ h => h) (Or.inr ⟨rfl, rfl⟩) ?_ ?_
                 rotate_left
                 ·simp only [Act.put, List.setIfInBounds_toArray, List.set_cons_zero, List.set_cons_succ, i64_w, i32_w]
                  rfl)
               first
                | (
                 refine pure_ (i := 8) (N := some 68) (v := ?_) (a' := ?_) (bm 36 383) rfl rfl (any_of HT_.out (by kernel_rfl)) (fun _ _ _ h => h) (Or.inl ⟨rfl, ?_⟩) ?_ ?_
                 rotate_left
                 ·intro w'
                  go_simp
                  with_reducible rfl
                 rotate_left
                 ·simp only [Act.put, List.setIfInBounds_toArray, List.set_cons_zero, List.set_cons_succ, i64_w, i32_w]
                  rfl)
                | (
                 refine pure_ (i := 8) (N := some 68) (v := undef) (a' := ?_) (bm 36 383) rfl rfl (any_of HT_.out (by kernel_rfl)) (fun _ _ _ h => h) (Or.inr ⟨rfl, rfl⟩) ?_ ?_
                 rotate_left
                 ·simp only [Act.put, List.setIfInBounds_toArray, List.set_cons_zero, List.set_cons_succ, i64_w, i32_w]
                  rfl)
               first
                | (
                 refine take_ (i := 7) (N := some 67) (v := ?_) (a' := ?_) (bm 36 511) rfl rfl (take_ofW HT_.out HW_.out (by kernel_rfl)) (fun _ _ _ h => h) (Or.inl ⟨rfl, ?_⟩) hHeld ?_ ?_
                 rotate_left
                 ·rintro w' ⟨s0, s1, s2, s3, s4, s5⟩
                  go_simp
                  with_reducible rfl
                 rotate_left
                 ·simp only [Act.put, List.setIfInBounds_toArray, List.set_cons_zero, List.set_cons_succ, i64_w, i32_w]
                  rfl)
                | (
                 refine pure_ (i := 7) (N := some 67) (v := undef) (a' := ?_) (bm 36 511) rfl rfl (any_of HT_.out (by kernel_rfl)) (fun _ _ _ h => h) (Or.inr ⟨rfl, rfl⟩) ?_ ?_
                 rotate_left
                 ·simp only [Act.put, List.setIfInBounds_toArray, List.set_cons_zero, List.set_cons_succ, i64_w, i32_w]
                  rfl)
               first
                | (
                 refine take_ (i := 9) (N := some 69) (v := ?_) (a' := ?_) (bm 36 1023) rfl rfl (take_ofW HT_.out HW_.out (by kernel_rfl)) (fun _ _ _ h => h) (Or.inl ⟨rfl, ?_⟩) hHeld ?_ ?_
                 rotate_left
                 ·rintro w' ⟨s0, s1, s2, s3, s4, s5⟩
                  go_simp
                  with_reducible rfl
                 rotate_left
                 ·simp only [Act.put, List.setIfInBounds_toArray, List.set_cons_zero, List.set_cons_succ, i64_w, i32_w]
                  rfl)
                | (
                 refine pure_ (i := 9) (N := some 69) (v := undef) (a' := ?_) (bm 36 1023) rfl rfl (any_of HT_.out (by kernel_rfl)) (fun _ _ _ h => h) (Or.inr ⟨rfl, rfl⟩) ?_ ?_
                 rotate_left
                 ·simp only [Act.put, List.setIfInBounds_toArray, List.set_cons_zero, List.set_cons_succ, i64_w, i32_w]
                  rfl)
               first
                | (
                 refine one_ (i := 10) (N := some 70) (bm 36 2047) rfl rfl (one_of HT_.out (by kernel_rfl)) (by decide) (fun K hK => ?_)
                 refine goes_ Try.func90 (by kernel_rfl) rfl #[.slice A0_0 l0_0.length c0_0, .string ((rd_T105 l0_1 x4_3).f0)] rfl rfl rfl m3_ ?_
                 with_reducible refine (spec_l2Has.calls k3 _ _ l0_0 ((rd_T105 l0_1 x4_3).f0) _ _ ?side1 ?side2 (Aside0.out (by assumption))).mono ?_
                 (case side1 => exact m7_)
                 (case side2 => exact HC0_0.out)
                 rintro e w' ⟨rfl, ⟨nd, rfl⟩⟩
                 refine ⟨_, rfl, ?_⟩
                 refine hK.out _ _ ⟨(blk_cell BK202.out 0).trans rfl, (blk_cell BK202.out 1).trans rfl, (blk_cell BK196.out 0).trans rfl, (blk_cell BK196.out 1).trans rfl, (blk_cell BK196.out 2).trans rfl, (blk_cell BK196.out 3).trans rfl⟩ (fun hHeld => ?_)
                 clear hK K
                 refine norm_ (a' := ?_) ?_ ?_
                 rotate_left
                 ·show Act.put _ (some 70) _ = _
                  simp only [Act.put, List.setIfInBounds_toArray, List.set_cons_zero, List.set_cons_succ, i64_w, i32_w]
                  rfl)
                | (
                 refine pure_ (i := 10) (N := some 70) (v := undef) (a' := ?_) (bm 36 2047) rfl rfl (any_of HT_.out (by kernel_rfl)) (fun _ _ _ h => h) (Or.inr ⟨rfl, rfl⟩) ?_ ?_
                 rotate_left
                 ·simp only [Act.put, List.setIfInBounds_toArray, List.set_cons_zero, List.set_cons_succ, i64_w, i32_w]
                  rfl)
               first
                | (
                 refine pure_ (i := 11) (N := some 71) (v := ?_) (a' := ?_) (bm 36 4095) rfl rfl (any_of HT_.out (by kernel_rfl)) (fun _ _ _ h => h) (Or.inl ⟨rfl, ?_⟩) ?_ ?_
                 rotate_left
                 ·intro w'
                  go_simp
                  with_reducible rfl
                 rotate_left
                 ·simp only [Act.put, List.setIfInBounds_toArray, List.set_cons_zero, List.set_cons_succ, i64_w, i32_w]
                  rfl)
                | (
                 refine pure_ (i := 11) (N := some 71) (v := undef) (a' := ?_) (bm 36 4095) rfl rfl (any_of HT_.out (by kernel_rfl)) (fun _ _ _ h => h) (Or.inr ⟨rfl, rfl⟩) ?_ ?_
                 rotate_left
                 ·simp only [Act.put, List.setIfInBounds_toArray, List.set_cons_zero, List.set_cons_succ, i64_w, i32_w]
                  rfl)
               refine pure_ (i := 12) (N := some 72) (v := ?_) (a' := ?_) (bm 36 8191) rfl rfl (any_of HT_.out (by kernel_rfl)) (fun _ _ _ h => h) (Or.inl ⟨(by rfl), ?_⟩) ?_ ?_; rotate_left; intro w'; go_simp; with_reducible rfl; rotate_left; simp only [Act.put, List.setIfInBounds_toArray, List.set_cons_zero, List.set_cons_succ, i64_w, i32_w]; rfl
               refine pure_ (i := 13) (N := some 73) (v := ?_) (a' := ?_) (bm 36 16383) rfl rfl (any_of HT_.out (by kernel_rfl)) (fun _ _ _ h => h) (Or.inl ⟨(by rfl), ?_⟩) ?_ ?_; rotate_left; intro w'; go_simp; with_reducible rfl; rotate_left; simp only [Act.put, List.setIfInBounds_toArray, List.set_cons_zero, List.set_cons_succ, i64_w, i32_w]; rfl
               first
                | (
                 refine pure_ (i := 14) (N := some 74) (v := ?_) (a' := ?_) (bm 36 32767) rfl rfl (any_of HT_.out (by kernel_rfl)) (fun _ _ _ h => h) (Or.inl ⟨rfl, ?_⟩) ?_ ?_
                 rotate_left
                 ·intro w'
                  go_simp
                  with_reducible rfl
                 rotate_left
                 ·simp only [Act.put, List.setIfInBounds_toArray, List.set_cons_zero, List.set_cons_succ, i64_w, i32_w]
                  rfl)
                | (
                 refine pure_ (i := 14) (N := some 74) (v := undef) (a' := ?_) (bm 36 32767) rfl rfl (any_of HT_.out (by kernel_rfl)) (fun _ _ _ h => h) (Or.inr ⟨rfl, rfl⟩) ?_ ?_
                 rotate_left
                 ·simp only [Act.put, List.setIfInBounds_toArray, List.set_cons_zero, List.set_cons_succ, i64_w, i32_w]
                  rfl)
               first
                | (
                 refine pure_ (i := 16) (N := some 76) (v := ?_) (a' := ?_) (bm 36 98303) rfl rfl (any_of HT_.out (by kernel_rfl)) (fun _ _ _ h => h) (Or.inl ⟨rfl, ?_⟩) ?_ ?_
                 rotate_left
                 ·intro w'
                  go_simp
                  with_reducible rfl
                 rotate_left
                 ·simp only [Act.put, List.setIfInBounds_toArray, List.set_cons_zero, List.set_cons_succ, i64_w, i32_w]
                  rfl)
                | (
                 refine pure_ (i := 16) (N := some 76) (v := undef) (a' := ?_) (bm 36 98303) rfl rfl (any_of HT_.out (by kernel_rfl)) (fun _ _ _ h => h) (Or.inr ⟨rfl, rfl⟩) ?_ ?_
                 rotate_left
                 ·simp only [Act.put, List.setIfInBounds_toArray, List.set_cons_zero, List.set_cons_succ, i64_w, i32_w]
                  rfl)
               first
                | (
                 refine take_ (i := 15) (N := some 75) (v := ?_) (a' := ?_) (bm 36 131071) rfl rfl (take_ofW HT_.out HW_.out (by kernel_rfl)) (fun _ _ _ h => h) (Or.inl ⟨rfl, ?_⟩) hHeld ?_ ?_
                 rotate_left
                 ·rintro w' ⟨s0, s1, s2, s3, s4, s5⟩
                  go_simp
                  with_reducible rfl
                 rotate_left
                 ·simp only [Act.put, List.setIfInBounds_toArray, List.set_cons_zero, List.set_cons_succ, i64_w, i32_w]
                  rfl)
                | (
                 refine pure_ (i := 15) (N := some 75) (v := undef) (a' := ?_) (bm 36 131071) rfl rfl (any_of HT_.out (by kernel_rfl)) (fun _ _ _ h => h) (Or.inr ⟨rfl, rfl⟩) ?_ ?_
                 rotate_left
                 ·simp only [Act.put, List.setIfInBounds_toArray, List.set_cons_zero, List.set_cons_succ, i64_w, i32_w]
                  rfl)
               first
                | (
                 refine take_ (i := 17) (N := some 77) (v := ?_) (a' := ?_) (bm 36 262143) rfl rfl (take_ofW HT_.out HW_.out (by kernel_rfl)) (fun _ _ _ h => h) (Or.inl ⟨rfl, ?_⟩) hHeld ?_ ?_
                 rotate_left
                 ·rintro w' ⟨s0, s1, s2, s3, s4, s5⟩
                  go_simp
                  with_reducible rfl
                 rotate_left
                 ·simp only [Act.put, List.setIfInBounds_toArray, List.set_cons_zero, List.set_cons_succ, i64_w, i32_w]
                  rfl)
                | (
                 refine pure_ (i := 17) (N := some 77) (v := undef) (a' := ?_) (bm 36 262143) rfl rfl (any_of HT_.out (by kernel_rfl)) (fun _ _ _ h => h) (Or.inr ⟨rfl, rfl⟩) ?_ ?_
                 rotate_left
                 ·simp only [Act.put, List.setIfInBounds_toArray, List.set_cons_zero, List.set_cons_succ, i64_w, i32_w]
                  rfl)
               first
                | (
                 refine one_ (i := 18) (N := some 78) (bm 36 524287) rfl rfl (one_of HT_.out (by kernel_rfl)) (by decide) (fun K hK => ?_)
                 refine goes_ Try.func90 (by kernel_rfl) rfl #[.slice A0_0 l0_0.length c0_0, .string ((rd_T105 l0_1 x4_3).f1)] rfl rfl rfl m3_ ?_
                 with_reducible refine (spec_l2Has.calls k3 _ _ l0_0 ((rd_T105 l0_1 x4_3).f1) _ _ ?side1 ?side2 (Aside0.out (by assumption))).mono ?_
                 (case side1 => exact (by repeat (first | exact (Kd.C_below HR0_0.out m35_) | (with_reducible refine Kd.C_alloc ?_ _) | (with_reducible refine Kd.C_drewN ?_ _) | (with_reducible refine Kd.C_drew ?_))))
                 (case side2 => exact HC0_0.out)
                 rintro e w' ⟨rfl, ⟨nd, rfl⟩⟩
                 refine ⟨_, rfl, ?_⟩
                 refine hK.out _ _ ⟨(blk_cell BK202.out 0).trans rfl, (blk_cell BK202.out 1).trans rfl, (blk_cell BK196.out 0).trans rfl, (blk_cell BK196.out 1).trans rfl, (blk_cell BK196.out 2).trans rfl, (blk_cell BK196.out 3).trans rfl⟩ (fun hHeld => ?_)
                 clear hK K
                 refine norm_ (a' := ?_) ?_ ?_
                 rotate_left
                 ·show Act.put _ (some 78) _ = _
                  simp only [Act.put, List.setIfInBounds_toArray, List.set_cons_zero, List.set_cons_succ, i64_w, i32_w]
                  rfl)
                | (
                 refine pure_ (i := 18) (N := some 78) (v := undef) (a' := ?_) (bm 36 524287) rfl rfl (any_of HT_.out (by kernel_rfl)) (fun _ _ _ h => h) (Or.inr ⟨rfl, rfl⟩) ?_ ?_
                 rotate_left
                 ·simp only [Act.put, List.setIfInBounds_toArray, List.set_cons_zero, List.set_cons_succ, i64_w, i32_w]
                  rfl)
               first
                | (
                 refine pure_ (i := 19) (N := some 79) (v := ?_) (a' := ?_) (bm 36 1048575) rfl rfl (any_of HT_.out (by kernel_rfl)) (fun _ _ _ h => h) (Or.inl ⟨rfl, ?_⟩) ?_ ?_
                 rotate_left
                 ·intro w'
                  go_simp
                  with_reducible rfl
                 rotate_left
                 ·simp only [Act.put, List.setIfInBounds_toArray, List.set_cons_zero, List.set_cons_succ, i64_w, i32_w]
                  rfl)
                | (
                 refine pure_ (i := 19) (N := some 79) (v := undef) (a' := ?_) (bm 36 1048575) rfl rfl (any_of HT_.out (by kernel_rfl)) (fun _ _ _ h => h) (Or.inr ⟨rfl, rfl⟩) ?_ ?_
                 rotate_left
                 ·simp only [Act.put, List.setIfInBounds_toArray, List.set_cons_zero, List.set_cons_succ, i64_w, i32_w]
                  rfl)
               refine pure_ (i := 20) (N := some 80) (v := ?_) (a' := ?_) (bm 36 2097151) rfl rfl (any_of HT_.out (by kernel_rfl)) (fun _ _ _ h => h) (Or.inl ⟨(by rfl), ?_⟩) ?_ ?_; rotate_left; intro w'; go_simp; with_reducible rfl; rotate_left; simp only [Act.put, List.setIfInBounds_toArray, List.set_cons_zero, List.set_cons_succ, i64_w, i32_w]; rfl
               refine pure_ (i := 21) (N := some 81) (v := ?_) (a' := ?_) (bm 36 4194303) rfl rfl (any_of HT_.out (by kernel_rfl)) (fun _ _ _ h => h) (Or.inl ⟨(by rfl), ?_⟩) ?_ ?_; rotate_left; intro w'; go_simp; with_reducible rfl; rotate_left; simp only [Act.put, List.setIfInBounds_toArray, List.set_cons_zero, List.set_cons_succ, i64_w, i32_w]; rfl
               first
                | (
                 refine pure_ (i := 22) (N := some 82) (v := ?_) (a' := ?_) (bm 36 8388607) rfl rfl (any_of HT_.out (by kernel_rfl)) (fun _ _ _ h => h) (Or.inl ⟨rfl, ?_⟩) ?_ ?_
                 rotate_left
                 ·intro w'
                  go_simp
                  with_reducible rfl
                 rotate_left
                 ·simp only [Act.put, List.setIfInBounds_toArray, List.set_cons_zero, List.set_cons_succ, i64_w, i32_w]
                  rfl)
                | (
                 refine pure_ (i := 22) (N := some 82) (v := undef) (a' := ?_) (bm 36 8388607) rfl rfl (any_of HT_.out (by kernel_rfl)) (fun _ _ _ h => h) (Or.inr ⟨rfl, rfl⟩) ?_ ?_
                 rotate_left
                 ·simp only [Act.put, List.setIfInBounds_toArray, List.set_cons_zero, List.set_cons_succ, i64_w, i32_w]
                  rfl)
               first
                | (
                 refine pure_ (i := 23) (N := some 83) (v := ?_) (a' := ?_) (bm 36 16777215) rfl rfl (any_of HT_.out (by kernel_rfl)) (fun _ _ _ h => h) (Or.inl ⟨rfl, ?_⟩) ?_ ?_
                 rotate_left
                 ·intro w'
                  go_simp
                  with_reducible rfl
                 rotate_left
                 ·simp only [Act.put, List.setIfInBounds_toArray, List.set_cons_zero, List.set_cons_succ, i64_w, i32_w]
                  rfl)
                | (
                 refine pure_ (i := 23) (N := some 83) (v := undef) (a' := ?_) (bm 36 16777215) rfl rfl (any_of HT_.out (by kernel_rfl)) (fun _ _ _ h => h) (Or.inr ⟨rfl, rfl⟩) ?_ ?_
                 rotate_left
                 ·simp only [Act.put, List.setIfInBounds_toArray, List.set_cons_zero, List.set_cons_succ, i64_w, i32_w]
                  rfl)
               first
                | (
                 refine pure_ (i := 24) (N := some 84) (v := ?_) (a' := ?_) (bm 36 33554431) rfl rfl (any_of HT_.out (by kernel_rfl)) (fun _ _ _ h => h) (Or.inl ⟨rfl, ?_⟩) ?_ ?_
                 rotate_left
                 ·intro w'
                  go_simp
                  with_reducible rfl
                 rotate_left
                 ·simp only [Act.put, List.setIfInBounds_toArray, List.set_cons_zero, List.set_cons_succ, i64_w, i32_w]
                  rfl)
                | (
                 refine pure_ (i := 24) (N := some 84) (v := undef) (a' := ?_) (bm 36 33554431) rfl rfl (any_of HT_.out (by kernel_rfl)) (fun _ _ _ h => h) (Or.inr ⟨rfl, rfl⟩) ?_ ?_
                 rotate_left
                 ·simp only [Act.put, List.setIfInBounds_toArray, List.set_cons_zero, List.set_cons_succ, i64_w, i32_w]
                  rfl)
               refine un_ 25 85 (bm 36 67108863) HT_.out ?_
               refine un_ 26 86 (bm 36 134217727) HT_.out ?_
               refine un_ 27 87 (bm 36 268435455) HT_.out ?_
               refine un_ 28 88 (bm 36 536870911) HT_.out ?_
               refine un_ 29 89 (bm 36 1073741823) HT_.out ?_
               refine un_ 30 90 (bm 36 2147483647) HT_.out ?_
               refine un_ 31 91 (bm 36 4294967295) HT_.out ?_
               refine un_ 32 92 (bm 36 8589934591) HT_.out ?_
               refine un_ 33 93 (bm 36 17179869183) HT_.out ?_
               first
                | (
                 refine pure_ (i := 34) (N := some 94) (v := ?_) (a' := ?_) (bm 36 34359738367) rfl rfl (any_of HT_.out (by kernel_rfl)) (fun _ _ _ h => h) (Or.inl ⟨rfl, ?_⟩) ?_ ?_
                 rotate_left
                 ·intro w'
                  go_simp
                  with_reducible rfl
                 rotate_left
                 ·simp only [Act.put, List.setIfInBounds_toArray, List.set_cons_zero, List.set_cons_succ, i64_w, i32_w]
                  rfl)
                | (
                 refine pure_ (i := 34) (N := some 94) (v := undef) (a' := ?_) (bm 36 34359738367) rfl rfl (any_of HT_.out (by kernel_rfl)) (fun _ _ _ h => h) (Or.inr ⟨rfl, rfl⟩) ?_ ?_
                 rotate_left
                 ·simp only [Act.put, List.setIfInBounds_toArray, List.set_cons_zero, List.set_cons_succ, i64_w, i32_w]
                  rfl)
               refine pure_ (i := 35) (N := some 95) (v := ?_) (a' := ?_) (bm 36 68719476735) rfl rfl (any_of HT_.out (by kernel_rfl)) (fun _ _ _ h => h) (Or.inl ⟨(by rfl), ?_⟩) ?_ ?_; rotate_left; intro w'; go_simp; with_reducible rfl; rotate_left; simp only [Act.put, List.setIfInBounds_toArray, List.set_cons_zero, List.set_cons_succ, i64_w, i32_w]; rfl
               refine done_ (done_of HT_.out (by kernel_rfl)) ?_
               try go_wp2
               go_meet
               case rel => exact ⟨_, _, m8_, H', ⟨m124_⟩, ⟨m36_⟩, ⟨m147_⟩, ⟨m35_⟩⟩)
           case rest =>
            clear HC25
            try clear p2
            try clear c3
            try clear c9
            try clear c30
            try clear c30b0
            try clear c32
            obtain ⟨kq, x95_24, rfl, HA, HJ24, BK196, BK202, HB⟩ := hcut
            cases kq with
            | zero => exact absurd HA.out (by simp [spec_l2StuffsOk.j4])
            | succ kj24 =>
             have H := HA.out
             clear HA
             simp only [spec_l2StuffsOk.j4] at H
             by_cases c51 : x95_24 = true
             ·subst c51
              have H1 : (some false) = some r := by rw [if_pos rfl] at H; exact H
              clear H
              have H := H1
              clear H1
              obtain rfl := Option.some.inj H
              go_wp2
              go_ret
              exact ⟨m6_, m35_⟩
             ·replace c51 := Bool.eq_false_iff.mpr c51
              subst c51
              have H1 : (spec_l2StuffsOk.l1 kj24 (wrap64 (x4_3 + 1)) l0_0 l0_1 l0_2 l0_3) = some r := by rw [if_neg (show ¬ (false = true) by decide)] at H; exact H
              clear H
              have H := H1
              clear H1
              have H' := Aside0.mk H
              clear H
              go_wp2
              go_roundg kj24
              case measure => have := HJ1.out; have := HK2.out; have := HK3.out; have := HJ24.out; omega
              case rel => exact ⟨(wrap64 (x4_3 + 1)), m8_, H', ⟨(by have := HJ1.out; have := HK2.out; have := HK3.out; have := HJ24.out; omega)⟩, ⟨m36_⟩, ⟨m35_⟩⟩
          ·rw [if_neg c24] at H
           exact absurd H (by simp)
         ·rw [if_neg c23] at H
          have c23b0 : decide (x4_3 < (l0_1.length : Int)) = false := decide_eq_false c23
          clear c23
          obtain rfl := Option.some.inj H
          obtain ⟨hcz52_0, hcz52_1, hcz52_2, hcz52_3⟩ := cz4_ BK196.out
          obtain ⟨hfz52_0, hfz52_1, hfz52_2, hfz52_3⟩ := fz4_ BK196.out
          go_wp2
          go_ret
          exact ⟨m6_, m30_⟩

end Go.Proofs.Ytpildfacenlceaa.QFnExactPlantFoes
namespace Go.Proofs.Ytpildfacenlceaa.QFnExactPlantFoes
open Go.RowKit Go.Proofs.YtpildfacenlceaaW.PrintWords Go.Proofs.YtpildfacenlceaaW.PrintLast Go.Proofs.YtpildfacenlceaaW.PrintMore
attribute [local go_sem] str_geq str_gtr str_leq max2_int min2_int max_two min_two max_three min_three max_four min_four   -- for this text's walks alone
set_option linter.unusedVariables false
set_option linter.unusedSimpArgs false
mutual
def spec_l2PlacesOk.l0 : Nat → Int → List ByteArray → List (S105) → List (S86) → List (S108) → Option (Bool)
 | 0, _, _, _, _, _ => none
 | k + 1, x3, x208000, x208001, x208002, x208003 => if x3 < (x208002.length : Int) then (if 0 ≤ x3 then ((spec_l2NameOk.f k ((rd_T86 x208002 x3).f0)).bind fun t210 => (if t210 = true then (if x3 > 0 then (if 0 ≤ (wrap64 (x3 - 1)) then (if (wrap64 (x3 - 1)) < (x208002.length : Int) then (if ((Op.bytesLess (((rd_T86 x208002 (wrap64 (x3 - 1))).f0).toList) (((rd_T86 x208002 x3).f0).toList)) = true) then ((spec_l1In.f ((rd_T86 x208002 x3).f1) 0 1000).bind fun t212 => (if t212 = true then ((spec_l2NameOk.f k ((rd_T86 x208002 x3).f2)).bind fun t213 => (spec_l2PlacesOk.j1 k x3 (!t213) x208000 x208001 x208002 x208003)) else (spec_l2PlacesOk.j1 k x3 true x208000 x208001 x208002 x208003))) else (spec_l2PlacesOk.j1 k x3 true x208000 x208001 x208002 x208003)) else (none)) else (none)) else ((spec_l1In.f ((rd_T86 x208002 x3).f1) 0 1000).bind fun t214 => (if t214 = true then ((spec_l2NameOk.f k ((rd_T86 x208002 x3).f2)).bind fun t215 => (spec_l2PlacesOk.j1 k x3 (!t215) x208000 x208001 x208002 x208003)) else (spec_l2PlacesOk.j1 k x3 true x208000 x208001 x208002 x208003)))) else (spec_l2PlacesOk.j1 k x3 true x208000 x208001 x208002 x208003))) else (none)) else (some true)
def spec_l2PlacesOk.j1 : Nat → Int → Bool → List ByteArray → List (S105) → List (S86) → List (S108) → Option (Bool)
 | 0, _, _, _, _, _, _ => none
 | k + 1, x3, x52, x208000, x208001, x208002, x208003 => if x52 = true then (some false) else (spec_l2PlacesOk.l0 k (wrap64 (x3 + 1)) x208000 x208001 x208002 x208003)
end
def spec_l2PlacesOk.f (k : Nat) (l0_0 : List ByteArray) (l0_1 : List (S105)) (l0_2 : List (S86)) (l0_3 : List (S108)) : Option (Bool) := if (l0_2.length : Int) > 14 then (some false) else (spec_l2PlacesOk.l0 k 0 l0_0 l0_1 l0_2 l0_3)
theorem spec_l2PlacesOk.mono_l : ∀ k, (∀ y0 y1 y2 y3 y4, LeO (spec_l2PlacesOk.l0 k y0 y1 y2 y3 y4) (spec_l2PlacesOk.l0 (k + 1) y0 y1 y2 y3 y4)) ∧ (∀ y0 y1 y2 y3 y4 y5, LeO (spec_l2PlacesOk.j1 k y0 y1 y2 y3 y4 y5) (spec_l2PlacesOk.j1 (k + 1) y0 y1 y2 y3 y4 y5))
 | 0 => ⟨fun _ _ _ _ _ r h => by simp [spec_l2PlacesOk.l0] at h, fun _ _ _ _ _ _ r h => by simp [spec_l2PlacesOk.j1] at h⟩
 | k + 1 => by
  obtain ⟨ih0, ih1⟩ := spec_l2PlacesOk.mono_l k
  refine ⟨?_, ?_⟩
  ·intro y0 y1 y2 y3 y4
   unfold spec_l2PlacesOk.l0
   repeat' first
   | (with_reducible exact ih0 _ _ _ _ _)
   | (with_reducible exact ih1 _ _ _ _ _ _)
   | (with_reducible exact spec_l2NameOk.mono _ _)
   | (with_reducible exact LeO.refl _)
   | (with_reducible exact LeO.none _)
   | (with_reducible refine LeO.ite ?_ ?_)
   | (with_reducible refine LeO.bind ?_ (fun _ => ?_))
   | exact ih0 _ _ _ _ _
   | exact ih1 _ _ _ _ _ _
   | exact spec_l2NameOk.mono _ _
   | exact LeO.none _
   | refine LeO.ite ?_ ?_
   | refine LeO.bind ?_ (fun _ => ?_)
  ·intro y0 y1 y2 y3 y4 y5
   unfold spec_l2PlacesOk.j1
   repeat' first
   | (with_reducible exact ih0 _ _ _ _ _)
   | (with_reducible exact ih1 _ _ _ _ _ _)
   | (with_reducible exact spec_l2NameOk.mono _ _)
   | (with_reducible exact LeO.refl _)
   | (with_reducible exact LeO.none _)
   | (with_reducible refine LeO.ite ?_ ?_)
   | (with_reducible refine LeO.bind ?_ (fun _ => ?_))
   | exact ih0 _ _ _ _ _
   | exact ih1 _ _ _ _ _ _
   | exact spec_l2NameOk.mono _ _
   | exact LeO.none _
   | refine LeO.ite ?_ ?_
   | refine LeO.bind ?_ (fun _ => ?_)
theorem spec_l2PlacesOk.mono : ∀ a0 a1 a2 a3 k, LeO (spec_l2PlacesOk.f k a0 a1 a2 a3) (spec_l2PlacesOk.f (k + 1) a0 a1 a2 a3) := by
 intro a0 a1 a2 a3 k
 obtain ⟨ih0, ih1⟩ := spec_l2PlacesOk.mono_l k
 unfold spec_l2PlacesOk.f
 repeat' first
   | (with_reducible exact ih0 _ _ _ _ _)
   | (with_reducible exact ih1 _ _ _ _ _ _)
   | (with_reducible exact spec_l2NameOk.mono _ _)
   | (with_reducible exact LeO.refl _)
   | (with_reducible exact LeO.none _)
   | (with_reducible refine LeO.ite ?_ ?_)
   | (with_reducible refine LeO.bind ?_ (fun _ => ?_))
   | exact ih0 _ _ _ _ _
   | exact ih1 _ _ _ _ _ _
   | exact spec_l2NameOk.mono _ _
   | exact LeO.none _
   | refine LeO.ite ?_ ?_
   | refine LeO.bind ?_ (fun _ => ?_)
set_option maxHeartbeats 8000000 in
set_option maxRecDepth 100000 in
theorem spec_l2PlacesOk.calls (k : Nat) (A0_0 : Option Addr) (c0_0 : Nat) (l0_0 : List ByteArray) (A0_1 : Option Addr) (c0_1 : Nat) (l0_1 : List (S105)) (A0_2 : Option Addr) (c0_2 : Nat) (l0_2 : List (S86)) (A0_3 : Option Addr) (c0_3 : Nat) (l0_3 : List (S108)) (r : Bool) (w : World) (hr0_0 : Kd.C Kd.string w A0_0 l0_0.length l0_0) (hc0_0 : l0_0.length ≤ c0_0) (hr0_1 : Kd.C k105 w A0_1 l0_1.length l0_1) (hc0_1 : l0_1.length ≤ c0_1) (hr0_2 : Kd.C k86 w A0_2 l0_2.length l0_2) (hc0_2 : l0_2.length ≤ c0_2) (hr0_3 : Kd.C k108 w A0_3 l0_3.length l0_3) (hc0_3 : l0_3.length ≤ c0_3) (h : spec_l2PlacesOk.f k l0_0 l0_1 l0_2 l0_3 = some r) :
  Calls Try.prog 67 #[.agg #[.slice A0_0 l0_0.length c0_0, .slice A0_1 l0_1.length c0_1, .slice A0_2 l0_2.length c0_2, .slice A0_3 l0_3.length c0_3]] w fun e w' => e = .returned (.bool r) ∧ Below w.heap.size w w' := by
 have hu34 := Try.underlying34
 have hu86 := Try.underlying86
 have HR0_0 := Aside0.mk hr0_0
 have HC0_0 := Aside0.mk hc0_0
 clear hr0_0 hc0_0
 have HR0_1 := Aside0.mk hr0_1
 have HC0_1 := Aside0.mk hc0_1
 clear hr0_1 hc0_1
 have HR0_2 := Aside0.mk hr0_2
 have HC0_2 := Aside0.mk hc0_2
 clear hr0_2 hc0_2
 have HR0_3 := Aside0.mk hr0_3
 have HC0_3 := Aside0.mk hc0_3
 clear hr0_3 hc0_3
 have HB := Aside0.mk (Below.refl w.heap.size w)
 have H : (if (l0_2.length : Int) > 14 then (some false) else (spec_l2PlacesOk.l0 k 0 l0_0 l0_1 l0_2 l0_3)) = some r := h
 clear h
 by_cases c2 : (l0_2.length : Int) > 14
 ·rw [if_pos c2] at H
  have c2b0 : decide (14 < (l0_2.length : Int)) = true := decide_eq_true c2
  have c2b1 : decide (14 < l0_2.length) = true := decide_eq_true (by omega)
  clear c2
  obtain rfl := Option.some.inj H
  go_enter Try.func67, Try.ntmps67
  go_wp2_with (first | ((with_reducible refine gate_dst (N := 1) rfl ?_); refine box_event ?hg (N := 1) ?hd (cs := #[.slice A0_0 l0_0.length c0_0, .slice A0_1 l0_1.length c0_1, .slice A0_2 l0_2.length c0_2, .slice A0_3 l0_3.length c0_3]) (t := 34) ?hr ?_; (case hd => rfl); (case hg => rfl); (case hr => first | (go_simp; done) | (go_simp; rfl)); intro gb207 hg w3 hbox hb; have n0_ := Aside0.mk (below_step m0_ hb); have n1_ := Aside0.mk (hbox); have n2_ := Aside0.mk ((by rw [hg]; exact (below_size m0_) : w.heap.size ≤ gb207)); have n3_ := Aside0.mk ((by rw [hg]; exact (below_size m0_) : w.heap.size ≤ gb207)); clear HB; have HB := n0_; have BK207 := n1_; have GW207 := n2_; have GE207 := n3_; clear n0_ n1_ n2_ n3_; clear hb hbox hg; obtain ⟨hcz4_0, hcz4_1, hcz4_2, hcz4_3⟩ := cz4_ BK207.out; obtain ⟨hfz4_0, hfz4_1, hfz4_2, hfz4_3⟩ := fz4_ BK207.out))
  repeat (go_quiet (first | ((with_reducible refine gate_dst (N := 1) rfl ?_); refine box_event ?hg (N := 1) ?hd (cs := #[.slice A0_0 l0_0.length c0_0, .slice A0_1 l0_1.length c0_1, .slice A0_2 l0_2.length c0_2, .slice A0_3 l0_3.length c0_3]) (t := 34) ?hr ?_; (case hd => rfl); (case hg => rfl); (case hr => first | (go_simp; done) | (go_simp; rfl)); intro gb207 hg w3 hbox hb; have n0_ := Aside0.mk (below_step m0_ hb); have n1_ := Aside0.mk (hbox); have n2_ := Aside0.mk ((by rw [hg]; exact (below_size m0_) : w.heap.size ≤ gb207)); have n3_ := Aside0.mk ((by rw [hg]; exact (below_size m0_) : w.heap.size ≤ gb207)); clear HB; have HB := n0_; have BK207 := n1_; have GW207 := n2_; have GE207 := n3_; clear n0_ n1_ n2_ n3_; clear hb hbox hg; obtain ⟨hcz4_0, hcz4_1, hcz4_2, hcz4_3⟩ := cz4_ BK207.out; obtain ⟨hfz4_0, hfz4_1, hfz4_2, hfz4_3⟩ := fz4_ BK207.out)); try go_wp2_with (first | ((with_reducible refine gate_dst (N := 1) rfl ?_); refine box_event ?hg (N := 1) ?hd (cs := #[.slice A0_0 l0_0.length c0_0, .slice A0_1 l0_1.length c0_1, .slice A0_2 l0_2.length c0_2, .slice A0_3 l0_3.length c0_3]) (t := 34) ?hr ?_; (case hd => rfl); (case hg => rfl); (case hr => first | (go_simp; done) | (go_simp; rfl)); intro gb207 hg w3 hbox hb; have n0_ := Aside0.mk (below_step m0_ hb); have n1_ := Aside0.mk (hbox); have n2_ := Aside0.mk ((by rw [hg]; exact (below_size m0_) : w.heap.size ≤ gb207)); have n3_ := Aside0.mk ((by rw [hg]; exact (below_size m0_) : w.heap.size ≤ gb207)); clear HB; have HB := n0_; have BK207 := n1_; have GW207 := n2_; have GE207 := n3_; clear n0_ n1_ n2_ n3_; clear hb hbox hg; obtain ⟨hcz4_0, hcz4_1, hcz4_2, hcz4_3⟩ := cz4_ BK207.out; obtain ⟨hfz4_0, hfz4_1, hfz4_2, hfz4_3⟩ := fz4_ BK207.out)))
  go_ret
  exact ⟨m6_, m33_⟩
 ·rw [if_neg c2] at H
  have c2b0 : decide (14 < (l0_2.length : Int)) = false := decide_eq_false c2
  have c2b1 : decide (14 < l0_2.length) = false := decide_eq_false (by omega)
  clear c2
  have H' := Aside0.mk H
  clear H
  go_enter Try.func67, Try.ntmps67
  go_wp2_with (first | ((with_reducible refine gate_dst (N := 1) rfl ?_); refine box_event ?hg (N := 1) ?hd (cs := #[.slice A0_0 l0_0.length c0_0, .slice A0_1 l0_1.length c0_1, .slice A0_2 l0_2.length c0_2, .slice A0_3 l0_3.length c0_3]) (t := 34) ?hr ?_; (case hd => rfl); (case hg => rfl); (case hr => first | (go_simp; done) | (go_simp; rfl)); intro gb207 hg w5 hbox hb; have n0_ := Aside0.mk (below_step m0_ hb); have n1_ := Aside0.mk (hbox); have n2_ := Aside0.mk ((by rw [hg]; exact (below_size m0_) : w.heap.size ≤ gb207)); have n3_ := Aside0.mk ((by rw [hg]; exact (below_size m0_) : w.heap.size ≤ gb207)); clear HB; have HB := n0_; have BK207 := n1_; have GW207 := n2_; have GE207 := n3_; clear n0_ n1_ n2_ n3_; clear hb hbox hg; obtain ⟨hcz6_0, hcz6_1, hcz6_2, hcz6_3⟩ := cz4_ BK207.out; obtain ⟨hfz6_0, hfz6_1, hfz6_2, hfz6_3⟩ := fz4_ BK207.out))
  repeat (go_quiet (first | ((with_reducible refine gate_dst (N := 1) rfl ?_); refine box_event ?hg (N := 1) ?hd (cs := #[.slice A0_0 l0_0.length c0_0, .slice A0_1 l0_1.length c0_1, .slice A0_2 l0_2.length c0_2, .slice A0_3 l0_3.length c0_3]) (t := 34) ?hr ?_; (case hd => rfl); (case hg => rfl); (case hr => first | (go_simp; done) | (go_simp; rfl)); intro gb207 hg w5 hbox hb; have n0_ := Aside0.mk (below_step m0_ hb); have n1_ := Aside0.mk (hbox); have n2_ := Aside0.mk ((by rw [hg]; exact (below_size m0_) : w.heap.size ≤ gb207)); have n3_ := Aside0.mk ((by rw [hg]; exact (below_size m0_) : w.heap.size ≤ gb207)); clear HB; have HB := n0_; have BK207 := n1_; have GW207 := n2_; have GE207 := n3_; clear n0_ n1_ n2_ n3_; clear hb hbox hg; obtain ⟨hcz6_0, hcz6_1, hcz6_2, hcz6_3⟩ := cz4_ BK207.out; obtain ⟨hfz6_0, hfz6_1, hfz6_2, hfz6_3⟩ := fz4_ BK207.out)); try go_wp2_with (first | ((with_reducible refine gate_dst (N := 1) rfl ?_); refine box_event ?hg (N := 1) ?hd (cs := #[.slice A0_0 l0_0.length c0_0, .slice A0_1 l0_1.length c0_1, .slice A0_2 l0_2.length c0_2, .slice A0_3 l0_3.length c0_3]) (t := 34) ?hr ?_; (case hd => rfl); (case hg => rfl); (case hr => first | (go_simp; done) | (go_simp; rfl)); intro gb207 hg w5 hbox hb; have n0_ := Aside0.mk (below_step m0_ hb); have n1_ := Aside0.mk (hbox); have n2_ := Aside0.mk ((by rw [hg]; exact (below_size m0_) : w.heap.size ≤ gb207)); have n3_ := Aside0.mk ((by rw [hg]; exact (below_size m0_) : w.heap.size ≤ gb207)); clear HB; have HB := n0_; have BK207 := n1_; have GW207 := n2_; have GE207 := n3_; clear n0_ n1_ n2_ n3_; clear hb hbox hg; obtain ⟨hcz6_0, hcz6_1, hcz6_2, hcz6_3⟩ := cz4_ BK207.out; obtain ⟨hfz6_0, hfz6_1, hfz6_2, hfz6_3⟩ := fz4_ BK207.out)))
  go_loopg [3] k (fun kq v3 w' => ∃ (x3_1 : Int), v3 = .int .i64 x3_1 ∧ Aside0 (spec_l2PlacesOk.l0 kq x3_1 l0_0 l0_1 l0_2 l0_3 = some r) ∧ Aside0 (kq ≤ k) ∧ Aside0 (w'.heap[gb207]? = some (.cells #[(.slice A0_0 l0_0.length c0_0), (.slice A0_1 l0_1.length c0_1), (.slice A0_2 l0_2.length c0_2), (.slice A0_3 l0_3.length c0_3)] 34 (0, 0))) ∧ Aside0 (Below w.heap.size w w'))
  case atStart => exact ⟨(0), m8_, H', ⟨Nat.le_refl _⟩, ⟨m49_⟩, ⟨m33_⟩⟩
  case round =>
   clear H'
   try clear c2
   try clear c2b0
   try clear c2b1
   try clear p2
   try clear c6
   try clear hcz4_0
   try clear hcz4_1
   try clear hcz4_2
   try clear hcz4_3
   try clear hcz6_0
   try clear hcz6_1
   try clear hcz6_2
   try clear hcz6_3
   try clear hfz4_0
   try clear hfz4_1
   try clear hfz4_2
   try clear hfz4_3
   try clear hfz6_0
   try clear hfz6_1
   try clear hfz6_2
   try clear hfz6_3
   obtain ⟨x3_1, rfl, HA, HK1, BK207, HB⟩ := hrel
   cases gk with
   | zero => exact absurd HA.out (by simp [spec_l2PlacesOk.l0])
   | succ k1 =>
    have H := HA.out
    clear HA
    simp only [spec_l2PlacesOk.l0] at H
    by_cases c7 : x3_1 < (l0_2.length : Int)
    ·rw [if_pos c7] at H
     have c7b0 : decide (x3_1 < (l0_2.length : Int)) = true := decide_eq_true c7
     clear c7
     by_cases c8 : 0 ≤ x3_1
     ·rw [if_pos c8] at H
      have c8b0 : decide (0 ≤ x3_1) = true := decide_eq_true c8
      clear c8
      have HC9 := Aside0.mk H
      clear H
      obtain ⟨hcz10_0, hcz10_1, hcz10_2, hcz10_3⟩ := cz4_ BK207.out
      obtain ⟨hfz10_0, hfz10_1, hfz10_2, hfz10_3⟩ := fz4_ BK207.out
      have p208 : 0 ≤ (x3_1 : Int) := of_decide_eq_true m4_
      have q208 : x3_1 < (l0_2.length : Int) := of_decide_eq_true m4_
      obtain ⟨ad208, e208, hx208_0, hx208_1, hx208_2⟩ := at_T86 HR0_2.out x3_1 p208 q208
      cases e208
      replace hx208_0 := (HB.out.cell (World.block_lt_of_cell? w _ hx208_0)).trans hx208_0
      replace hx208_1 := (HB.out.cell (World.block_lt_of_cell? w _ hx208_1)).trans hx208_1
      replace hx208_2 := (HB.out.cell (World.block_lt_of_cell? w _ hx208_2)).trans hx208_2
      replace p208 := eq_true p208
      replace q208 := eq_true q208
      go_upto_region 7 with (first | ((with_reducible refine gate_dst (N := 4) rfl ?_); refine box_event ?hg (N := 4) ?hd (cs := #[.string (⟨#[]⟩ : ByteArray), .int .i64 0, .string (⟨#[]⟩ : ByteArray)]) (t := 86) ?hr ?_; (case hd => rfl); (case hg => rfl); (case hr => first | (go_simp; done) | (go_simp; rfl)); intro gb209 hg w11 hbox hb; have n0_ := Aside0.mk (blk_below (g := gb207) (o := .cells #[.slice A0_0 l0_0.length c0_0, .slice A0_1 l0_1.length c0_1, .slice (some ad208) l0_2.length c0_2, .slice A0_3 l0_3.length c0_3] 34 (0, 0)) m49_ hb); have n1_ := Aside0.mk (below_step m33_ hb); have n2_ := Aside0.mk (hbox); have n3_ := Aside0.mk ((by rw [hg]; exact (below_size m33_) : w.heap.size ≤ gb209)); have n4_ := Aside0.mk ((by rw [hg]; exact (below_size m33_) : w.heap.size ≤ gb209)); have n5_ := Aside0.mk ((by rw [hg]; exact Nat.ne_of_lt (blk_lt (g := gb207) (o := .cells #[.slice A0_0 l0_0.length c0_0, .slice A0_1 l0_1.length c0_1, .slice (some ad208) l0_2.length c0_2, .slice A0_3 l0_3.length c0_3] 34 (0, 0)) m49_) : gb207 ≠ gb209)); have n6_ := Aside0.mk ((by rw [hg]; exact Nat.ne_of_gt (blk_lt (g := gb207) (o := .cells #[.slice A0_0 l0_0.length c0_0, .slice A0_1 l0_1.length c0_1, .slice (some ad208) l0_2.length c0_2, .slice A0_3 l0_3.length c0_3] 34 (0, 0)) m49_) : gb209 ≠ gb207)); clear BK207; clear HB; have BK207 := n0_; have HB := n1_; have BK209 := n2_; have GW209 := n3_; have GE209 := n4_; have NB207_209 := n5_; have NB209_207 := n6_; clear n0_ n1_ n2_ n3_ n4_ n5_ n6_; clear hb hbox hg; have hnb12 := NB209_207.out; have hnc12 := NB207_209.out; obtain ⟨hcz13_0, hcz13_1, hcz13_2⟩ := cz3_ BK209.out; obtain ⟨hfz13_0, hfz13_1, hfz13_2⟩ := fz3_ BK209.out))
      repeat (go_quiet (first | ((with_reducible refine gate_dst (N := 4) rfl ?_); refine box_event ?hg (N := 4) ?hd (cs := #[.string (⟨#[]⟩ : ByteArray), .int .i64 0, .string (⟨#[]⟩ : ByteArray)]) (t := 86) ?hr ?_; (case hd => rfl); (case hg => rfl); (case hr => first | (go_simp; done) | (go_simp; rfl)); intro gb209 hg w11 hbox hb; have n0_ := Aside0.mk (blk_below (g := gb207) (o := .cells #[.slice A0_0 l0_0.length c0_0, .slice A0_1 l0_1.length c0_1, .slice (some ad208) l0_2.length c0_2, .slice A0_3 l0_3.length c0_3] 34 (0, 0)) m49_ hb); have n1_ := Aside0.mk (below_step m33_ hb); have n2_ := Aside0.mk (hbox); have n3_ := Aside0.mk ((by rw [hg]; exact (below_size m33_) : w.heap.size ≤ gb209)); have n4_ := Aside0.mk ((by rw [hg]; exact (below_size m33_) : w.heap.size ≤ gb209)); have n5_ := Aside0.mk ((by rw [hg]; exact Nat.ne_of_lt (blk_lt (g := gb207) (o := .cells #[.slice A0_0 l0_0.length c0_0, .slice A0_1 l0_1.length c0_1, .slice (some ad208) l0_2.length c0_2, .slice A0_3 l0_3.length c0_3] 34 (0, 0)) m49_) : gb207 ≠ gb209)); have n6_ := Aside0.mk ((by rw [hg]; exact Nat.ne_of_gt (blk_lt (g := gb207) (o := .cells #[.slice A0_0 l0_0.length c0_0, .slice A0_1 l0_1.length c0_1, .slice (some ad208) l0_2.length c0_2, .slice A0_3 l0_3.length c0_3] 34 (0, 0)) m49_) : gb209 ≠ gb207)); clear BK207; clear HB; have BK207 := n0_; have HB := n1_; have BK209 := n2_; have GW209 := n3_; have GE209 := n4_; have NB207_209 := n5_; have NB209_207 := n6_; clear n0_ n1_ n2_ n3_ n4_ n5_ n6_; clear hb hbox hg; have hnb12 := NB209_207.out; have hnc12 := NB207_209.out; obtain ⟨hcz13_0, hcz13_1, hcz13_2⟩ := cz3_ BK209.out; obtain ⟨hfz13_0, hfz13_1, hfz13_2⟩ := fz3_ BK209.out)); go_upto_region 7 with (first | ((with_reducible refine gate_dst (N := 4) rfl ?_); refine box_event ?hg (N := 4) ?hd (cs := #[.string (⟨#[]⟩ : ByteArray), .int .i64 0, .string (⟨#[]⟩ : ByteArray)]) (t := 86) ?hr ?_; (case hd => rfl); (case hg => rfl); (case hr => first | (go_simp; done) | (go_simp; rfl)); intro gb209 hg w11 hbox hb; have n0_ := Aside0.mk (blk_below (g := gb207) (o := .cells #[.slice A0_0 l0_0.length c0_0, .slice A0_1 l0_1.length c0_1, .slice (some ad208) l0_2.length c0_2, .slice A0_3 l0_3.length c0_3] 34 (0, 0)) m49_ hb); have n1_ := Aside0.mk (below_step m33_ hb); have n2_ := Aside0.mk (hbox); have n3_ := Aside0.mk ((by rw [hg]; exact (below_size m33_) : w.heap.size ≤ gb209)); have n4_ := Aside0.mk ((by rw [hg]; exact (below_size m33_) : w.heap.size ≤ gb209)); have n5_ := Aside0.mk ((by rw [hg]; exact Nat.ne_of_lt (blk_lt (g := gb207) (o := .cells #[.slice A0_0 l0_0.length c0_0, .slice A0_1 l0_1.length c0_1, .slice (some ad208) l0_2.length c0_2, .slice A0_3 l0_3.length c0_3] 34 (0, 0)) m49_) : gb207 ≠ gb209)); have n6_ := Aside0.mk ((by rw [hg]; exact Nat.ne_of_gt (blk_lt (g := gb207) (o := .cells #[.slice A0_0 l0_0.length c0_0, .slice A0_1 l0_1.length c0_1, .slice (some ad208) l0_2.length c0_2, .slice A0_3 l0_3.length c0_3] 34 (0, 0)) m49_) : gb209 ≠ gb207)); clear BK207; clear HB; have BK207 := n0_; have HB := n1_; have BK209 := n2_; have GW209 := n3_; have GE209 := n4_; have NB207_209 := n5_; have NB209_207 := n6_; clear n0_ n1_ n2_ n3_ n4_ n5_ n6_; clear hb hbox hg; have hnb12 := NB209_207.out; have hnc12 := NB207_209.out; obtain ⟨hcz13_0, hcz13_1, hcz13_2⟩ := cz3_ BK209.out; obtain ⟨hfz13_0, hfz13_1, hfz13_2⟩ := fz3_ BK209.out)))
      (try simp only [Act.put, List.setIfInBounds_toArray, List.set_cons_zero, List.set_cons_succ])
      go_cut [52] (fun v52 wc => ∃ (kq : Nat) (x52_8 : Bool), v52 = .bool x52_8 ∧ Aside0 (spec_l2PlacesOk.j1 kq x3_1 x52_8 l0_0 l0_1 l0_2 l0_3 = some r) ∧ Aside0 (kq ≤ k1) ∧ Aside0 (wc.heap[gb207]? = some (.cells #[(.slice A0_0 l0_0.length c0_0), (.slice A0_1 l0_1.length c0_1), (.slice (some ad208) l0_2.length c0_2), (.slice A0_3 l0_3.length c0_3)] 34 (0, 0))) ∧ Aside0 (wc.heap[gb209]? = some (.cells #[.string ((rd_T86 l0_2 x3_1).f0), .int .i64 ((rd_T86 l0_2 x3_1).f1), .string ((rd_T86 l0_2 x3_1).f2)] 86 (0, 0))) ∧ Aside0 (Below w.heap.size w wc))
      case first =>
       have H := HC9.out
       clear HC9
       replace H := Option.bind_eq_some_iff.mp H
       obtain ⟨t210, A140, H⟩ := H
       replace H : (if t210 = true then (if x3_1 > 0 then (if 0 ≤ (wrap64 (x3_1 - 1)) then (if (wrap64 (x3_1 - 1)) < (l0_2.length : Int) then (if ((Op.bytesLess (((rd_T86 l0_2 (wrap64 (x3_1 - 1))).f0).toList) (((rd_T86 l0_2 x3_1).f0).toList)) = true) then ((spec_l1In.f ((rd_T86 l0_2 x3_1).f1) 0 1000).bind fun t212 => (if t212 = true then ((spec_l2NameOk.f k1 ((rd_T86 l0_2 x3_1).f2)).bind fun t213 => (spec_l2PlacesOk.j1 k1 x3_1 (!t213) l0_0 l0_1 l0_2 l0_3)) else (spec_l2PlacesOk.j1 k1 x3_1 true l0_0 l0_1 l0_2 l0_3))) else (spec_l2PlacesOk.j1 k1 x3_1 true l0_0 l0_1 l0_2 l0_3)) else (none)) else (none)) else ((spec_l1In.f ((rd_T86 l0_2 x3_1).f1) 0 1000).bind fun t214 => (if t214 = true then ((spec_l2NameOk.f k1 ((rd_T86 l0_2 x3_1).f2)).bind fun t215 => (spec_l2PlacesOk.j1 k1 x3_1 (!t215) l0_0 l0_1 l0_2 l0_3)) else (spec_l2PlacesOk.j1 k1 x3_1 true l0_0 l0_1 l0_2 l0_3)))) else (spec_l2PlacesOk.j1 k1 x3_1 true l0_0 l0_1 l0_2 l0_3)) = some r := H
       have A14 := Aside0.mk A140
       clear A140
       by_cases c15 : t210 = true
       ·subst c15
        have H1 : (if x3_1 > 0 then (if 0 ≤ (wrap64 (x3_1 - 1)) then (if (wrap64 (x3_1 - 1)) < (l0_2.length : Int) then (if ((Op.bytesLess (((rd_T86 l0_2 (wrap64 (x3_1 - 1))).f0).toList) (((rd_T86 l0_2 x3_1).f0).toList)) = true) then ((spec_l1In.f ((rd_T86 l0_2 x3_1).f1) 0 1000).bind fun t212 => (if t212 = true then ((spec_l2NameOk.f k1 ((rd_T86 l0_2 x3_1).f2)).bind fun t213 => (spec_l2PlacesOk.j1 k1 x3_1 (!t213) l0_0 l0_1 l0_2 l0_3)) else (spec_l2PlacesOk.j1 k1 x3_1 true l0_0 l0_1 l0_2 l0_3))) else (spec_l2PlacesOk.j1 k1 x3_1 true l0_0 l0_1 l0_2 l0_3)) else (none)) else (none)) else ((spec_l1In.f ((rd_T86 l0_2 x3_1).f1) 0 1000).bind fun t214 => (if t214 = true then ((spec_l2NameOk.f k1 ((rd_T86 l0_2 x3_1).f2)).bind fun t215 => (spec_l2PlacesOk.j1 k1 x3_1 (!t215) l0_0 l0_1 l0_2 l0_3)) else (spec_l2PlacesOk.j1 k1 x3_1 true l0_0 l0_1 l0_2 l0_3)))) = some r := by rw [if_pos rfl] at H; exact H
        clear H
        have H := H1
        clear H1
        by_cases c16 : x3_1 > 0
        ·rw [if_pos c16] at H
         have c16b0 : decide (0 < x3_1) = true := decide_eq_true c16
         clear c16
         (first | rw [c16b0] | (simp only [i64_w, i32_w]; rw [c16b0]) | skip)
         obtain ⟨ji17, hji17⟩ : ∃ j_ : Int, (wrap64 (x3_1 - 1)) = j_ := ⟨_, rfl⟩
         replace H : (if 0 ≤ (ji17) then (if (ji17) < (l0_2.length : Int) then (if ((Op.bytesLess (((rd_T86 l0_2 (ji17)).f0).toList) (((rd_T86 l0_2 x3_1).f0).toList)) = true) then ((spec_l1In.f ((rd_T86 l0_2 x3_1).f1) 0 1000).bind fun t212 => (if t212 = true then ((spec_l2NameOk.f k1 ((rd_T86 l0_2 x3_1).f2)).bind fun t213 => (spec_l2PlacesOk.j1 k1 x3_1 (!t213) l0_0 l0_1 l0_2 l0_3)) else (spec_l2PlacesOk.j1 k1 x3_1 true l0_0 l0_1 l0_2 l0_3))) else (spec_l2PlacesOk.j1 k1 x3_1 true l0_0 l0_1 l0_2 l0_3)) else (none)) else (none)) = some r := by first | (rw [hji17] at H; exact H) | (simp only [hji17] at H ⊢; exact H)
         (try rw [hji17] at A14)
         have hji17w : (IntKind.i64.wrap (x3_1 - 1)) = ji17 := (i64_w _).trans hji17
         by_cases c18 : 0 ≤ (ji17)
         ·rw [if_pos c18] at H
          have c18b0 : decide (0 ≤ (ji17)) = true := decide_eq_true c18
          clear c18
          by_cases c19 : (ji17) < (l0_2.length : Int)
          ·rw [if_pos c19] at H
           have c19b0 : decide ((ji17) < (l0_2.length : Int)) = true := decide_eq_true c19
           clear c19
           by_cases c20 : ((Op.bytesLess (((rd_T86 l0_2 (ji17)).f0).toList) (((rd_T86 l0_2 x3_1).f0).toList)) = true)
           ·rw [if_pos c20] at H
            have c20b0 : (Op.bytesLess (((rd_T86 l0_2 (ji17)).f0).toList) (((rd_T86 l0_2 x3_1).f0).toList)) = true := c20
            clear c20
            replace H := Option.bind_eq_some_iff.mp H
            obtain ⟨t212, A210, H⟩ := H
            replace H : (if t212 = true then ((spec_l2NameOk.f k1 ((rd_T86 l0_2 x3_1).f2)).bind fun t213 => (spec_l2PlacesOk.j1 k1 x3_1 (!t213) l0_0 l0_1 l0_2 l0_3)) else (spec_l2PlacesOk.j1 k1 x3_1 true l0_0 l0_1 l0_2 l0_3)) = some r := H
            have A21 := Aside0.mk A210
            clear A210
            by_cases c22 : t212 = true
            ·subst c22
             have H1 : ((spec_l2NameOk.f k1 ((rd_T86 l0_2 x3_1).f2)).bind fun t213 => (spec_l2PlacesOk.j1 k1 x3_1 (!t213) l0_0 l0_1 l0_2 l0_3)) = some r := by rw [if_pos rfl] at H; exact H
             clear H
             have H := H1
             clear H1
             replace H := Option.bind_eq_some_iff.mp H
             obtain ⟨t213, A230, H⟩ := H
             replace H : (spec_l2PlacesOk.j1 k1 x3_1 (!t213) l0_0 l0_1 l0_2 l0_3) = some r := H
             have A23 := Aside0.mk A230
             clear A230
             have H' := Aside0.mk H
             clear H
             have hnb24 := NB209_207.out
             have hnc24 := NB207_209.out
             obtain ⟨hcz25_0, hcz25_1, hcz25_2⟩ := cz3_ BK209.out
             obtain ⟨hfz25_0, hfz25_1, hfz25_2⟩ := fz3_ BK209.out
             go_wp2_with (first | (go_at_call 119; (with_reducible refine (spec_l2NameOk.calls k1 ((rd_T86 l0_2 x3_1).f0) true _ A14.out).mono ?_); rintro e w' ⟨rfl, ⟨nd, rfl⟩⟩; (try exact m2_); obtain ⟨hcz26_0, hcz26_1, hcz26_2, hcz26_3⟩ := cz4_ BK207.out; obtain ⟨hfz26_0, hfz26_1, hfz26_2, hfz26_3⟩ := fz4_ BK207.out; have p211 : 0 ≤ ((ji17) : Int) := of_decide_eq_true m4_; have q211 : (ji17) < (l0_2.length : Int) := of_decide_eq_true m4_; obtain ⟨ad211, e211, hx211_0, hx211_1, hx211_2⟩ := at_T86 HR0_2.out (ji17) p211 q211; obtain rfl : ad208 = ad211 := (by injection e211); have hn211_0 : ad208.block ≠ gb209 := Nat.ne_of_lt (Nat.lt_of_lt_of_le m25_ GW209.out); have hn211_1 : ad208.block ≠ gb209 := Nat.ne_of_lt (Nat.lt_of_lt_of_le m25_ GW209.out); have hn211_2 : ad208.block ≠ gb209 := Nat.ne_of_lt (Nat.lt_of_lt_of_le m25_ GW209.out); replace hx211_0 := (HB.out.cell (World.block_lt_of_cell? w _ hx211_0)).trans hx211_0; replace hx211_1 := (HB.out.cell (World.block_lt_of_cell? w _ hx211_1)).trans hx211_1; replace hx211_2 := (HB.out.cell (World.block_lt_of_cell? w _ hx211_2)).trans hx211_2; replace hx211_0 := (cell_far (p := ⟨gb209, 0, none⟩) m18_ (.string ((rd_T86 l0_2 x3_1).f0))).trans hx211_0; replace hx211_1 := (cell_far (p := ⟨gb209, 0, none⟩) m18_ (.string ((rd_T86 l0_2 x3_1).f0))).trans hx211_1; replace hx211_2 := (cell_far (p := ⟨gb209, 0, none⟩) m18_ (.string ((rd_T86 l0_2 x3_1).f0))).trans hx211_2; replace hx211_0 := (cell_far (p := ⟨gb209, 1, none⟩) m19_ (.int .i64 ((rd_T86 l0_2 x3_1).f1))).trans hx211_0; replace hx211_1 := (cell_far (p := ⟨gb209, 1, none⟩) m19_ (.int .i64 ((rd_T86 l0_2 x3_1).f1))).trans hx211_1; replace hx211_2 := (cell_far (p := ⟨gb209, 1, none⟩) m19_ (.int .i64 ((rd_T86 l0_2 x3_1).f1))).trans hx211_2; replace hx211_0 := (cell_far (p := ⟨gb209, 2, none⟩) m20_ (.string ((rd_T86 l0_2 x3_1).f2))).trans hx211_0; replace hx211_1 := (cell_far (p := ⟨gb209, 2, none⟩) m20_ (.string ((rd_T86 l0_2 x3_1).f2))).trans hx211_1; replace hx211_2 := (cell_far (p := ⟨gb209, 2, none⟩) m20_ (.string ((rd_T86 l0_2 x3_1).f2))).trans hx211_2; (try have hy211_0 := fun (n_ : Nat) => (show (((((w11.drewN n_).setCell ⟨gb209, 0, none⟩ (.string ((rd_T86 l0_2 x3_1).f0))).setCell ⟨gb209, 1, none⟩ (.int .i64 ((rd_T86 l0_2 x3_1).f1))).setCell ⟨gb209, 2, none⟩ (.string ((rd_T86 l0_2 x3_1).f2)))).cell? _ = some _ from hx211_0)); (try have hy211_1 := fun (n_ : Nat) => (show (((((w11.drewN n_).setCell ⟨gb209, 0, none⟩ (.string ((rd_T86 l0_2 x3_1).f0))).setCell ⟨gb209, 1, none⟩ (.int .i64 ((rd_T86 l0_2 x3_1).f1))).setCell ⟨gb209, 2, none⟩ (.string ((rd_T86 l0_2 x3_1).f2)))).cell? _ = some _ from hx211_1)); (try have hy211_2 := fun (n_ : Nat) => (show (((((w11.drewN n_).setCell ⟨gb209, 0, none⟩ (.string ((rd_T86 l0_2 x3_1).f0))).setCell ⟨gb209, 1, none⟩ (.int .i64 ((rd_T86 l0_2 x3_1).f1))).setCell ⟨gb209, 2, none⟩ (.string ((rd_T86 l0_2 x3_1).f2)))).cell? _ = some _ from hx211_2)); clear hn211_0; clear hn211_1; clear hn211_2; replace p211 := eq_true p211; replace q211 := eq_true q211) | (go_at_call 121; (with_reducible refine (spec_l1In.calls ((rd_T86 l0_2 x3_1).f1) 0 1000 true _ A21.out).mono ?_); rintro e w' ⟨rfl, ⟨nd, rfl⟩⟩; (try exact m2_)) | (go_at_call 119; (with_reducible refine (spec_l2NameOk.calls k1 ((rd_T86 l0_2 x3_1).f2) t213 _ A23.out).mono ?_); rintro e w' ⟨rfl, ⟨nd, rfl⟩⟩; (try exact m2_)))
             repeat (go_quiet (first | (go_at_call 119; (with_reducible refine (spec_l2NameOk.calls k1 ((rd_T86 l0_2 x3_1).f0) true _ A14.out).mono ?_); rintro e w' ⟨rfl, ⟨nd, rfl⟩⟩; (try exact m2_); obtain ⟨hcz26_0, hcz26_1, hcz26_2, hcz26_3⟩ := cz4_ BK207.out; obtain ⟨hfz26_0, hfz26_1, hfz26_2, hfz26_3⟩ := fz4_ BK207.out; have p211 : 0 ≤ ((ji17) : Int) := of_decide_eq_true m4_; have q211 : (ji17) < (l0_2.length : Int) := of_decide_eq_true m4_; obtain ⟨ad211, e211, hx211_0, hx211_1, hx211_2⟩ := at_T86 HR0_2.out (ji17) p211 q211; obtain rfl : ad208 = ad211 := (by injection e211); have hn211_0 : ad208.block ≠ gb209 := Nat.ne_of_lt (Nat.lt_of_lt_of_le m25_ GW209.out); have hn211_1 : ad208.block ≠ gb209 := Nat.ne_of_lt (Nat.lt_of_lt_of_le m25_ GW209.out); have hn211_2 : ad208.block ≠ gb209 := Nat.ne_of_lt (Nat.lt_of_lt_of_le m25_ GW209.out); replace hx211_0 := (HB.out.cell (World.block_lt_of_cell? w _ hx211_0)).trans hx211_0; replace hx211_1 := (HB.out.cell (World.block_lt_of_cell? w _ hx211_1)).trans hx211_1; replace hx211_2 := (HB.out.cell (World.block_lt_of_cell? w _ hx211_2)).trans hx211_2; replace hx211_0 := (cell_far (p := ⟨gb209, 0, none⟩) m18_ (.string ((rd_T86 l0_2 x3_1).f0))).trans hx211_0; replace hx211_1 := (cell_far (p := ⟨gb209, 0, none⟩) m18_ (.string ((rd_T86 l0_2 x3_1).f0))).trans hx211_1; replace hx211_2 := (cell_far (p := ⟨gb209, 0, none⟩) m18_ (.string ((rd_T86 l0_2 x3_1).f0))).trans hx211_2; replace hx211_0 := (cell_far (p := ⟨gb209, 1, none⟩) m19_ (.int .i64 ((rd_T86 l0_2 x3_1).f1))).trans hx211_0; replace hx211_1 := (cell_far (p := ⟨gb209, 1, none⟩) m19_ (.int .i64 ((rd_T86 l0_2 x3_1).f1))).trans hx211_1; replace hx211_2 := (cell_far (p := ⟨gb209, 1, none⟩) m19_ (.int .i64 ((rd_T86 l0_2 x3_1).f1))).trans hx211_2; replace hx211_0 := (cell_far (p := ⟨gb209, 2, none⟩) m20_ (.string ((rd_T86 l0_2 x3_1).f2))).trans hx211_0; replace hx211_1 := (cell_far (p := ⟨gb209, 2, none⟩) m20_ (.string ((rd_T86 l0_2 x3_1).f2))).trans hx211_1; replace hx211_2 := (cell_far (p := ⟨gb209, 2, none⟩) m20_ (.string ((rd_T86 l0_2 x3_1).f2))).trans hx211_2; (try have hy211_0 := fun (n_ : Nat) => (show (((((w11.drewN n_).setCell ⟨gb209, 0, none⟩ (.string ((rd_T86 l0_2 x3_1).f0))).setCell ⟨gb209, 1, none⟩ (.int .i64 ((rd_T86 l0_2 x3_1).f1))).setCell ⟨gb209, 2, none⟩ (.string ((rd_T86 l0_2 x3_1).f2)))).cell? _ = some _ from hx211_0)); (try have hy211_1 := fun (n_ : Nat) => (show (((((w11.drewN n_).setCell ⟨gb209, 0, none⟩ (.string ((rd_T86 l0_2 x3_1).f0))).setCell ⟨gb209, 1, none⟩ (.int .i64 ((rd_T86 l0_2 x3_1).f1))).setCell ⟨gb209, 2, none⟩ (.string ((rd_T86 l0_2 x3_1).f2)))).cell? _ = some _ from hx211_1)); (try have hy211_2 := fun (n_ : Nat) => (show (((((w11.drewN n_).setCell ⟨gb209, 0, none⟩ (.string ((rd_T86 l0_2 x3_1).f0))).setCell ⟨gb209, 1, none⟩ (.int .i64 ((rd_T86 l0_2 x3_1).f1))).setCell ⟨gb209, 2, none⟩ (.string ((rd_T86 l0_2 x3_1).f2)))).cell? _ = some _ from hx211_2)); clear hn211_0; clear hn211_1; clear hn211_2; replace p211 := eq_true p211; replace q211 := eq_true q211) | (go_at_call 121; (with_reducible refine (spec_l1In.calls ((rd_T86 l0_2 x3_1).f1) 0 1000 true _ A21.out).mono ?_); rintro e w' ⟨rfl, ⟨nd, rfl⟩⟩; (try exact m2_)) | (go_at_call 119; (with_reducible refine (spec_l2NameOk.calls k1 ((rd_T86 l0_2 x3_1).f2) t213 _ A23.out).mono ?_); rintro e w' ⟨rfl, ⟨nd, rfl⟩⟩; (try exact m2_))); try go_wp2_with (first | (go_at_call 119; (with_reducible refine (spec_l2NameOk.calls k1 ((rd_T86 l0_2 x3_1).f0) true _ A14.out).mono ?_); rintro e w' ⟨rfl, ⟨nd, rfl⟩⟩; (try exact m2_); obtain ⟨hcz26_0, hcz26_1, hcz26_2, hcz26_3⟩ := cz4_ BK207.out; obtain ⟨hfz26_0, hfz26_1, hfz26_2, hfz26_3⟩ := fz4_ BK207.out; have p211 : 0 ≤ ((ji17) : Int) := of_decide_eq_true m4_; have q211 : (ji17) < (l0_2.length : Int) := of_decide_eq_true m4_; obtain ⟨ad211, e211, hx211_0, hx211_1, hx211_2⟩ := at_T86 HR0_2.out (ji17) p211 q211; obtain rfl : ad208 = ad211 := (by injection e211); have hn211_0 : ad208.block ≠ gb209 := Nat.ne_of_lt (Nat.lt_of_lt_of_le m25_ GW209.out); have hn211_1 : ad208.block ≠ gb209 := Nat.ne_of_lt (Nat.lt_of_lt_of_le m25_ GW209.out); have hn211_2 : ad208.block ≠ gb209 := Nat.ne_of_lt (Nat.lt_of_lt_of_le m25_ GW209.out); replace hx211_0 := (HB.out.cell (World.block_lt_of_cell? w _ hx211_0)).trans hx211_0; replace hx211_1 := (HB.out.cell (World.block_lt_of_cell? w _ hx211_1)).trans hx211_1; replace hx211_2 := (HB.out.cell (World.block_lt_of_cell? w _ hx211_2)).trans hx211_2; replace hx211_0 := (cell_far (p := ⟨gb209, 0, none⟩) m18_ (.string ((rd_T86 l0_2 x3_1).f0))).trans hx211_0; replace hx211_1 := (cell_far (p := ⟨gb209, 0, none⟩) m18_ (.string ((rd_T86 l0_2 x3_1).f0))).trans hx211_1; replace hx211_2 := (cell_far (p := ⟨gb209, 0, none⟩) m18_ (.string ((rd_T86 l0_2 x3_1).f0))).trans hx211_2; replace hx211_0 := (cell_far (p := ⟨gb209, 1, none⟩) m19_ (.int .i64 ((rd_T86 l0_2 x3_1).f1))).trans hx211_0; replace hx211_1 := (cell_far (p := ⟨gb209, 1, none⟩) m19_ (.int .i64 ((rd_T86 l0_2 x3_1).f1))).trans hx211_1; replace hx211_2 := (cell_far (p := ⟨gb209, 1, none⟩) m19_ (.int .i64 ((rd_T86 l0_2 x3_1).f1))).trans hx211_2; replace hx211_0 := (cell_far (p := ⟨gb209, 2, none⟩) m20_ (.string ((rd_T86 l0_2 x3_1).f2))).trans hx211_0; replace hx211_1 := (cell_far (p := ⟨gb209, 2, none⟩) m20_ (.string ((rd_T86 l0_2 x3_1).f2))).trans hx211_1; replace hx211_2 := (cell_far (p := ⟨gb209, 2, none⟩) m20_ (.string ((rd_T86 l0_2 x3_1).f2))).trans hx211_2; (try have hy211_0 := fun (n_ : Nat) => (show (((((w11.drewN n_).setCell ⟨gb209, 0, none⟩ (.string ((rd_T86 l0_2 x3_1).f0))).setCell ⟨gb209, 1, none⟩ (.int .i64 ((rd_T86 l0_2 x3_1).f1))).setCell ⟨gb209, 2, none⟩ (.string ((rd_T86 l0_2 x3_1).f2)))).cell? _ = some _ from hx211_0)); (try have hy211_1 := fun (n_ : Nat) => (show (((((w11.drewN n_).setCell ⟨gb209, 0, none⟩ (.string ((rd_T86 l0_2 x3_1).f0))).setCell ⟨gb209, 1, none⟩ (.int .i64 ((rd_T86 l0_2 x3_1).f1))).setCell ⟨gb209, 2, none⟩ (.string ((rd_T86 l0_2 x3_1).f2)))).cell? _ = some _ from hx211_1)); (try have hy211_2 := fun (n_ : Nat) => (show (((((w11.drewN n_).setCell ⟨gb209, 0, none⟩ (.string ((rd_T86 l0_2 x3_1).f0))).setCell ⟨gb209, 1, none⟩ (.int .i64 ((rd_T86 l0_2 x3_1).f1))).setCell ⟨gb209, 2, none⟩ (.string ((rd_T86 l0_2 x3_1).f2)))).cell? _ = some _ from hx211_2)); clear hn211_0; clear hn211_1; clear hn211_2; replace p211 := eq_true p211; replace q211 := eq_true q211) | (go_at_call 121; (with_reducible refine (spec_l1In.calls ((rd_T86 l0_2 x3_1).f1) 0 1000 true _ A21.out).mono ?_); rintro e w' ⟨rfl, ⟨nd, rfl⟩⟩; (try exact m2_)) | (go_at_call 119; (with_reducible refine (spec_l2NameOk.calls k1 ((rd_T86 l0_2 x3_1).f2) t213 _ A23.out).mono ?_); rintro e w' ⟨rfl, ⟨nd, rfl⟩⟩; (try exact m2_))))
             go_meet
             case rel => exact ⟨_, (!t213), m8_, H', ⟨m75_⟩, ⟨m22_⟩, ⟨m14_⟩, ⟨m40_⟩⟩
            ·replace c22 := Bool.eq_false_iff.mpr c22
             subst c22
             have H1 : (spec_l2PlacesOk.j1 k1 x3_1 true l0_0 l0_1 l0_2 l0_3) = some r := by rw [if_neg (show ¬ (false = true) by decide)] at H; exact H
             clear H
             have H := H1
             clear H1
             have H' := Aside0.mk H
             clear H
             have hnb27 := NB209_207.out
             have hnc27 := NB207_209.out
             obtain ⟨hcz28_0, hcz28_1, hcz28_2⟩ := cz3_ BK209.out
             obtain ⟨hfz28_0, hfz28_1, hfz28_2⟩ := fz3_ BK209.out
             go_wp2_with (first | (go_at_call 119; (with_reducible refine (spec_l2NameOk.calls k1 ((rd_T86 l0_2 x3_1).f0) true _ A14.out).mono ?_); rintro e w' ⟨rfl, ⟨nd, rfl⟩⟩; (try exact m2_); obtain ⟨hcz29_0, hcz29_1, hcz29_2, hcz29_3⟩ := cz4_ BK207.out; obtain ⟨hfz29_0, hfz29_1, hfz29_2, hfz29_3⟩ := fz4_ BK207.out; have p211 : 0 ≤ ((ji17) : Int) := of_decide_eq_true m4_; have q211 : (ji17) < (l0_2.length : Int) := of_decide_eq_true m4_; obtain ⟨ad211, e211, hx211_0, hx211_1, hx211_2⟩ := at_T86 HR0_2.out (ji17) p211 q211; obtain rfl : ad208 = ad211 := (by injection e211); have hn211_0 : ad208.block ≠ gb209 := Nat.ne_of_lt (Nat.lt_of_lt_of_le m25_ GW209.out); have hn211_1 : ad208.block ≠ gb209 := Nat.ne_of_lt (Nat.lt_of_lt_of_le m25_ GW209.out); have hn211_2 : ad208.block ≠ gb209 := Nat.ne_of_lt (Nat.lt_of_lt_of_le m25_ GW209.out); replace hx211_0 := (HB.out.cell (World.block_lt_of_cell? w _ hx211_0)).trans hx211_0; replace hx211_1 := (HB.out.cell (World.block_lt_of_cell? w _ hx211_1)).trans hx211_1; replace hx211_2 := (HB.out.cell (World.block_lt_of_cell? w _ hx211_2)).trans hx211_2; replace hx211_0 := (cell_far (p := ⟨gb209, 0, none⟩) m18_ (.string ((rd_T86 l0_2 x3_1).f0))).trans hx211_0; replace hx211_1 := (cell_far (p := ⟨gb209, 0, none⟩) m18_ (.string ((rd_T86 l0_2 x3_1).f0))).trans hx211_1; replace hx211_2 := (cell_far (p := ⟨gb209, 0, none⟩) m18_ (.string ((rd_T86 l0_2 x3_1).f0))).trans hx211_2; replace hx211_0 := (cell_far (p := ⟨gb209, 1, none⟩) m19_ (.int .i64 ((rd_T86 l0_2 x3_1).f1))).trans hx211_0; replace hx211_1 := (cell_far (p := ⟨gb209, 1, none⟩) m19_ (.int .i64 ((rd_T86 l0_2 x3_1).f1))).trans hx211_1; replace hx211_2 := (cell_far (p := ⟨gb209, 1, none⟩) m19_ (.int .i64 ((rd_T86 l0_2 x3_1).f1))).trans hx211_2; replace hx211_0 := (cell_far (p := ⟨gb209, 2, none⟩) m20_ (.string ((rd_T86 l0_2 x3_1).f2))).trans hx211_0; replace hx211_1 := (cell_far (p := ⟨gb209, 2, none⟩) m20_ (.string ((rd_T86 l0_2 x3_1).f2))).trans hx211_1; replace hx211_2 := (cell_far (p := ⟨gb209, 2, none⟩) m20_ (.string ((rd_T86 l0_2 x3_1).f2))).trans hx211_2; (try have hy211_0 := fun (n_ : Nat) => (show (((((w11.drewN n_).setCell ⟨gb209, 0, none⟩ (.string ((rd_T86 l0_2 x3_1).f0))).setCell ⟨gb209, 1, none⟩ (.int .i64 ((rd_T86 l0_2 x3_1).f1))).setCell ⟨gb209, 2, none⟩ (.string ((rd_T86 l0_2 x3_1).f2)))).cell? _ = some _ from hx211_0)); (try have hy211_1 := fun (n_ : Nat) => (show (((((w11.drewN n_).setCell ⟨gb209, 0, none⟩ (.string ((rd_T86 l0_2 x3_1).f0))).setCell ⟨gb209, 1, none⟩ (.int .i64 ((rd_T86 l0_2 x3_1).f1))).setCell ⟨gb209, 2, none⟩ (.string ((rd_T86 l0_2 x3_1).f2)))).cell? _ = some _ from hx211_1)); (try have hy211_2 := fun (n_ : Nat) => (show (((((w11.drewN n_).setCell ⟨gb209, 0, none⟩ (.string ((rd_T86 l0_2 x3_1).f0))).setCell ⟨gb209, 1, none⟩ (.int .i64 ((rd_T86 l0_2 x3_1).f1))).setCell ⟨gb209, 2, none⟩ (.string ((rd_T86 l0_2 x3_1).f2)))).cell? _ = some _ from hx211_2)); clear hn211_0; clear hn211_1; clear hn211_2; replace p211 := eq_true p211; replace q211 := eq_true q211) | (go_at_call 121; (with_reducible refine (spec_l1In.calls ((rd_T86 l0_2 x3_1).f1) 0 1000 false _ A21.out).mono ?_); rintro e w' ⟨rfl, ⟨nd, rfl⟩⟩; (try exact m2_)))
             repeat (go_quiet (first | (go_at_call 119; (with_reducible refine (spec_l2NameOk.calls k1 ((rd_T86 l0_2 x3_1).f0) true _ A14.out).mono ?_); rintro e w' ⟨rfl, ⟨nd, rfl⟩⟩; (try exact m2_); obtain ⟨hcz29_0, hcz29_1, hcz29_2, hcz29_3⟩ := cz4_ BK207.out; obtain ⟨hfz29_0, hfz29_1, hfz29_2, hfz29_3⟩ := fz4_ BK207.out; have p211 : 0 ≤ ((ji17) : Int) := of_decide_eq_true m4_; have q211 : (ji17) < (l0_2.length : Int) := of_decide_eq_true m4_; obtain ⟨ad211, e211, hx211_0, hx211_1, hx211_2⟩ := at_T86 HR0_2.out (ji17) p211 q211; obtain rfl : ad208 = ad211 := (by injection e211); have hn211_0 : ad208.block ≠ gb209 := Nat.ne_of_lt (Nat.lt_of_lt_of_le m25_ GW209.out); have hn211_1 : ad208.block ≠ gb209 := Nat.ne_of_lt (Nat.lt_of_lt_of_le m25_ GW209.out); have hn211_2 : ad208.block ≠ gb209 := Nat.ne_of_lt (Nat.lt_of_lt_of_le m25_ GW209.out); replace hx211_0 := (HB.out.cell (World.block_lt_of_cell? w _ hx211_0)).trans hx211_0; replace hx211_1 := (HB.out.cell (World.block_lt_of_cell? w _ hx211_1)).trans hx211_1; replace hx211_2 := (HB.out.cell (World.block_lt_of_cell? w _ hx211_2)).trans hx211_2; replace hx211_0 := (cell_far (p := ⟨gb209, 0, none⟩) m18_ (.string ((rd_T86 l0_2 x3_1).f0))).trans hx211_0; replace hx211_1 := (cell_far (p := ⟨gb209, 0, none⟩) m18_ (.string ((rd_T86 l0_2 x3_1).f0))).trans hx211_1; replace hx211_2 := (cell_far (p := ⟨gb209, 0, none⟩) m18_ (.string ((rd_T86 l0_2 x3_1).f0))).trans hx211_2; replace hx211_0 := (cell_far (p := ⟨gb209, 1, none⟩) m19_ (.int .i64 ((rd_T86 l0_2 x3_1).f1))).trans hx211_0; replace hx211_1 := (cell_far (p := ⟨gb209, 1, none⟩) m19_ (.int .i64 ((rd_T86 l0_2 x3_1).f1))).trans hx211_1; replace hx211_2 := (cell_far (p := ⟨gb209, 1, none⟩) m19_ (.int .i64 ((rd_T86 l0_2 x3_1).f1))).trans hx211_2; replace hx211_0 := (cell_far (p := ⟨gb209, 2, none⟩) m20_ (.string ((rd_T86 l0_2 x3_1).f2))).trans hx211_0; replace hx211_1 := (cell_far (p := ⟨gb209, 2, none⟩) m20_ (.string ((rd_T86 l0_2 x3_1).f2))).trans hx211_1; replace hx211_2 := (cell_far (p := ⟨gb209, 2, none⟩) m20_ (.string ((rd_T86 l0_2 x3_1).f2))).trans hx211_2; (try have hy211_0 := fun (n_ : Nat) => (show (((((w11.drewN n_).setCell ⟨gb209, 0, none⟩ (.string ((rd_T86 l0_2 x3_1).f0))).setCell ⟨gb209, 1, none⟩ (.int .i64 ((rd_T86 l0_2 x3_1).f1))).setCell ⟨gb209, 2, none⟩ (.string ((rd_T86 l0_2 x3_1).f2)))).cell? _ = some _ from hx211_0)); (try have hy211_1 := fun (n_ : Nat) => (show (((((w11.drewN n_).setCell ⟨gb209, 0, none⟩ (.string ((rd_T86 l0_2 x3_1).f0))).setCell ⟨gb209, 1, none⟩ (.int .i64 ((rd_T86 l0_2 x3_1).f1))).setCell ⟨gb209, 2, none⟩ (.string ((rd_T86 l0_2 x3_1).f2)))).cell? _ = some _ from hx211_1)); (try have hy211_2 := fun (n_ : Nat) => (show (((((w11.drewN n_).setCell ⟨gb209, 0, none⟩ (.string ((rd_T86 l0_2 x3_1).f0))).setCell ⟨gb209, 1, none⟩ (.int .i64 ((rd_T86 l0_2 x3_1).f1))).setCell ⟨gb209, 2, none⟩ (.string ((rd_T86 l0_2 x3_1).f2)))).cell? _ = some _ from hx211_2)); clear hn211_0; clear hn211_1; clear hn211_2; replace p211 := eq_true p211; replace q211 := eq_true q211) | (go_at_call 121; (with_reducible refine (spec_l1In.calls ((rd_T86 l0_2 x3_1).f1) 0 1000 false _ A21.out).mono ?_); rintro e w' ⟨rfl, ⟨nd, rfl⟩⟩; (try exact m2_))); try go_wp2_with (first | (go_at_call 119; (with_reducible refine (spec_l2NameOk.calls k1 ((rd_T86 l0_2 x3_1).f0) true _ A14.out).mono ?_); rintro e w' ⟨rfl, ⟨nd, rfl⟩⟩; (try exact m2_); obtain ⟨hcz29_0, hcz29_1, hcz29_2, hcz29_3⟩ := cz4_ BK207.out; obtain ⟨hfz29_0, hfz29_1, hfz29_2, hfz29_3⟩ := fz4_ BK207.out; have p211 : 0 ≤ ((ji17) : Int) := of_decide_eq_true m4_; have q211 : (ji17) < (l0_2.length : Int) := of_decide_eq_true m4_; obtain ⟨ad211, e211, hx211_0, hx211_1, hx211_2⟩ := at_T86 HR0_2.out (ji17) p211 q211; obtain rfl : ad208 = ad211 := (by injection e211); have hn211_0 : ad208.block ≠ gb209 := Nat.ne_of_lt (Nat.lt_of_lt_of_le m25_ GW209.out); have hn211_1 : ad208.block ≠ gb209 := Nat.ne_of_lt (Nat.lt_of_lt_of_le m25_ GW209.out); have hn211_2 : ad208.block ≠ gb209 := Nat.ne_of_lt (Nat.lt_of_lt_of_le m25_ GW209.out); replace hx211_0 := (HB.out.cell (World.block_lt_of_cell? w _ hx211_0)).trans hx211_0; replace hx211_1 := (HB.out.cell (World.block_lt_of_cell? w _ hx211_1)).trans hx211_1; replace hx211_2 := (HB.out.cell (World.block_lt_of_cell? w _ hx211_2)).trans hx211_2; replace hx211_0 := (cell_far (p := ⟨gb209, 0, none⟩) m18_ (.string ((rd_T86 l0_2 x3_1).f0))).trans hx211_0; replace hx211_1 := (cell_far (p := ⟨gb209, 0, none⟩) m18_ (.string ((rd_T86 l0_2 x3_1).f0))).trans hx211_1; replace hx211_2 := (cell_far (p := ⟨gb209, 0, none⟩) m18_ (.string ((rd_T86 l0_2 x3_1).f0))).trans hx211_2; replace hx211_0 := (cell_far (p := ⟨gb209, 1, none⟩) m19_ (.int .i64 ((rd_T86 l0_2 x3_1).f1))).trans hx211_0; replace hx211_1 := (cell_far (p := ⟨gb209, 1, none⟩) m19_ (.int .i64 ((rd_T86 l0_2 x3_1).f1))).trans hx211_1; replace hx211_2 := (cell_far (p := ⟨gb209, 1, none⟩) m19_ (.int .i64 ((rd_T86 l0_2 x3_1).f1))).trans hx211_2; replace hx211_0 := (cell_far (p := ⟨gb209, 2, none⟩) m20_ (.string ((rd_T86 l0_2 x3_1).f2))).trans hx211_0; replace hx211_1 := (cell_far (p := ⟨gb209, 2, none⟩) m20_ (.string ((rd_T86 l0_2 x3_1).f2))).trans hx211_1; replace hx211_2 := (cell_far (p := ⟨gb209, 2, none⟩) m20_ (.string ((rd_T86 l0_2 x3_1).f2))).trans hx211_2; (try have hy211_0 := fun (n_ : Nat) => (show (((((w11.drewN n_).setCell ⟨gb209, 0, none⟩ (.string ((rd_T86 l0_2 x3_1).f0))).setCell ⟨gb209, 1, none⟩ (.int .i64 ((rd_T86 l0_2 x3_1).f1))).setCell ⟨gb209, 2, none⟩ (.string ((rd_T86 l0_2 x3_1).f2)))).cell? _ = some _ from hx211_0)); (try have hy211_1 := fun (n_ : Nat) => (show (((((w11.drewN n_).setCell ⟨gb209, 0, none⟩ (.string ((rd_T86 l0_2 x3_1).f0))).setCell ⟨gb209, 1, none⟩ (.int .i64 ((rd_T86 l0_2 x3_1).f1))).setCell ⟨gb209, 2, none⟩ (.string ((rd_T86 l0_2 x3_1).f2)))).cell? _ = some _ from hx211_1)); (try have hy211_2 := fun (n_ : Nat) => (show (((((w11.drewN n_).setCell ⟨gb209, 0, none⟩ (.string ((rd_T86 l0_2 x3_1).f0))).setCell ⟨gb209, 1, none⟩ (.int .i64 ((rd_T86 l0_2 x3_1).f1))).setCell ⟨gb209, 2, none⟩ (.string ((rd_T86 l0_2 x3_1).f2)))).cell? _ = some _ from hx211_2)); clear hn211_0; clear hn211_1; clear hn211_2; replace p211 := eq_true p211; replace q211 := eq_true q211) | (go_at_call 121; (with_reducible refine (spec_l1In.calls ((rd_T86 l0_2 x3_1).f1) 0 1000 false _ A21.out).mono ?_); rintro e w' ⟨rfl, ⟨nd, rfl⟩⟩; (try exact m2_))))
             go_meet
             case rel => exact ⟨_, (true), m8_, H', ⟨m75_⟩, ⟨m22_⟩, ⟨m14_⟩, ⟨m40_⟩⟩
           ·rw [if_neg c20] at H
            have c20b0 : (Op.bytesLess (((rd_T86 l0_2 (ji17)).f0).toList) (((rd_T86 l0_2 x3_1).f0).toList)) = false := by simpa using c20
            clear c20
            have H' := Aside0.mk H
            clear H
            have hnb30 := NB209_207.out
            have hnc30 := NB207_209.out
            obtain ⟨hcz31_0, hcz31_1, hcz31_2⟩ := cz3_ BK209.out
            obtain ⟨hfz31_0, hfz31_1, hfz31_2⟩ := fz3_ BK209.out
            go_wp2_with (first | (go_at_call 119; (with_reducible refine (spec_l2NameOk.calls k1 ((rd_T86 l0_2 x3_1).f0) true _ A14.out).mono ?_); rintro e w' ⟨rfl, ⟨nd, rfl⟩⟩; (try exact m2_); obtain ⟨hcz32_0, hcz32_1, hcz32_2, hcz32_3⟩ := cz4_ BK207.out; obtain ⟨hfz32_0, hfz32_1, hfz32_2, hfz32_3⟩ := fz4_ BK207.out; have p211 : 0 ≤ ((ji17) : Int) := of_decide_eq_true m4_; have q211 : (ji17) < (l0_2.length : Int) := of_decide_eq_true m4_; obtain ⟨ad211, e211, hx211_0, hx211_1, hx211_2⟩ := at_T86 HR0_2.out (ji17) p211 q211; obtain rfl : ad208 = ad211 := (by injection e211); have hn211_0 : ad208.block ≠ gb209 := Nat.ne_of_lt (Nat.lt_of_lt_of_le m25_ GW209.out); have hn211_1 : ad208.block ≠ gb209 := Nat.ne_of_lt (Nat.lt_of_lt_of_le m25_ GW209.out); have hn211_2 : ad208.block ≠ gb209 := Nat.ne_of_lt (Nat.lt_of_lt_of_le m25_ GW209.out); replace hx211_0 := (HB.out.cell (World.block_lt_of_cell? w _ hx211_0)).trans hx211_0; replace hx211_1 := (HB.out.cell (World.block_lt_of_cell? w _ hx211_1)).trans hx211_1; replace hx211_2 := (HB.out.cell (World.block_lt_of_cell? w _ hx211_2)).trans hx211_2; replace hx211_0 := (cell_far (p := ⟨gb209, 0, none⟩) m18_ (.string ((rd_T86 l0_2 x3_1).f0))).trans hx211_0; replace hx211_1 := (cell_far (p := ⟨gb209, 0, none⟩) m18_ (.string ((rd_T86 l0_2 x3_1).f0))).trans hx211_1; replace hx211_2 := (cell_far (p := ⟨gb209, 0, none⟩) m18_ (.string ((rd_T86 l0_2 x3_1).f0))).trans hx211_2; replace hx211_0 := (cell_far (p := ⟨gb209, 1, none⟩) m19_ (.int .i64 ((rd_T86 l0_2 x3_1).f1))).trans hx211_0; replace hx211_1 := (cell_far (p := ⟨gb209, 1, none⟩) m19_ (.int .i64 ((rd_T86 l0_2 x3_1).f1))).trans hx211_1; replace hx211_2 := (cell_far (p := ⟨gb209, 1, none⟩) m19_ (.int .i64 ((rd_T86 l0_2 x3_1).f1))).trans hx211_2; replace hx211_0 := (cell_far (p := ⟨gb209, 2, none⟩) m20_ (.string ((rd_T86 l0_2 x3_1).f2))).trans hx211_0; replace hx211_1 := (cell_far (p := ⟨gb209, 2, none⟩) m20_ (.string ((rd_T86 l0_2 x3_1).f2))).trans hx211_1; replace hx211_2 := (cell_far (p := ⟨gb209, 2, none⟩) m20_ (.string ((rd_T86 l0_2 x3_1).f2))).trans hx211_2; (try have hy211_0 := fun (n_ : Nat) => (show (((((w11.drewN n_).setCell ⟨gb209, 0, none⟩ (.string ((rd_T86 l0_2 x3_1).f0))).setCell ⟨gb209, 1, none⟩ (.int .i64 ((rd_T86 l0_2 x3_1).f1))).setCell ⟨gb209, 2, none⟩ (.string ((rd_T86 l0_2 x3_1).f2)))).cell? _ = some _ from hx211_0)); (try have hy211_1 := fun (n_ : Nat) => (show (((((w11.drewN n_).setCell ⟨gb209, 0, none⟩ (.string ((rd_T86 l0_2 x3_1).f0))).setCell ⟨gb209, 1, none⟩ (.int .i64 ((rd_T86 l0_2 x3_1).f1))).setCell ⟨gb209, 2, none⟩ (.string ((rd_T86 l0_2 x3_1).f2)))).cell? _ = some _ from hx211_1)); (try have hy211_2 := fun (n_ : Nat) => (show (((((w11.drewN n_).setCell ⟨gb209, 0, none⟩ (.string ((rd_T86 l0_2 x3_1).f0))).setCell ⟨gb209, 1, none⟩ (.int .i64 ((rd_T86 l0_2 x3_1).f1))).setCell ⟨gb209, 2, none⟩ (.string ((rd_T86 l0_2 x3_1).f2)))).cell? _ = some _ from hx211_2)); clear hn211_0; clear hn211_1; clear hn211_2; replace p211 := eq_true p211; replace q211 := eq_true q211))
            repeat (go_quiet (first | (go_at_call 119; (with_reducible refine (spec_l2NameOk.calls k1 ((rd_T86 l0_2 x3_1).f0) true _ A14.out).mono ?_); rintro e w' ⟨rfl, ⟨nd, rfl⟩⟩; (try exact m2_); obtain ⟨hcz32_0, hcz32_1, hcz32_2, hcz32_3⟩ := cz4_ BK207.out; obtain ⟨hfz32_0, hfz32_1, hfz32_2, hfz32_3⟩ := fz4_ BK207.out; have p211 : 0 ≤ ((ji17) : Int) := of_decide_eq_true m4_; have q211 : (ji17) < (l0_2.length : Int) := of_decide_eq_true m4_; obtain ⟨ad211, e211, hx211_0, hx211_1, hx211_2⟩ := at_T86 HR0_2.out (ji17) p211 q211; obtain rfl : ad208 = ad211 := (by injection e211); have hn211_0 : ad208.block ≠ gb209 := Nat.ne_of_lt (Nat.lt_of_lt_of_le m25_ GW209.out); have hn211_1 : ad208.block ≠ gb209 := Nat.ne_of_lt (Nat.lt_of_lt_of_le m25_ GW209.out); have hn211_2 : ad208.block ≠ gb209 := Nat.ne_of_lt (Nat.lt_of_lt_of_le m25_ GW209.out); replace hx211_0 := (HB.out.cell (World.block_lt_of_cell? w _ hx211_0)).trans hx211_0; replace hx211_1 := (HB.out.cell (World.block_lt_of_cell? w _ hx211_1)).trans hx211_1; replace hx211_2 := (HB.out.cell (World.block_lt_of_cell? w _ hx211_2)).trans hx211_2; replace hx211_0 := (cell_far (p := ⟨gb209, 0, none⟩) m18_ (.string ((rd_T86 l0_2 x3_1).f0))).trans hx211_0; replace hx211_1 := (cell_far (p := ⟨gb209, 0, none⟩) m18_ (.string ((rd_T86 l0_2 x3_1).f0))).trans hx211_1; replace hx211_2 := (cell_far (p := ⟨gb209, 0, none⟩) m18_ (.string ((rd_T86 l0_2 x3_1).f0))).trans hx211_2; replace hx211_0 := (cell_far (p := ⟨gb209, 1, none⟩) m19_ (.int .i64 ((rd_T86 l0_2 x3_1).f1))).trans hx211_0; replace hx211_1 := (cell_far (p := ⟨gb209, 1, none⟩) m19_ (.int .i64 ((rd_T86 l0_2 x3_1).f1))).trans hx211_1; replace hx211_2 := (cell_far (p := ⟨gb209, 1, none⟩) m19_ (.int .i64 ((rd_T86 l0_2 x3_1).f1))).trans hx211_2; replace hx211_0 := (cell_far (p := ⟨gb209, 2, none⟩) m20_ (.string ((rd_T86 l0_2 x3_1).f2))).trans hx211_0; replace hx211_1 := (cell_far (p := ⟨gb209, 2, none⟩) m20_ (.string ((rd_T86 l0_2 x3_1).f2))).trans hx211_1; replace hx211_2 := (cell_far (p := ⟨gb209, 2, none⟩) m20_ (.string ((rd_T86 l0_2 x3_1).f2))).trans hx211_2; (try have hy211_0 := fun (n_ : Nat) => (show (((((w11.drewN n_).setCell ⟨gb209, 0, none⟩ (.string ((rd_T86 l0_2 x3_1).f0))).setCell ⟨gb209, 1, none⟩ (.int .i64 ((rd_T86 l0_2 x3_1).f1))).setCell ⟨gb209, 2, none⟩ (.string ((rd_T86 l0_2 x3_1).f2)))).cell? _ = some _ from hx211_0)); (try have hy211_1 := fun (n_ : Nat) => (show (((((w11.drewN n_).setCell ⟨gb209, 0, none⟩ (.string ((rd_T86 l0_2 x3_1).f0))).setCell ⟨gb209, 1, none⟩ (.int .i64 ((rd_T86 l0_2 x3_1).f1))).setCell ⟨gb209, 2, none⟩ (.string ((rd_T86 l0_2 x3_1).f2)))).cell? _ = some _ from hx211_1)); (try have hy211_2 := fun (n_ : Nat) => (show (((((w11.drewN n_).setCell ⟨gb209, 0, none⟩ (.string ((rd_T86 l0_2 x3_1).f0))).setCell ⟨gb209, 1, none⟩ (.int .i64 ((rd_T86 l0_2 x3_1).f1))).setCell ⟨gb209, 2, none⟩ (.string ((rd_T86 l0_2 x3_1).f2)))).cell? _ = some _ from hx211_2)); clear hn211_0; clear hn211_1; clear hn211_2; replace p211 := eq_true p211; replace q211 := eq_true q211)); try go_wp2_with (first | (go_at_call 119; (with_reducible refine (spec_l2NameOk.calls k1 ((rd_T86 l0_2 x3_1).f0) true _ A14.out).mono ?_); rintro e w' ⟨rfl, ⟨nd, rfl⟩⟩; (try exact m2_); obtain ⟨hcz32_0, hcz32_1, hcz32_2, hcz32_3⟩ := cz4_ BK207.out; obtain ⟨hfz32_0, hfz32_1, hfz32_2, hfz32_3⟩ := fz4_ BK207.out; have p211 : 0 ≤ ((ji17) : Int) := of_decide_eq_true m4_; have q211 : (ji17) < (l0_2.length : Int) := of_decide_eq_true m4_; obtain ⟨ad211, e211, hx211_0, hx211_1, hx211_2⟩ := at_T86 HR0_2.out (ji17) p211 q211; obtain rfl : ad208 = ad211 := (by injection e211); have hn211_0 : ad208.block ≠ gb209 := Nat.ne_of_lt (Nat.lt_of_lt_of_le m25_ GW209.out); have hn211_1 : ad208.block ≠ gb209 := Nat.ne_of_lt (Nat.lt_of_lt_of_le m25_ GW209.out); have hn211_2 : ad208.block ≠ gb209 := Nat.ne_of_lt (Nat.lt_of_lt_of_le m25_ GW209.out); replace hx211_0 := (HB.out.cell (World.block_lt_of_cell? w _ hx211_0)).trans hx211_0; replace hx211_1 := (HB.out.cell (World.block_lt_of_cell? w _ hx211_1)).trans hx211_1; replace hx211_2 := (HB.out.cell (World.block_lt_of_cell? w _ hx211_2)).trans hx211_2; replace hx211_0 := (cell_far (p := ⟨gb209, 0, none⟩) m18_ (.string ((rd_T86 l0_2 x3_1).f0))).trans hx211_0; replace hx211_1 := (cell_far (p := ⟨gb209, 0, none⟩) m18_ (.string ((rd_T86 l0_2 x3_1).f0))).trans hx211_1; replace hx211_2 := (cell_far (p := ⟨gb209, 0, none⟩) m18_ (.string ((rd_T86 l0_2 x3_1).f0))).trans hx211_2; replace hx211_0 := (cell_far (p := ⟨gb209, 1, none⟩) m19_ (.int .i64 ((rd_T86 l0_2 x3_1).f1))).trans hx211_0; replace hx211_1 := (cell_far (p := ⟨gb209, 1, none⟩) m19_ (.int .i64 ((rd_T86 l0_2 x3_1).f1))).trans hx211_1; replace hx211_2 := (cell_far (p := ⟨gb209, 1, none⟩) m19_ (.int .i64 ((rd_T86 l0_2 x3_1).f1))).trans hx211_2; replace hx211_0 := (cell_far (p := ⟨gb209, 2, none⟩) m20_ (.string ((rd_T86 l0_2 x3_1).f2))).trans hx211_0; replace hx211_1 := (cell_far (p := ⟨gb209, 2, none⟩) m20_ (.string ((rd_T86 l0_2 x3_1).f2))).trans hx211_1; replace hx211_2 := (cell_far (p := ⟨gb209, 2, none⟩) m20_ (.string ((rd_T86 l0_2 x3_1).f2))).trans hx211_2; (try have hy211_0 := fun (n_ : Nat) => (show (((((w11.drewN n_).setCell ⟨gb209, 0, none⟩ (.string ((rd_T86 l0_2 x3_1).f0))).setCell ⟨gb209, 1, none⟩ (.int .i64 ((rd_T86 l0_2 x3_1).f1))).setCell ⟨gb209, 2, none⟩ (.string ((rd_T86 l0_2 x3_1).f2)))).cell? _ = some _ from hx211_0)); (try have hy211_1 := fun (n_ : Nat) => (show (((((w11.drewN n_).setCell ⟨gb209, 0, none⟩ (.string ((rd_T86 l0_2 x3_1).f0))).setCell ⟨gb209, 1, none⟩ (.int .i64 ((rd_T86 l0_2 x3_1).f1))).setCell ⟨gb209, 2, none⟩ (.string ((rd_T86 l0_2 x3_1).f2)))).cell? _ = some _ from hx211_1)); (try have hy211_2 := fun (n_ : Nat) => (show (((((w11.drewN n_).setCell ⟨gb209, 0, none⟩ (.string ((rd_T86 l0_2 x3_1).f0))).setCell ⟨gb209, 1, none⟩ (.int .i64 ((rd_T86 l0_2 x3_1).f1))).setCell ⟨gb209, 2, none⟩ (.string ((rd_T86 l0_2 x3_1).f2)))).cell? _ = some _ from hx211_2)); clear hn211_0; clear hn211_1; clear hn211_2; replace p211 := eq_true p211; replace q211 := eq_true q211)))
            go_meet
            case rel => exact ⟨_, (true), m8_, H', ⟨m75_⟩, ⟨m22_⟩, ⟨m14_⟩, ⟨m40_⟩⟩
          ·rw [if_neg c19] at H
           exact absurd H (by simp)
         ·rw [if_neg c18] at H
          exact absurd H (by simp)
        ·rw [if_neg c16] at H
         have c16b0 : decide (0 < x3_1) = false := decide_eq_false c16
         clear c16
         (first | rw [c16b0] | (simp only [i64_w, i32_w]; rw [c16b0]) | skip)
         replace H := Option.bind_eq_some_iff.mp H
         obtain ⟨t214, A330, H⟩ := H
         replace H : (if t214 = true then ((spec_l2NameOk.f k1 ((rd_T86 l0_2 x3_1).f2)).bind fun t215 => (spec_l2PlacesOk.j1 k1 x3_1 (!t215) l0_0 l0_1 l0_2 l0_3)) else (spec_l2PlacesOk.j1 k1 x3_1 true l0_0 l0_1 l0_2 l0_3)) = some r := H
         have A33 := Aside0.mk A330
         clear A330
         by_cases c34 : t214 = true
         ·subst c34
          have H1 : ((spec_l2NameOk.f k1 ((rd_T86 l0_2 x3_1).f2)).bind fun t215 => (spec_l2PlacesOk.j1 k1 x3_1 (!t215) l0_0 l0_1 l0_2 l0_3)) = some r := by rw [if_pos rfl] at H; exact H
          clear H
          have H := H1
          clear H1
          replace H := Option.bind_eq_some_iff.mp H
          obtain ⟨t215, A350, H⟩ := H
          replace H : (spec_l2PlacesOk.j1 k1 x3_1 (!t215) l0_0 l0_1 l0_2 l0_3) = some r := H
          have A35 := Aside0.mk A350
          clear A350
          have H' := Aside0.mk H
          clear H
          have hnb36 := NB209_207.out
          have hnc36 := NB207_209.out
          obtain ⟨hcz37_0, hcz37_1, hcz37_2⟩ := cz3_ BK209.out
          obtain ⟨hfz37_0, hfz37_1, hfz37_2⟩ := fz3_ BK209.out
          go_wp2_with (first | (go_at_call 119; (with_reducible refine (spec_l2NameOk.calls k1 ((rd_T86 l0_2 x3_1).f0) true _ A14.out).mono ?_); rintro e w' ⟨rfl, ⟨nd, rfl⟩⟩; (try exact m2_)) | (go_at_call 121; (with_reducible refine (spec_l1In.calls ((rd_T86 l0_2 x3_1).f1) 0 1000 true _ A33.out).mono ?_); rintro e w' ⟨rfl, ⟨nd, rfl⟩⟩; (try exact m2_)) | (go_at_call 119; (with_reducible refine (spec_l2NameOk.calls k1 ((rd_T86 l0_2 x3_1).f2) t215 _ A35.out).mono ?_); rintro e w' ⟨rfl, ⟨nd, rfl⟩⟩; (try exact m2_)))
          repeat (go_quiet (first | (go_at_call 119; (with_reducible refine (spec_l2NameOk.calls k1 ((rd_T86 l0_2 x3_1).f0) true _ A14.out).mono ?_); rintro e w' ⟨rfl, ⟨nd, rfl⟩⟩; (try exact m2_)) | (go_at_call 121; (with_reducible refine (spec_l1In.calls ((rd_T86 l0_2 x3_1).f1) 0 1000 true _ A33.out).mono ?_); rintro e w' ⟨rfl, ⟨nd, rfl⟩⟩; (try exact m2_)) | (go_at_call 119; (with_reducible refine (spec_l2NameOk.calls k1 ((rd_T86 l0_2 x3_1).f2) t215 _ A35.out).mono ?_); rintro e w' ⟨rfl, ⟨nd, rfl⟩⟩; (try exact m2_))); try go_wp2_with (first | (go_at_call 119; (with_reducible refine (spec_l2NameOk.calls k1 ((rd_T86 l0_2 x3_1).f0) true _ A14.out).mono ?_); rintro e w' ⟨rfl, ⟨nd, rfl⟩⟩; (try exact m2_)) | (go_at_call 121; (with_reducible refine (spec_l1In.calls ((rd_T86 l0_2 x3_1).f1) 0 1000 true _ A33.out).mono ?_); rintro e w' ⟨rfl, ⟨nd, rfl⟩⟩; (try exact m2_)) | (go_at_call 119; (with_reducible refine (spec_l2NameOk.calls k1 ((rd_T86 l0_2 x3_1).f2) t215 _ A35.out).mono ?_); rintro e w' ⟨rfl, ⟨nd, rfl⟩⟩; (try exact m2_))))
          go_meet
          case rel => exact ⟨_, (!t215), m8_, H', ⟨m75_⟩, ⟨m22_⟩, ⟨m14_⟩, ⟨m40_⟩⟩
         ·replace c34 := Bool.eq_false_iff.mpr c34
          subst c34
          have H1 : (spec_l2PlacesOk.j1 k1 x3_1 true l0_0 l0_1 l0_2 l0_3) = some r := by rw [if_neg (show ¬ (false = true) by decide)] at H; exact H
          clear H
          have H := H1
          clear H1
          have H' := Aside0.mk H
          clear H
          have hnb38 := NB209_207.out
          have hnc38 := NB207_209.out
          obtain ⟨hcz39_0, hcz39_1, hcz39_2⟩ := cz3_ BK209.out
          obtain ⟨hfz39_0, hfz39_1, hfz39_2⟩ := fz3_ BK209.out
          go_wp2_with (first | (go_at_call 119; (with_reducible refine (spec_l2NameOk.calls k1 ((rd_T86 l0_2 x3_1).f0) true _ A14.out).mono ?_); rintro e w' ⟨rfl, ⟨nd, rfl⟩⟩; (try exact m2_)) | (go_at_call 121; (with_reducible refine (spec_l1In.calls ((rd_T86 l0_2 x3_1).f1) 0 1000 false _ A33.out).mono ?_); rintro e w' ⟨rfl, ⟨nd, rfl⟩⟩; (try exact m2_)))
          repeat (go_quiet (first | (go_at_call 119; (with_reducible refine (spec_l2NameOk.calls k1 ((rd_T86 l0_2 x3_1).f0) true _ A14.out).mono ?_); rintro e w' ⟨rfl, ⟨nd, rfl⟩⟩; (try exact m2_)) | (go_at_call 121; (with_reducible refine (spec_l1In.calls ((rd_T86 l0_2 x3_1).f1) 0 1000 false _ A33.out).mono ?_); rintro e w' ⟨rfl, ⟨nd, rfl⟩⟩; (try exact m2_))); try go_wp2_with (first | (go_at_call 119; (with_reducible refine (spec_l2NameOk.calls k1 ((rd_T86 l0_2 x3_1).f0) true _ A14.out).mono ?_); rintro e w' ⟨rfl, ⟨nd, rfl⟩⟩; (try exact m2_)) | (go_at_call 121; (with_reducible refine (spec_l1In.calls ((rd_T86 l0_2 x3_1).f1) 0 1000 false _ A33.out).mono ?_); rintro e w' ⟨rfl, ⟨nd, rfl⟩⟩; (try exact m2_))))
          go_meet
          case rel => exact ⟨_, (true), m8_, H', ⟨m75_⟩, ⟨m22_⟩, ⟨m14_⟩, ⟨m40_⟩⟩
       ·replace c15 := Bool.eq_false_iff.mpr c15
        subst c15
        have H1 : (spec_l2PlacesOk.j1 k1 x3_1 true l0_0 l0_1 l0_2 l0_3) = some r := by rw [if_neg (show ¬ (false = true) by decide)] at H; exact H
        clear H
        have H := H1
        clear H1
        have H' := Aside0.mk H
        clear H
        have hnb40 := NB209_207.out
        have hnc40 := NB207_209.out
        obtain ⟨hcz41_0, hcz41_1, hcz41_2⟩ := cz3_ BK209.out
        obtain ⟨hfz41_0, hfz41_1, hfz41_2⟩ := fz3_ BK209.out
        go_wp2_with (first | (go_at_call 119; (with_reducible refine (spec_l2NameOk.calls k1 ((rd_T86 l0_2 x3_1).f0) false _ A14.out).mono ?_); rintro e w' ⟨rfl, ⟨nd, rfl⟩⟩; (try exact m2_)))
        repeat (go_quiet (first | (go_at_call 119; (with_reducible refine (spec_l2NameOk.calls k1 ((rd_T86 l0_2 x3_1).f0) false _ A14.out).mono ?_); rintro e w' ⟨rfl, ⟨nd, rfl⟩⟩; (try exact m2_))); try go_wp2_with (first | (go_at_call 119; (with_reducible refine (spec_l2NameOk.calls k1 ((rd_T86 l0_2 x3_1).f0) false _ A14.out).mono ?_); rintro e w' ⟨rfl, ⟨nd, rfl⟩⟩; (try exact m2_))))
        go_meet
        case rel => exact ⟨_, (true), m8_, H', ⟨m75_⟩, ⟨m22_⟩, ⟨m14_⟩, ⟨m40_⟩⟩
      case rest =>
       clear HC9
       try clear c1
       try clear c2
       try clear c2b0
       try clear c2b1
       try clear p2
       try clear q2
       try clear hx2
       try clear c3
       try clear c4
       try clear c6
       try clear p6
       try clear c7
       try clear c7b0
       try clear c8
       try clear c8b0
       try clear c12
       try clear c15
       try clear c16
       try clear c16b0
       try clear c18
       try clear c18b0
       try clear c19
       try clear c19b0
       try clear c20
       try clear c20b0
       try clear p20
       try clear q20
       try clear hx20
       try clear p21
       try clear q21
       try clear hx21
       try clear c22
       try clear c24
       try clear c27
       try clear c30
       try clear c34
       try clear c36
       try clear c38
       try clear c40
       try clear hcz10_0
       try clear hcz10_1
       try clear hcz10_2
       try clear hcz10_3
       try clear hcz13_0
       try clear hcz13_1
       try clear hcz13_2
       try clear hcz25_0
       try clear hcz25_1
       try clear hcz25_2
       try clear hcz26_0
       try clear hcz26_1
       try clear hcz26_2
       try clear hcz26_3
       try clear hcz28_0
       try clear hcz28_1
       try clear hcz28_2
       try clear hcz29_0
       try clear hcz29_1
       try clear hcz29_2
       try clear hcz29_3
       try clear hcz31_0
       try clear hcz31_1
       try clear hcz31_2
       try clear hcz32_0
       try clear hcz32_1
       try clear hcz32_2
       try clear hcz32_3
       try clear hcz37_0
       try clear hcz37_1
       try clear hcz37_2
       try clear hcz39_0
       try clear hcz39_1
       try clear hcz39_2
       try clear hcz41_0
       try clear hcz41_1
       try clear hcz41_2
       try clear hcz4_0
       try clear hcz4_1
       try clear hcz4_2
       try clear hcz4_3
       try clear hcz6_0
       try clear hcz6_1
       try clear hcz6_2
       try clear hcz6_3
       try clear hfz10_0
       try clear hfz10_1
       try clear hfz10_2
       try clear hfz10_3
       try clear hfz13_0
       try clear hfz13_1
       try clear hfz13_2
       try clear hfz25_0
       try clear hfz25_1
       try clear hfz25_2
       try clear hfz26_0
       try clear hfz26_1
       try clear hfz26_2
       try clear hfz26_3
       try clear hfz28_0
       try clear hfz28_1
       try clear hfz28_2
       try clear hfz29_0
       try clear hfz29_1
       try clear hfz29_2
       try clear hfz29_3
       try clear hfz31_0
       try clear hfz31_1
       try clear hfz31_2
       try clear hfz32_0
       try clear hfz32_1
       try clear hfz32_2
       try clear hfz32_3
       try clear hfz37_0
       try clear hfz37_1
       try clear hfz37_2
       try clear hfz39_0
       try clear hfz39_1
       try clear hfz39_2
       try clear hfz41_0
       try clear hfz41_1
       try clear hfz41_2
       try clear hfz4_0
       try clear hfz4_1
       try clear hfz4_2
       try clear hfz4_3
       try clear hfz6_0
       try clear hfz6_1
       try clear hfz6_2
       try clear hfz6_3
       try clear hx208_0
       try clear hx208_1
       try clear hx208_2
       try clear hx211_0
       try clear hx211_1
       try clear hx211_2
       try clear p2
       try clear p208
       try clear p211
       try clear q208
       try clear q211
       obtain ⟨kq, x52_8, rfl, HA, HJ8, BK207, BK209, HB⟩ := hcut
       cases kq with
       | zero => exact absurd HA.out (by simp [spec_l2PlacesOk.j1])
       | succ kj8 =>
        have H := HA.out
        clear HA
        simp only [spec_l2PlacesOk.j1] at H
        by_cases c42 : x52_8 = true
        ·subst c42
         have H1 : (some false) = some r := by rw [if_pos rfl] at H; exact H
         clear H
         have H := H1
         clear H1
         obtain rfl := Option.some.inj H
         go_wp2
         repeat (go_quiet (fail); try go_wp2)
         go_ret
         exact ⟨m6_, m40_⟩
        ·replace c42 := Bool.eq_false_iff.mpr c42
         subst c42
         have H1 : (spec_l2PlacesOk.l0 kj8 (wrap64 (x3_1 + 1)) l0_0 l0_1 l0_2 l0_3) = some r := by rw [if_neg (show ¬ (false = true) by decide)] at H; exact H
         clear H
         have H := H1
         clear H1
         have H' := Aside0.mk H
         clear H
         go_wp2
         repeat (go_quiet (fail); try go_wp2)
         go_roundg kj8
         case measure => have := HK1.out; have := HJ8.out; omega
         case rel => exact ⟨(wrap64 (x3_1 + 1)), m8_, H', ⟨(by have := HK1.out; have := HJ8.out; omega)⟩, ⟨m49_⟩, ⟨m40_⟩⟩
     ·rw [if_neg c8] at H
      exact absurd H (by simp)
    ·rw [if_neg c7] at H
     have c7b0 : decide (x3_1 < (l0_2.length : Int)) = false := decide_eq_false c7
     clear c7
     obtain rfl := Option.some.inj H
     obtain ⟨hcz43_0, hcz43_1, hcz43_2, hcz43_3⟩ := cz4_ BK207.out
     obtain ⟨hfz43_0, hfz43_1, hfz43_2, hfz43_3⟩ := fz4_ BK207.out
     go_wp2
     repeat (go_quiet (fail); try go_wp2)
     go_ret
     exact ⟨m6_, m33_⟩

/-! ### spec_l2Place: function 94 -/
def spec_l2Place.l0 : Nat → ByteArray → Int → List ByteArray → List (S105) → List (S86) → List (S108) → Option (Int)
 | 0, _, _, _, _, _, _ => none
 | k + 1, x1, x5, x217000, x217001, x217002, x217003 => if x5 < (x217002.length : Int) then (if 0 ≤ x5 then (if ((rd_T86 x217002 x5).f0).toList = x1.toList then (some x5) else (spec_l2Place.l0 k x1 (wrap64 (x5 + 1)) x217000 x217001 x217002 x217003)) else (none)) else (some (-1))
def spec_l2Place.f (k : Nat) (l0_0 : List ByteArray) (l0_1 : List (S105)) (l0_2 : List (S86)) (l0_3 : List (S108)) (a1 : ByteArray) : Option (Int) := spec_l2Place.l0 k a1 0 l0_0 l0_1 l0_2 l0_3
theorem spec_l2Place.mono_l : ∀ k, (∀ y0 y1 y2 y3 y4 y5, LeO (spec_l2Place.l0 k y0 y1 y2 y3 y4 y5) (spec_l2Place.l0 (k + 1) y0 y1 y2 y3 y4 y5))
 | 0 => fun _ _ _ _ _ _ r h => by simp [spec_l2Place.l0] at h
 | k + 1 => by
  have ih0 := spec_l2Place.mono_l k
  ·intro y0 y1 y2 y3 y4 y5
   unfold spec_l2Place.l0
   repeat' first
   | (with_reducible exact ih0 _ _ _ _ _ _)
   | (with_reducible exact LeO.refl _)
   | (with_reducible exact LeO.none _)
   | (with_reducible refine LeO.ite ?_ ?_)
   | (with_reducible refine LeO.bind ?_ (fun _ => ?_))
   | exact ih0 _ _ _ _ _ _
   | exact LeO.none _
   | refine LeO.ite ?_ ?_
   | refine LeO.bind ?_ (fun _ => ?_)
theorem spec_l2Place.mono : ∀ a0 a1 a2 a3 a4 k, LeO (spec_l2Place.f k a0 a1 a2 a3 a4) (spec_l2Place.f (k + 1) a0 a1 a2 a3 a4) := by
 intro a0 a1 a2 a3 a4 k
 have ih0 := spec_l2Place.mono_l k
 unfold spec_l2Place.f
 repeat' first
   | (with_reducible exact ih0 _ _ _ _ _ _)
   | (with_reducible exact LeO.refl _)
   | (with_reducible exact LeO.none _)
   | (with_reducible refine LeO.ite ?_ ?_)
   | (with_reducible refine LeO.bind ?_ (fun _ => ?_))
   | exact ih0 _ _ _ _ _ _
   | exact LeO.none _
   | refine LeO.ite ?_ ?_
   | refine LeO.bind ?_ (fun _ => ?_)
set_option maxHeartbeats 8000000 in
set_option maxRecDepth 100000 in
theorem spec_l2Place.calls (k : Nat) (A0_0 : Option Addr) (c0_0 : Nat) (l0_0 : List ByteArray) (A0_1 : Option Addr) (c0_1 : Nat) (l0_1 : List (S105)) (A0_2 : Option Addr) (c0_2 : Nat) (l0_2 : List (S86)) (A0_3 : Option Addr) (c0_3 : Nat) (l0_3 : List (S108)) (a1 : ByteArray) (r : Int) (w : World) (hr0_0 : Kd.C Kd.string w A0_0 l0_0.length l0_0) (hc0_0 : l0_0.length ≤ c0_0) (hr0_1 : Kd.C k105 w A0_1 l0_1.length l0_1) (hc0_1 : l0_1.length ≤ c0_1) (hr0_2 : Kd.C k86 w A0_2 l0_2.length l0_2) (hc0_2 : l0_2.length ≤ c0_2) (hr0_3 : Kd.C k108 w A0_3 l0_3.length l0_3) (hc0_3 : l0_3.length ≤ c0_3) (h : spec_l2Place.f k l0_0 l0_1 l0_2 l0_3 a1 = some r) :
  Calls Try.prog 94 #[.agg #[.slice A0_0 l0_0.length c0_0, .slice A0_1 l0_1.length c0_1, .slice A0_2 l0_2.length c0_2, .slice A0_3 l0_3.length c0_3], .string a1] w fun e w' => e = .returned (.int .i64 r) ∧ Below w.heap.size w w' := by
 have hu34 := Try.underlying34
 have HR0_0 := Aside0.mk hr0_0
 have HC0_0 := Aside0.mk hc0_0
 clear hr0_0 hc0_0
 have HR0_1 := Aside0.mk hr0_1
 have HC0_1 := Aside0.mk hc0_1
 clear hr0_1 hc0_1
 have HR0_2 := Aside0.mk hr0_2
 have HC0_2 := Aside0.mk hc0_2
 clear hr0_2 hc0_2
 have HR0_3 := Aside0.mk hr0_3
 have HC0_3 := Aside0.mk hc0_3
 clear hr0_3 hc0_3
 have HB := Aside0.mk (Below.refl w.heap.size w)
 have H : (spec_l2Place.l0 k a1 0 l0_0 l0_1 l0_2 l0_3) = some r := h
 clear h
 have H' := Aside0.mk H
 clear H
 go_enter Try.func94, Try.ntmps94
 go_wp2_with (first | ((with_reducible refine gate_dst (N := 2) rfl ?_); refine box_event ?hg (N := 2) ?hd (cs := #[.slice A0_0 l0_0.length c0_0, .slice A0_1 l0_1.length c0_1, .slice A0_2 l0_2.length c0_2, .slice A0_3 l0_3.length c0_3]) (t := 34) ?hr ?_; (case hd => rfl); (case hg => rfl); (case hr => first | (go_simp; done) | (go_simp; rfl)); intro gb216 hg w3 hbox hb; have n0_ := Aside0.mk (below_step m0_ hb); have n1_ := Aside0.mk (hbox); have n2_ := Aside0.mk ((by rw [hg]; exact (below_size m0_) : w.heap.size ≤ gb216)); have n3_ := Aside0.mk ((by rw [hg]; exact (below_size m0_) : w.heap.size ≤ gb216)); clear HB; have HB := n0_; have BK216 := n1_; have GW216 := n2_; have GE216 := n3_; clear n0_ n1_ n2_ n3_; clear hb hbox hg))
 go_loopg [5] k (fun kq v5 w' => ∃ (x5_1 : Int), v5 = .int .i64 x5_1 ∧ Aside0 (spec_l2Place.l0 kq a1 x5_1 l0_0 l0_1 l0_2 l0_3 = some r) ∧ Aside0 (kq ≤ k) ∧ Aside0 (w'.heap[gb216]? = some (.cells #[(.slice A0_0 l0_0.length c0_0), (.slice A0_1 l0_1.length c0_1), (.slice A0_2 l0_2.length c0_2), (.slice A0_3 l0_3.length c0_3)] 34 (0, 0))) ∧ Aside0 (Below w.heap.size w w'))
 case atStart => exact ⟨(0), m8_, H', ⟨Nat.le_refl _⟩, ⟨(by (with_reducible repeat (first | refine blk_drewN ?_ _ | refine blk_drew ?_ | refine blk_alloc ?_ _)); exact BK216.out)⟩, ⟨m107_⟩⟩
 case round =>
  clear H'
  try clear p2
  obtain ⟨x5_1, rfl, HA, HK1, BK216, HB⟩ := hrel
  cases gk with
  | zero => exact absurd HA.out (by simp [spec_l2Place.l0])
  | succ k1 =>
   have H := HA.out
   clear HA
   simp only [spec_l2Place.l0] at H
   by_cases c4 : x5_1 < (l0_2.length : Int)
   ·rw [if_pos c4] at H
    have c4b0 : decide (x5_1 < (l0_2.length : Int)) = true := decide_eq_true c4
    clear c4
    by_cases c5 : 0 ≤ x5_1
    ·rw [if_pos c5] at H
     have c5b0 : decide (0 ≤ x5_1) = true := decide_eq_true c5
     clear c5
     by_cases c6 : ((rd_T86 l0_2 x5_1).f0).toList = a1.toList
     ·rw [if_pos c6] at H
      have c6b0 : (((rd_T86 l0_2 x5_1).f0).toList == a1.toList) = true := beq_iff_eq.mpr c6
      have c6b1 : (((rd_T86 l0_2 x5_1).f0).toList != a1.toList) = false := bne_eq_false_iff_eq.mpr c6
      clear c6
      obtain rfl := Option.some.inj H
      obtain ⟨hcz7_0, hcz7_1, hcz7_2, hcz7_3⟩ := cz4_ BK216.out
      obtain ⟨hfz7_0, hfz7_1, hfz7_2, hfz7_3⟩ := fz4_ BK216.out
      have p217 : 0 ≤ (x5_1 : Int) := of_decide_eq_true m4_
      have q217 : x5_1 < (l0_2.length : Int) := of_decide_eq_true m4_
      obtain ⟨ad217, e217, hx217_0, hx217_1, hx217_2⟩ := at_T86 HR0_2.out x5_1 p217 q217
      cases e217
      replace hx217_0 := (HB.out.cell (World.block_lt_of_cell? w _ hx217_0)).trans hx217_0
      replace hx217_1 := (HB.out.cell (World.block_lt_of_cell? w _ hx217_1)).trans hx217_1
      replace hx217_2 := (HB.out.cell (World.block_lt_of_cell? w _ hx217_2)).trans hx217_2
      replace p217 := eq_true p217
      replace q217 := eq_true q217
      go_wp2
      go_ret
      exact ⟨m6_, m107_⟩
     ·rw [if_neg c6] at H
      have c6b0 : (((rd_T86 l0_2 x5_1).f0).toList == a1.toList) = false := beq_eq_false_iff_ne.mpr c6
      have c6b1 : (((rd_T86 l0_2 x5_1).f0).toList != a1.toList) = true := bne_iff_ne.mpr c6
      have H' := Aside0.mk H
      clear H
      obtain ⟨hcz8_0, hcz8_1, hcz8_2, hcz8_3⟩ := cz4_ BK216.out
      obtain ⟨hfz8_0, hfz8_1, hfz8_2, hfz8_3⟩ := fz4_ BK216.out
      have p217 : 0 ≤ (x5_1 : Int) := of_decide_eq_true m4_
      have q217 : x5_1 < (l0_2.length : Int) := of_decide_eq_true m4_
      obtain ⟨ad217, e217, hx217_0, hx217_1, hx217_2⟩ := at_T86 HR0_2.out x5_1 p217 q217
      cases e217
      replace hx217_0 := (HB.out.cell (World.block_lt_of_cell? w _ hx217_0)).trans hx217_0
      replace hx217_1 := (HB.out.cell (World.block_lt_of_cell? w _ hx217_1)).trans hx217_1
      replace hx217_2 := (HB.out.cell (World.block_lt_of_cell? w _ hx217_2)).trans hx217_2
      replace p217 := eq_true p217
      replace q217 := eq_true q217
      go_wp2
      go_roundg k1
      case measure => have := HK1.out; omega
      case rel => exact ⟨(wrap64 (x5_1 + 1)), m8_, H', ⟨m110_⟩, ⟨(by (with_reducible repeat (first | refine blk_drewN ?_ _ | refine blk_drew ?_ | refine blk_alloc ?_ _)); exact BK216.out)⟩, ⟨m107_⟩⟩
    ·rw [if_neg c5] at H
     exact absurd H (by simp)
   ·rw [if_neg c4] at H
    have c4b0 : decide (x5_1 < (l0_2.length : Int)) = false := decide_eq_false c4
    clear c4
    obtain rfl := Option.some.inj H
    obtain ⟨hcz9_0, hcz9_1, hcz9_2, hcz9_3⟩ := cz4_ BK216.out
    obtain ⟨hfz9_0, hfz9_1, hfz9_2, hfz9_3⟩ := fz4_ BK216.out
    go_wp2
    go_ret
    exact ⟨m6_, m107_⟩

end Go.Proofs.Ytpildfacenlceaa.QFnExactPlantFoes
