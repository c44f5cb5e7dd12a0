/- Laid by a program of this session: the texts of one law, joined, without what it does not come to. -/
import Derived.Test.YtpildfacenlceaaZFnExactPlantValid3
namespace Go.Proofs.Ytpildfacenlceaa.QFnExactPlantValid
open Go.RowKit Go.Proofs.YtpildfacenlceaaW.PrintWords Go.Proofs.YtpildfacenlceaaW.PrintLast Go.Proofs.YtpildfacenlceaaW.PrintMore
attribute [local go_sem] str_geq str_gtr str_leq max2_int min2_int max_two min_two max_three min_three max_four min_four   -- for this text's walks alone
set_option linter.unusedVariables false
set_option linter.unusedSimpArgs false
mutual
def spec_l2PlacesOk.l0 : Nat → Int → List ByteArray → List (S105) → List (S86) → List (S108) → Option (Bool)
 | 0, _, _, _, _, _ => none
 | k + 1, x3, x132000, x132001, x132002, x132003 => if x3 < (x132002.length : Int) then (if 0 ≤ x3 then ((spec_l2NameOk.f k ((rd_T86 x132002 x3).f0)).bind fun t134 => (if t134 = true then (if x3 > 0 then (if 0 ≤ (wrap64 (x3 - 1)) then (if (wrap64 (x3 - 1)) < (x132002.length : Int) then (if ((Op.bytesLess (((rd_T86 x132002 (wrap64 (x3 - 1))).f0).toList) (((rd_T86 x132002 x3).f0).toList)) = true) then ((spec_l1In.f ((rd_T86 x132002 x3).f1) 0 1000).bind fun t136 => (if t136 = true then ((spec_l2NameOk.f k ((rd_T86 x132002 x3).f2)).bind fun t137 => (spec_l2PlacesOk.j1 k x3 (!t137) x132000 x132001 x132002 x132003)) else (spec_l2PlacesOk.j1 k x3 true x132000 x132001 x132002 x132003))) else (spec_l2PlacesOk.j1 k x3 true x132000 x132001 x132002 x132003)) else (none)) else (none)) else ((spec_l1In.f ((rd_T86 x132002 x3).f1) 0 1000).bind fun t138 => (if t138 = true then ((spec_l2NameOk.f k ((rd_T86 x132002 x3).f2)).bind fun t139 => (spec_l2PlacesOk.j1 k x3 (!t139) x132000 x132001 x132002 x132003)) else (spec_l2PlacesOk.j1 k x3 true x132000 x132001 x132002 x132003)))) else (spec_l2PlacesOk.j1 k x3 true x132000 x132001 x132002 x132003))) else (none)) else (some true)
def spec_l2PlacesOk.j1 : Nat → Int → Bool → List ByteArray → List (S105) → List (S86) → List (S108) → Option (Bool)
 | 0, _, _, _, _, _, _ => none
 | k + 1, x3, x52, x132000, x132001, x132002, x132003 => if x52 = true then (some false) else (spec_l2PlacesOk.l0 k (wrap64 (x3 + 1)) x132000 x132001 x132002 x132003)
end
def spec_l2PlacesOk.f (k : Nat) (l0_0 : List ByteArray) (l0_1 : List (S105)) (l0_2 : List (S86)) (l0_3 : List (S108)) : Option (Bool) := if (l0_2.length : Int) > 14 then (some false) else (spec_l2PlacesOk.l0 k 0 l0_0 l0_1 l0_2 l0_3)
theorem spec_l2PlacesOk.mono_l : ∀ k, (∀ y0 y1 y2 y3 y4, LeO (spec_l2PlacesOk.l0 k y0 y1 y2 y3 y4) (spec_l2PlacesOk.l0 (k + 1) y0 y1 y2 y3 y4)) ∧ (∀ y0 y1 y2 y3 y4 y5, LeO (spec_l2PlacesOk.j1 k y0 y1 y2 y3 y4 y5) (spec_l2PlacesOk.j1 (k + 1) y0 y1 y2 y3 y4 y5))
 | 0 => ⟨fun _ _ _ _ _ r h => by simp [spec_l2PlacesOk.l0] at h, fun _ _ _ _ _ _ r h => by simp [spec_l2PlacesOk.j1] at h⟩
 | k + 1 => by
  obtain ⟨ih0, ih1⟩ := spec_l2PlacesOk.mono_l k
  refine ⟨?_, ?_⟩
  ·intro y0 y1 y2 y3 y4
   unfold spec_l2PlacesOk.l0
   repeat' first
   | (with_reducible exact ih0 _ _ _ _ _)
   | (with_reducible exact ih1 _ _ _ _ _ _)
   | (with_reducible exact spec_l2NameOk.mono _ _)
   | (with_reducible exact LeO.refl _)
   | (with_reducible exact LeO.none _)
   | (with_reducible refine LeO.ite ?_ ?_)
   | (with_reducible refine LeO.bind ?_ (fun _ => ?_))
   | exact ih0 _ _ _ _ _
   | exact ih1 _ _ _ _ _ _
   | exact spec_l2NameOk.mono _ _
   | exact LeO.none _
   | refine LeO.ite ?_ ?_
   | refine LeO.bind ?_ (fun _ => ?_)
  ·intro y0 y1 y2 y3 y4 y5
   unfold spec_l2PlacesOk.j1
   repeat' first
   | (with_reducible exact ih0 _ _ _ _ _)
   | (with_reducible exact ih1 _ _ _ _ _ _)
   | (with_reducible exact spec_l2NameOk.mono _ _)
   | (with_reducible exact LeO.refl _)
   | (with_reducible exact LeO.none _)
   | (with_reducible refine LeO.ite ?_ ?_)
   | (with_reducible refine LeO.bind ?_ (fun _ => ?_))
   | exact ih0 _ _ _ _ _
   | exact ih1 _ _ _ _ _ _
   | exact spec_l2NameOk.mono _ _
   | exact LeO.none _
   | refine LeO.ite ?_ ?_
   | refine LeO.bind ?_ (fun _ => ?_)
theorem spec_l2PlacesOk.mono : ∀ a0 a1 a2 a3 k, LeO (spec_l2PlacesOk.f k a0 a1 a2 a3) (spec_l2PlacesOk.f (k + 1) a0 a1 a2 a3) := by
 intro a0 a1 a2 a3 k
 obtain ⟨ih0, ih1⟩ := spec_l2PlacesOk.mono_l k
 unfold spec_l2PlacesOk.f
 repeat' first
   | (with_reducible exact ih0 _ _ _ _ _)
   | (with_reducible exact ih1 _ _ _ _ _ _)
   | (with_reducible exact spec_l2NameOk.mono _ _)
   | (with_reducible exact LeO.refl _)
   | (with_reducible exact LeO.none _)
   | (with_reducible refine LeO.ite ?_ ?_)
   | (with_reducible refine LeO.bind ?_ (fun _ => ?_))
   | exact ih0 _ _ _ _ _
   | exact ih1 _ _ _ _ _ _
   | exact spec_l2NameOk.mono _ _
   | exact LeO.none _
   | refine LeO.ite ?_ ?_
   | refine LeO.bind ?_ (fun _ => ?_)
set_option maxHeartbeats 8000000 in
set_option maxRecDepth 100000 in
theorem spec_l2PlacesOk.calls (k : Nat) (A0_0 : Option Addr) (c0_0 : Nat) (l0_0 : List ByteArray) (A0_1 : Option Addr) (c0_1 : Nat) (l0_1 : List (S105)) (A0_2 : Option Addr) (c0_2 : Nat) (l0_2 : List (S86)) (A0_3 : Option Addr) (c0_3 : Nat) (l0_3 : List (S108)) (r : Bool) (w : World) (hr0_0 : Kd.C Kd.string w A0_0 l0_0.length l0_0) (hc0_0 : l0_0.length ≤ c0_0) (hr0_1 : Kd.C k105 w A0_1 l0_1.length l0_1) (hc0_1 : l0_1.length ≤ c0_1) (hr0_2 : Kd.C k86 w A0_2 l0_2.length l0_2) (hc0_2 : l0_2.length ≤ c0_2) (hr0_3 : Kd.C k108 w A0_3 l0_3.length l0_3) (hc0_3 : l0_3.length ≤ c0_3) (h : spec_l2PlacesOk.f k l0_0 l0_1 l0_2 l0_3 = some r) :
  Calls Try.prog 67 #[.agg #[.slice A0_0 l0_0.length c0_0, .slice A0_1 l0_1.length c0_1, .slice A0_2 l0_2.length c0_2, .slice A0_3 l0_3.length c0_3]] w fun e w' => e = .returned (.bool r) ∧ Below w.heap.size w w' := by
 have hu34 := Try.underlying34
 have hu86 := Try.underlying86
 have HR0_0 := Aside0.mk hr0_0
 have HC0_0 := Aside0.mk hc0_0
 clear hr0_0 hc0_0
 have HR0_1 := Aside0.mk hr0_1
 have HC0_1 := Aside0.mk hc0_1
 clear hr0_1 hc0_1
 have HR0_2 := Aside0.mk hr0_2
 have HC0_2 := Aside0.mk hc0_2
 clear hr0_2 hc0_2
 have HR0_3 := Aside0.mk hr0_3
 have HC0_3 := Aside0.mk hc0_3
 clear hr0_3 hc0_3
 have HB := Aside0.mk (Below.refl w.heap.size w)
 have H : (if (l0_2.length : Int) > 14 then (some false) else (spec_l2PlacesOk.l0 k 0 l0_0 l0_1 l0_2 l0_3)) = some r := h
 clear h
 by_cases c2 : (l0_2.length : Int) > 14
 ·rw [if_pos c2] at H
  have c2b0 : decide (14 < (l0_2.length : Int)) = true := decide_eq_true c2
  have c2b1 : decide (14 < l0_2.length) = true := decide_eq_true (by omega)
  clear c2
  obtain rfl := Option.some.inj H
  go_enter Try.func67, Try.ntmps67
  go_wp2_with (first | ((with_reducible refine gate_dst (N := 1) rfl ?_); refine box_event ?hg (N := 1) ?hd (cs := #[.slice A0_0 l0_0.length c0_0, .slice A0_1 l0_1.length c0_1, .slice A0_2 l0_2.length c0_2, .slice A0_3 l0_3.length c0_3]) (t := 34) ?hr ?_; (case hd => rfl); (case hg => rfl); (case hr => first | (go_simp; done) | (go_simp; rfl)); intro gb131 hg w3 hbox hb; have n0_ := Aside0.mk (below_step m0_ hb); have n1_ := Aside0.mk (hbox); have n2_ := Aside0.mk ((by rw [hg]; exact (below_size m0_) : w.heap.size ≤ gb131)); have n3_ := Aside0.mk ((by rw [hg]; exact (below_size m0_) : w.heap.size ≤ gb131)); clear HB; have HB := n0_; have BK131 := n1_; have GW131 := n2_; have GE131 := n3_; clear n0_ n1_ n2_ n3_; clear hb hbox hg; obtain ⟨hcz4_0, hcz4_1, hcz4_2, hcz4_3⟩ := cz4_ BK131.out; obtain ⟨hfz4_0, hfz4_1, hfz4_2, hfz4_3⟩ := fz4_ BK131.out))
  repeat (go_quiet (first | ((with_reducible refine gate_dst (N := 1) rfl ?_); refine box_event ?hg (N := 1) ?hd (cs := #[.slice A0_0 l0_0.length c0_0, .slice A0_1 l0_1.length c0_1, .slice A0_2 l0_2.length c0_2, .slice A0_3 l0_3.length c0_3]) (t := 34) ?hr ?_; (case hd => rfl); (case hg => rfl); (case hr => first | (go_simp; done) | (go_simp; rfl)); intro gb131 hg w3 hbox hb; have n0_ := Aside0.mk (below_step m0_ hb); have n1_ := Aside0.mk (hbox); have n2_ := Aside0.mk ((by rw [hg]; exact (below_size m0_) : w.heap.size ≤ gb131)); have n3_ := Aside0.mk ((by rw [hg]; exact (below_size m0_) : w.heap.size ≤ gb131)); clear HB; have HB := n0_; have BK131 := n1_; have GW131 := n2_; have GE131 := n3_; clear n0_ n1_ n2_ n3_; clear hb hbox hg; obtain ⟨hcz4_0, hcz4_1, hcz4_2, hcz4_3⟩ := cz4_ BK131.out; obtain ⟨hfz4_0, hfz4_1, hfz4_2, hfz4_3⟩ := fz4_ BK131.out)); try go_wp2_with (first | ((with_reducible refine gate_dst (N := 1) rfl ?_); refine box_event ?hg (N := 1) ?hd (cs := #[.slice A0_0 l0_0.length c0_0, .slice A0_1 l0_1.length c0_1, .slice A0_2 l0_2.length c0_2, .slice A0_3 l0_3.length c0_3]) (t := 34) ?hr ?_; (case hd => rfl); (case hg => rfl); (case hr => first | (go_simp; done) | (go_simp; rfl)); intro gb131 hg w3 hbox hb; have n0_ := Aside0.mk (below_step m0_ hb); have n1_ := Aside0.mk (hbox); have n2_ := Aside0.mk ((by rw [hg]; exact (below_size m0_) : w.heap.size ≤ gb131)); have n3_ := Aside0.mk ((by rw [hg]; exact (below_size m0_) : w.heap.size ≤ gb131)); clear HB; have HB := n0_; have BK131 := n1_; have GW131 := n2_; have GE131 := n3_; clear n0_ n1_ n2_ n3_; clear hb hbox hg; obtain ⟨hcz4_0, hcz4_1, hcz4_2, hcz4_3⟩ := cz4_ BK131.out; obtain ⟨hfz4_0, hfz4_1, hfz4_2, hfz4_3⟩ := fz4_ BK131.out)))
  go_ret
  exact ⟨m6_, m32_⟩
 ·rw [if_neg c2] at H
  have c2b0 : decide (14 < (l0_2.length : Int)) = false := decide_eq_false c2
  have c2b1 : decide (14 < l0_2.length) = false := decide_eq_false (by omega)
  clear c2
  have H' := Aside0.mk H
  clear H
  go_enter Try.func67, Try.ntmps67
  go_wp2_with (first | ((with_reducible refine gate_dst (N := 1) rfl ?_); refine box_event ?hg (N := 1) ?hd (cs := #[.slice A0_0 l0_0.length c0_0, .slice A0_1 l0_1.length c0_1, .slice A0_2 l0_2.length c0_2, .slice A0_3 l0_3.length c0_3]) (t := 34) ?hr ?_; (case hd => rfl); (case hg => rfl); (case hr => first | (go_simp; done) | (go_simp; rfl)); intro gb131 hg w5 hbox hb; have n0_ := Aside0.mk (below_step m0_ hb); have n1_ := Aside0.mk (hbox); have n2_ := Aside0.mk ((by rw [hg]; exact (below_size m0_) : w.heap.size ≤ gb131)); have n3_ := Aside0.mk ((by rw [hg]; exact (below_size m0_) : w.heap.size ≤ gb131)); clear HB; have HB := n0_; have BK131 := n1_; have GW131 := n2_; have GE131 := n3_; clear n0_ n1_ n2_ n3_; clear hb hbox hg; obtain ⟨hcz6_0, hcz6_1, hcz6_2, hcz6_3⟩ := cz4_ BK131.out; obtain ⟨hfz6_0, hfz6_1, hfz6_2, hfz6_3⟩ := fz4_ BK131.out))
  repeat (go_quiet (first | ((with_reducible refine gate_dst (N := 1) rfl ?_); refine box_event ?hg (N := 1) ?hd (cs := #[.slice A0_0 l0_0.length c0_0, .slice A0_1 l0_1.length c0_1, .slice A0_2 l0_2.length c0_2, .slice A0_3 l0_3.length c0_3]) (t := 34) ?hr ?_; (case hd => rfl); (case hg => rfl); (case hr => first | (go_simp; done) | (go_simp; rfl)); intro gb131 hg w5 hbox hb; have n0_ := Aside0.mk (below_step m0_ hb); have n1_ := Aside0.mk (hbox); have n2_ := Aside0.mk ((by rw [hg]; exact (below_size m0_) : w.heap.size ≤ gb131)); have n3_ := Aside0.mk ((by rw [hg]; exact (below_size m0_) : w.heap.size ≤ gb131)); clear HB; have HB := n0_; have BK131 := n1_; have GW131 := n2_; have GE131 := n3_; clear n0_ n1_ n2_ n3_; clear hb hbox hg; obtain ⟨hcz6_0, hcz6_1, hcz6_2, hcz6_3⟩ := cz4_ BK131.out; obtain ⟨hfz6_0, hfz6_1, hfz6_2, hfz6_3⟩ := fz4_ BK131.out)); try go_wp2_with (first | ((with_reducible refine gate_dst (N := 1) rfl ?_); refine box_event ?hg (N := 1) ?hd (cs := #[.slice A0_0 l0_0.length c0_0, .slice A0_1 l0_1.length c0_1, .slice A0_2 l0_2.length c0_2, .slice A0_3 l0_3.length c0_3]) (t := 34) ?hr ?_; (case hd => rfl); (case hg => rfl); (case hr => first | (go_simp; done) | (go_simp; rfl)); intro gb131 hg w5 hbox hb; have n0_ := Aside0.mk (below_step m0_ hb); have n1_ := Aside0.mk (hbox); have n2_ := Aside0.mk ((by rw [hg]; exact (below_size m0_) : w.heap.size ≤ gb131)); have n3_ := Aside0.mk ((by rw [hg]; exact (below_size m0_) : w.heap.size ≤ gb131)); clear HB; have HB := n0_; have BK131 := n1_; have GW131 := n2_; have GE131 := n3_; clear n0_ n1_ n2_ n3_; clear hb hbox hg; obtain ⟨hcz6_0, hcz6_1, hcz6_2, hcz6_3⟩ := cz4_ BK131.out; obtain ⟨hfz6_0, hfz6_1, hfz6_2, hfz6_3⟩ := fz4_ BK131.out)))
  go_loopg [3] k (fun kq v3 w' => ∃ (x3_1 : Int), v3 = .int .i64 x3_1 ∧ Aside0 (spec_l2PlacesOk.l0 kq x3_1 l0_0 l0_1 l0_2 l0_3 = some r) ∧ Aside0 (kq ≤ k) ∧ Aside0 (w'.heap[gb131]? = some (.cells #[(.slice A0_0 l0_0.length c0_0), (.slice A0_1 l0_1.length c0_1), (.slice A0_2 l0_2.length c0_2), (.slice A0_3 l0_3.length c0_3)] 34 (0, 0))) ∧ Aside0 (Below w.heap.size w w'))
  case atStart => exact ⟨(0), m8_, H', ⟨Nat.le_refl _⟩, ⟨m49_⟩, ⟨m32_⟩⟩
  case round =>
   clear H'
   try clear c2
   try clear c2b0
   try clear c2b1
   try clear p2
   try clear c6
   try clear hcz4_0
   try clear hcz4_1
   try clear hcz4_2
   try clear hcz4_3
   try clear hcz6_0
   try clear hcz6_1
   try clear hcz6_2
   try clear hcz6_3
   try clear hfz4_0
   try clear hfz4_1
   try clear hfz4_2
   try clear hfz4_3
   try clear hfz6_0
   try clear hfz6_1
   try clear hfz6_2
   try clear hfz6_3
   obtain ⟨x3_1, rfl, HA, HK1, BK131, HB⟩ := hrel
   cases gk with
   | zero => exact absurd HA.out (by simp [spec_l2PlacesOk.l0])
   | succ k1 =>
    have H := HA.out
    clear HA
    simp only [spec_l2PlacesOk.l0] at H
    by_cases c7 : x3_1 < (l0_2.length : Int)
    ·rw [if_pos c7] at H
     have c7b0 : decide (x3_1 < (l0_2.length : Int)) = true := decide_eq_true c7
     clear c7
     by_cases c8 : 0 ≤ x3_1
     ·rw [if_pos c8] at H
      have c8b0 : decide (0 ≤ x3_1) = true := decide_eq_true c8
      clear c8
      have HC9 := Aside0.mk H
      clear H
      obtain ⟨hcz10_0, hcz10_1, hcz10_2, hcz10_3⟩ := cz4_ BK131.out
      obtain ⟨hfz10_0, hfz10_1, hfz10_2, hfz10_3⟩ := fz4_ BK131.out
      have p132 : 0 ≤ (x3_1 : Int) := of_decide_eq_true m5_
      have q132 : x3_1 < (l0_2.length : Int) := of_decide_eq_true m5_
      obtain ⟨ad132, e132, hx132_0, hx132_1, hx132_2⟩ := at_T86 HR0_2.out x3_1 p132 q132
      cases e132
      replace hx132_0 := (HB.out.cell (World.block_lt_of_cell? w _ hx132_0)).trans hx132_0
      replace hx132_1 := (HB.out.cell (World.block_lt_of_cell? w _ hx132_1)).trans hx132_1
      replace hx132_2 := (HB.out.cell (World.block_lt_of_cell? w _ hx132_2)).trans hx132_2
      replace p132 := eq_true p132
      replace q132 := eq_true q132
      go_upto_region 7 with (first | ((with_reducible refine gate_dst (N := 4) rfl ?_); refine box_event ?hg (N := 4) ?hd (cs := #[.string (⟨#[]⟩ : ByteArray), .int .i64 0, .string (⟨#[]⟩ : ByteArray)]) (t := 86) ?hr ?_; (case hd => rfl); (case hg => rfl); (case hr => first | (go_simp; done) | (go_simp; rfl)); intro gb133 hg w11 hbox hb; have n0_ := Aside0.mk (blk_below (g := gb131) (o := .cells #[.slice A0_0 l0_0.length c0_0, .slice A0_1 l0_1.length c0_1, .slice (some ad132) l0_2.length c0_2, .slice A0_3 l0_3.length c0_3] 34 (0, 0)) m49_ hb); have n1_ := Aside0.mk (below_step m32_ hb); have n2_ := Aside0.mk (hbox); have n3_ := Aside0.mk ((by rw [hg]; exact (below_size m32_) : w.heap.size ≤ gb133)); have n4_ := Aside0.mk ((by rw [hg]; exact (below_size m32_) : w.heap.size ≤ gb133)); have n5_ := Aside0.mk ((by rw [hg]; exact Nat.ne_of_lt (blk_lt (g := gb131) (o := .cells #[.slice A0_0 l0_0.length c0_0, .slice A0_1 l0_1.length c0_1, .slice (some ad132) l0_2.length c0_2, .slice A0_3 l0_3.length c0_3] 34 (0, 0)) m49_) : gb131 ≠ gb133)); have n6_ := Aside0.mk ((by rw [hg]; exact Nat.ne_of_gt (blk_lt (g := gb131) (o := .cells #[.slice A0_0 l0_0.length c0_0, .slice A0_1 l0_1.length c0_1, .slice (some ad132) l0_2.length c0_2, .slice A0_3 l0_3.length c0_3] 34 (0, 0)) m49_) : gb133 ≠ gb131)); clear BK131; clear HB; have BK131 := n0_; have HB := n1_; have BK133 := n2_; have GW133 := n3_; have GE133 := n4_; have NB131_133 := n5_; have NB133_131 := n6_; clear n0_ n1_ n2_ n3_ n4_ n5_ n6_; clear hb hbox hg; have hnb12 := NB133_131.out; have hnc12 := NB131_133.out; obtain ⟨hcz13_0, hcz13_1, hcz13_2⟩ := cz3_ BK133.out; obtain ⟨hfz13_0, hfz13_1, hfz13_2⟩ := fz3_ BK133.out))
      repeat (go_quiet (first | ((with_reducible refine gate_dst (N := 4) rfl ?_); refine box_event ?hg (N := 4) ?hd (cs := #[.string (⟨#[]⟩ : ByteArray), .int .i64 0, .string (⟨#[]⟩ : ByteArray)]) (t := 86) ?hr ?_; (case hd => rfl); (case hg => rfl); (case hr => first | (go_simp; done) | (go_simp; rfl)); intro gb133 hg w11 hbox hb; have n0_ := Aside0.mk (blk_below (g := gb131) (o := .cells #[.slice A0_0 l0_0.length c0_0, .slice A0_1 l0_1.length c0_1, .slice (some ad132) l0_2.length c0_2, .slice A0_3 l0_3.length c0_3] 34 (0, 0)) m49_ hb); have n1_ := Aside0.mk (below_step m32_ hb); have n2_ := Aside0.mk (hbox); have n3_ := Aside0.mk ((by rw [hg]; exact (below_size m32_) : w.heap.size ≤ gb133)); have n4_ := Aside0.mk ((by rw [hg]; exact (below_size m32_) : w.heap.size ≤ gb133)); have n5_ := Aside0.mk ((by rw [hg]; exact Nat.ne_of_lt (blk_lt (g := gb131) (o := .cells #[.slice A0_0 l0_0.length c0_0, .slice A0_1 l0_1.length c0_1, .slice (some ad132) l0_2.length c0_2, .slice A0_3 l0_3.length c0_3] 34 (0, 0)) m49_) : gb131 ≠ gb133)); have n6_ := Aside0.mk ((by rw [hg]; exact Nat.ne_of_gt (blk_lt (g := gb131) (o := .cells #[.slice A0_0 l0_0.length c0_0, .slice A0_1 l0_1.length c0_1, .slice (some ad132) l0_2.length c0_2, .slice A0_3 l0_3.length c0_3] 34 (0, 0)) m49_) : gb133 ≠ gb131)); clear BK131; clear HB; have BK131 := n0_; have HB := n1_; have BK133 := n2_; have GW133 := n3_; have GE133 := n4_; have NB131_133 := n5_; have NB133_131 := n6_; clear n0_ n1_ n2_ n3_ n4_ n5_ n6_; clear hb hbox hg; have hnb12 := NB133_131.out; have hnc12 := NB131_133.out; obtain ⟨hcz13_0, hcz13_1, hcz13_2⟩ := cz3_ BK133.out; obtain ⟨hfz13_0, hfz13_1, hfz13_2⟩ := fz3_ BK133.out)); go_upto_region 7 with (first | ((with_reducible refine gate_dst (N := 4) rfl ?_); refine box_event ?hg (N := 4) ?hd (cs := #[.string (⟨#[]⟩ : ByteArray), .int .i64 0, .string (⟨#[]⟩ : ByteArray)]) (t := 86) ?hr ?_; (case hd => rfl); (case hg => rfl); (case hr => first | (go_simp; done) | (go_simp; rfl)); intro gb133 hg w11 hbox hb; have n0_ := Aside0.mk (blk_below (g := gb131) (o := .cells #[.slice A0_0 l0_0.length c0_0, .slice A0_1 l0_1.length c0_1, .slice (some ad132) l0_2.length c0_2, .slice A0_3 l0_3.length c0_3] 34 (0, 0)) m49_ hb); have n1_ := Aside0.mk (below_step m32_ hb); have n2_ := Aside0.mk (hbox); have n3_ := Aside0.mk ((by rw [hg]; exact (below_size m32_) : w.heap.size ≤ gb133)); have n4_ := Aside0.mk ((by rw [hg]; exact (below_size m32_) : w.heap.size ≤ gb133)); have n5_ := Aside0.mk ((by rw [hg]; exact Nat.ne_of_lt (blk_lt (g := gb131) (o := .cells #[.slice A0_0 l0_0.length c0_0, .slice A0_1 l0_1.length c0_1, .slice (some ad132) l0_2.length c0_2, .slice A0_3 l0_3.length c0_3] 34 (0, 0)) m49_) : gb131 ≠ gb133)); have n6_ := Aside0.mk ((by rw [hg]; exact Nat.ne_of_gt (blk_lt (g := gb131) (o := .cells #[.slice A0_0 l0_0.length c0_0, .slice A0_1 l0_1.length c0_1, .slice (some ad132) l0_2.length c0_2, .slice A0_3 l0_3.length c0_3] 34 (0, 0)) m49_) : gb133 ≠ gb131)); clear BK131; clear HB; have BK131 := n0_; have HB := n1_; have BK133 := n2_; have GW133 := n3_; have GE133 := n4_; have NB131_133 := n5_; have NB133_131 := n6_; clear n0_ n1_ n2_ n3_ n4_ n5_ n6_; clear hb hbox hg; have hnb12 := NB133_131.out; have hnc12 := NB131_133.out; obtain ⟨hcz13_0, hcz13_1, hcz13_2⟩ := cz3_ BK133.out; obtain ⟨hfz13_0, hfz13_1, hfz13_2⟩ := fz3_ BK133.out)))
      (try simp only [Act.put, List.setIfInBounds_toArray, List.set_cons_zero, List.set_cons_succ])
      go_cut [52] (fun v52 wc => ∃ (kq : Nat) (x52_8 : Bool), v52 = .bool x52_8 ∧ Aside0 (spec_l2PlacesOk.j1 kq x3_1 x52_8 l0_0 l0_1 l0_2 l0_3 = some r) ∧ Aside0 (kq ≤ k1) ∧ Aside0 (wc.heap[gb131]? = some (.cells #[(.slice A0_0 l0_0.length c0_0), (.slice A0_1 l0_1.length c0_1), (.slice (some ad132) l0_2.length c0_2), (.slice A0_3 l0_3.length c0_3)] 34 (0, 0))) ∧ Aside0 (wc.heap[gb133]? = some (.cells #[.string ((rd_T86 l0_2 x3_1).f0), .int .i64 ((rd_T86 l0_2 x3_1).f1), .string ((rd_T86 l0_2 x3_1).f2)] 86 (0, 0))) ∧ Aside0 (Below w.heap.size w wc))
      case first =>
       have H := HC9.out
       clear HC9
       replace H := Option.bind_eq_some_iff.mp H
       obtain ⟨t134, A140, H⟩ := H
       replace H : (if t134 = true then (if x3_1 > 0 then (if 0 ≤ (wrap64 (x3_1 - 1)) then (if (wrap64 (x3_1 - 1)) < (l0_2.length : Int) then (if ((Op.bytesLess (((rd_T86 l0_2 (wrap64 (x3_1 - 1))).f0).toList) (((rd_T86 l0_2 x3_1).f0).toList)) = true) then ((spec_l1In.f ((rd_T86 l0_2 x3_1).f1) 0 1000).bind fun t136 => (if t136 = true then ((spec_l2NameOk.f k1 ((rd_T86 l0_2 x3_1).f2)).bind fun t137 => (spec_l2PlacesOk.j1 k1 x3_1 (!t137) l0_0 l0_1 l0_2 l0_3)) else (spec_l2PlacesOk.j1 k1 x3_1 true l0_0 l0_1 l0_2 l0_3))) else (spec_l2PlacesOk.j1 k1 x3_1 true l0_0 l0_1 l0_2 l0_3)) else (none)) else (none)) else ((spec_l1In.f ((rd_T86 l0_2 x3_1).f1) 0 1000).bind fun t138 => (if t138 = true then ((spec_l2NameOk.f k1 ((rd_T86 l0_2 x3_1).f2)).bind fun t139 => (spec_l2PlacesOk.j1 k1 x3_1 (!t139) l0_0 l0_1 l0_2 l0_3)) else (spec_l2PlacesOk.j1 k1 x3_1 true l0_0 l0_1 l0_2 l0_3)))) else (spec_l2PlacesOk.j1 k1 x3_1 true l0_0 l0_1 l0_2 l0_3)) = some r := H
       have A14 := Aside0.mk A140
       clear A140
       by_cases c15 : t134 = true
       ·subst c15
        have H1 : (if x3_1 > 0 then (if 0 ≤ (wrap64 (x3_1 - 1)) then (if (wrap64 (x3_1 - 1)) < (l0_2.length : Int) then (if ((Op.bytesLess (((rd_T86 l0_2 (wrap64 (x3_1 - 1))).f0).toList) (((rd_T86 l0_2 x3_1).f0).toList)) = true) then ((spec_l1In.f ((rd_T86 l0_2 x3_1).f1) 0 1000).bind fun t136 => (if t136 = true then ((spec_l2NameOk.f k1 ((rd_T86 l0_2 x3_1).f2)).bind fun t137 => (spec_l2PlacesOk.j1 k1 x3_1 (!t137) l0_0 l0_1 l0_2 l0_3)) else (spec_l2PlacesOk.j1 k1 x3_1 true l0_0 l0_1 l0_2 l0_3))) else (spec_l2PlacesOk.j1 k1 x3_1 true l0_0 l0_1 l0_2 l0_3)) else (none)) else (none)) else ((spec_l1In.f ((rd_T86 l0_2 x3_1).f1) 0 1000).bind fun t138 => (if t138 = true then ((spec_l2NameOk.f k1 ((rd_T86 l0_2 x3_1).f2)).bind fun t139 => (spec_l2PlacesOk.j1 k1 x3_1 (!t139) l0_0 l0_1 l0_2 l0_3)) else (spec_l2PlacesOk.j1 k1 x3_1 true l0_0 l0_1 l0_2 l0_3)))) = some r := by rw [if_pos rfl] at H; exact H
        clear H
        have H := H1
        clear H1
        by_cases c16 : x3_1 > 0
        ·rw [if_pos c16] at H
         have c16b0 : decide (0 < x3_1) = true := decide_eq_true c16
         clear c16
         (first | rw [c16b0] | (simp only [i64_w, i32_w]; rw [c16b0]) | skip)
         obtain ⟨ji17, hji17⟩ : ∃ j_ : Int, (wrap64 (x3_1 - 1)) = j_ := ⟨_, rfl⟩
         replace H : (if 0 ≤ (ji17) then (if (ji17) < (l0_2.length : Int) then (if ((Op.bytesLess (((rd_T86 l0_2 (ji17)).f0).toList) (((rd_T86 l0_2 x3_1).f0).toList)) = true) then ((spec_l1In.f ((rd_T86 l0_2 x3_1).f1) 0 1000).bind fun t136 => (if t136 = true then ((spec_l2NameOk.f k1 ((rd_T86 l0_2 x3_1).f2)).bind fun t137 => (spec_l2PlacesOk.j1 k1 x3_1 (!t137) l0_0 l0_1 l0_2 l0_3)) else (spec_l2PlacesOk.j1 k1 x3_1 true l0_0 l0_1 l0_2 l0_3))) else (spec_l2PlacesOk.j1 k1 x3_1 true l0_0 l0_1 l0_2 l0_3)) else (none)) else (none)) = some r := by first | (rw [hji17] at H; exact H) | (simp only [hji17] at H ⊢; exact H)
         (try rw [hji17] at A14)
         have hji17w : (IntKind.i64.wrap (x3_1 - 1)) = ji17 := (i64_w _).trans hji17
         by_cases c18 : 0 ≤ (ji17)
         ·rw [if_pos c18] at H
          have c18b0 : decide (0 ≤ (ji17)) = true := decide_eq_true c18
          clear c18
          by_cases c19 : (ji17) < (l0_2.length : Int)
          ·rw [if_pos c19] at H
           have c19b0 : decide ((ji17) < (l0_2.length : Int)) = true := decide_eq_true c19
           clear c19
           by_cases c20 : ((Op.bytesLess (((rd_T86 l0_2 (ji17)).f0).toList) (((rd_T86 l0_2 x3_1).f0).toList)) = true)
           ·rw [if_pos c20] at H
            have c20b0 : (Op.bytesLess (((rd_T86 l0_2 (ji17)).f0).toList) (((rd_T86 l0_2 x3_1).f0).toList)) = true := c20
            clear c20
            replace H := Option.bind_eq_some_iff.mp H
            obtain ⟨t136, A210, H⟩ := H
            replace H : (if t136 = true then ((spec_l2NameOk.f k1 ((rd_T86 l0_2 x3_1).f2)).bind fun t137 => (spec_l2PlacesOk.j1 k1 x3_1 (!t137) l0_0 l0_1 l0_2 l0_3)) else (spec_l2PlacesOk.j1 k1 x3_1 true l0_0 l0_1 l0_2 l0_3)) = some r := H
            have A21 := Aside0.mk A210
            clear A210
            by_cases c22 : t136 = true
            ·subst c22
             have H1 : ((spec_l2NameOk.f k1 ((rd_T86 l0_2 x3_1).f2)).bind fun t137 => (spec_l2PlacesOk.j1 k1 x3_1 (!t137) l0_0 l0_1 l0_2 l0_3)) = some r := by rw [if_pos rfl] at H; exact H
             clear H
             have H := H1
             clear H1
             replace H := Option.bind_eq_some_iff.mp H
             obtain ⟨t137, A230, H⟩ := H
             replace H : (spec_l2PlacesOk.j1 k1 x3_1 (!t137) l0_0 l0_1 l0_2 l0_3) = some r := H
             have A23 := Aside0.mk A230
             clear A230
             have H' := Aside0.mk H
             clear H
             have hnb24 := NB133_131.out
             have hnc24 := NB131_133.out
             obtain ⟨hcz25_0, hcz25_1, hcz25_2⟩ := cz3_ BK133.out
             obtain ⟨hfz25_0, hfz25_1, hfz25_2⟩ := fz3_ BK133.out
             go_wp2_with (first | (go_at_call 119; (with_reducible refine (spec_l2NameOk.calls k1 ((rd_T86 l0_2 x3_1).f0) true _ A14.out).mono ?_); rintro e w' ⟨rfl, ⟨nd, rfl⟩⟩; (try exact m2_); obtain ⟨hcz26_0, hcz26_1, hcz26_2, hcz26_3⟩ := cz4_ BK131.out; obtain ⟨hfz26_0, hfz26_1, hfz26_2, hfz26_3⟩ := fz4_ BK131.out; have p135 : 0 ≤ ((ji17) : Int) := of_decide_eq_true m5_; have q135 : (ji17) < (l0_2.length : Int) := of_decide_eq_true m5_; obtain ⟨ad135, e135, hx135_0, hx135_1, hx135_2⟩ := at_T86 HR0_2.out (ji17) p135 q135; obtain rfl : ad132 = ad135 := (by injection e135); have hn135_0 : ad132.block ≠ gb133 := Nat.ne_of_lt (Nat.lt_of_lt_of_le m25_ GW133.out); have hn135_1 : ad132.block ≠ gb133 := Nat.ne_of_lt (Nat.lt_of_lt_of_le m25_ GW133.out); have hn135_2 : ad132.block ≠ gb133 := Nat.ne_of_lt (Nat.lt_of_lt_of_le m25_ GW133.out); replace hx135_0 := (HB.out.cell (World.block_lt_of_cell? w _ hx135_0)).trans hx135_0; replace hx135_1 := (HB.out.cell (World.block_lt_of_cell? w _ hx135_1)).trans hx135_1; replace hx135_2 := (HB.out.cell (World.block_lt_of_cell? w _ hx135_2)).trans hx135_2; replace hx135_0 := (cell_far (p := ⟨gb133, 0, none⟩) m16_ (.string ((rd_T86 l0_2 x3_1).f0))).trans hx135_0; replace hx135_1 := (cell_far (p := ⟨gb133, 0, none⟩) m16_ (.string ((rd_T86 l0_2 x3_1).f0))).trans hx135_1; replace hx135_2 := (cell_far (p := ⟨gb133, 0, none⟩) m16_ (.string ((rd_T86 l0_2 x3_1).f0))).trans hx135_2; replace hx135_0 := (cell_far (p := ⟨gb133, 1, none⟩) m17_ (.int .i64 ((rd_T86 l0_2 x3_1).f1))).trans hx135_0; replace hx135_1 := (cell_far (p := ⟨gb133, 1, none⟩) m17_ (.int .i64 ((rd_T86 l0_2 x3_1).f1))).trans hx135_1; replace hx135_2 := (cell_far (p := ⟨gb133, 1, none⟩) m17_ (.int .i64 ((rd_T86 l0_2 x3_1).f1))).trans hx135_2; replace hx135_0 := (cell_far (p := ⟨gb133, 2, none⟩) m18_ (.string ((rd_T86 l0_2 x3_1).f2))).trans hx135_0; replace hx135_1 := (cell_far (p := ⟨gb133, 2, none⟩) m18_ (.string ((rd_T86 l0_2 x3_1).f2))).trans hx135_1; replace hx135_2 := (cell_far (p := ⟨gb133, 2, none⟩) m18_ (.string ((rd_T86 l0_2 x3_1).f2))).trans hx135_2; (try have hy135_0 := fun (n_ : Nat) => (show (((((w11.drewN n_).setCell ⟨gb133, 0, none⟩ (.string ((rd_T86 l0_2 x3_1).f0))).setCell ⟨gb133, 1, none⟩ (.int .i64 ((rd_T86 l0_2 x3_1).f1))).setCell ⟨gb133, 2, none⟩ (.string ((rd_T86 l0_2 x3_1).f2)))).cell? _ = some _ from hx135_0)); (try have hy135_1 := fun (n_ : Nat) => (show (((((w11.drewN n_).setCell ⟨gb133, 0, none⟩ (.string ((rd_T86 l0_2 x3_1).f0))).setCell ⟨gb133, 1, none⟩ (.int .i64 ((rd_T86 l0_2 x3_1).f1))).setCell ⟨gb133, 2, none⟩ (.string ((rd_T86 l0_2 x3_1).f2)))).cell? _ = some _ from hx135_1)); (try have hy135_2 := fun (n_ : Nat) => (show (((((w11.drewN n_).setCell ⟨gb133, 0, none⟩ (.string ((rd_T86 l0_2 x3_1).f0))).setCell ⟨gb133, 1, none⟩ (.int .i64 ((rd_T86 l0_2 x3_1).f1))).setCell ⟨gb133, 2, none⟩ (.string ((rd_T86 l0_2 x3_1).f2)))).cell? _ = some _ from hx135_2)); clear hn135_0; clear hn135_1; clear hn135_2; replace p135 := eq_true p135; replace q135 := eq_true q135) | (go_at_call 121; (with_reducible refine (spec_l1In.calls ((rd_T86 l0_2 x3_1).f1) 0 1000 true _ A21.out).mono ?_); rintro e w' ⟨rfl, ⟨nd, rfl⟩⟩; (try exact m2_)) | (go_at_call 119; (with_reducible refine (spec_l2NameOk.calls k1 ((rd_T86 l0_2 x3_1).f2) t137 _ A23.out).mono ?_); rintro e w' ⟨rfl, ⟨nd, rfl⟩⟩; (try exact m2_)))
             repeat (go_quiet (first | (go_at_call 119; (with_reducible refine (spec_l2NameOk.calls k1 ((rd_T86 l0_2 x3_1).f0) true _ A14.out).mono ?_); rintro e w' ⟨rfl, ⟨nd, rfl⟩⟩; (try exact m2_); obtain ⟨hcz26_0, hcz26_1, hcz26_2, hcz26_3⟩ := cz4_ BK131.out; obtain ⟨hfz26_0, hfz26_1, hfz26_2, hfz26_3⟩ := fz4_ BK131.out; have p135 : 0 ≤ ((ji17) : Int) := of_decide_eq_true m5_; have q135 : (ji17) < (l0_2.length : Int) := of_decide_eq_true m5_; obtain ⟨ad135, e135, hx135_0, hx135_1, hx135_2⟩ := at_T86 HR0_2.out (ji17) p135 q135; obtain rfl : ad132 = ad135 := (by injection e135); have hn135_0 : ad132.block ≠ gb133 := Nat.ne_of_lt (Nat.lt_of_lt_of_le m25_ GW133.out); have hn135_1 : ad132.block ≠ gb133 := Nat.ne_of_lt (Nat.lt_of_lt_of_le m25_ GW133.out); have hn135_2 : ad132.block ≠ gb133 := Nat.ne_of_lt (Nat.lt_of_lt_of_le m25_ GW133.out); replace hx135_0 := (HB.out.cell (World.block_lt_of_cell? w _ hx135_0)).trans hx135_0; replace hx135_1 := (HB.out.cell (World.block_lt_of_cell? w _ hx135_1)).trans hx135_1; replace hx135_2 := (HB.out.cell (World.block_lt_of_cell? w _ hx135_2)).trans hx135_2; replace hx135_0 := (cell_far (p := ⟨gb133, 0, none⟩) m16_ (.string ((rd_T86 l0_2 x3_1).f0))).trans hx135_0; replace hx135_1 := (cell_far (p := ⟨gb133, 0, none⟩) m16_ (.string ((rd_T86 l0_2 x3_1).f0))).trans hx135_1; replace hx135_2 := (cell_far (p := ⟨gb133, 0, none⟩) m16_ (.string ((rd_T86 l0_2 x3_1).f0))).trans hx135_2; replace hx135_0 := (cell_far (p := ⟨gb133, 1, none⟩) m17_ (.int .i64 ((rd_T86 l0_2 x3_1).f1))).trans hx135_0; replace hx135_1 := (cell_far (p := ⟨gb133, 1, none⟩) m17_ (.int .i64 ((rd_T86 l0_2 x3_1).f1))).trans hx135_1; replace hx135_2 := (cell_far (p := ⟨gb133, 1, none⟩) m17_ (.int .i64 ((rd_T86 l0_2 x3_1).f1))).trans hx135_2; replace hx135_0 := (cell_far (p := ⟨gb133, 2, none⟩) m18_ (.string ((rd_T86 l0_2 x3_1).f2))).trans hx135_0; replace hx135_1 := (cell_far (p := ⟨gb133, 2, none⟩) m18_ (.string ((rd_T86 l0_2 x3_1).f2))).trans hx135_1; replace hx135_2 := (cell_far (p := ⟨gb133, 2, none⟩) m18_ (.string ((rd_T86 l0_2 x3_1).f2))).trans hx135_2; (try have hy135_0 := fun (n_ : Nat) => (show (((((w11.drewN n_).setCell ⟨gb133, 0, none⟩ (.string ((rd_T86 l0_2 x3_1).f0))).setCell ⟨gb133, 1, none⟩ (.int .i64 ((rd_T86 l0_2 x3_1).f1))).setCell ⟨gb133, 2, none⟩ (.string ((rd_T86 l0_2 x3_1).f2)))).cell? _ = some _ from hx135_0)); (try have hy135_1 := fun (n_ : Nat) => (show (((((w11.drewN n_).setCell ⟨gb133, 0, none⟩ (.string ((rd_T86 l0_2 x3_1).f0))).setCell ⟨gb133, 1, none⟩ (.int .i64 ((rd_T86 l0_2 x3_1).f1))).setCell ⟨gb133, 2, none⟩ (.string ((rd_T86 l0_2 x3_1).f2)))).cell? _ = some _ from hx135_1)); (try have hy135_2 := fun (n_ : Nat) => (show (((((w11.drewN n_).setCell ⟨gb133, 0, none⟩ (.string ((rd_T86 l0_2 x3_1).f0))).setCell ⟨gb133, 1, none⟩ (.int .i64 ((rd_T86 l0_2 x3_1).f1))).setCell ⟨gb133, 2, none⟩ (.string ((rd_T86 l0_2 x3_1).f2)))).cell? _ = some _ from hx135_2)); clear hn135_0; clear hn135_1; clear hn135_2; replace p135 := eq_true p135; replace q135 := eq_true q135) | (go_at_call 121; (with_reducible refine (spec_l1In.calls ((rd_T86 l0_2 x3_1).f1) 0 1000 true _ A21.out).mono ?_); rintro e w' ⟨rfl, ⟨nd, rfl⟩⟩; (try exact m2_)) | (go_at_call 119; (with_reducible refine (spec_l2NameOk.calls k1 ((rd_T86 l0_2 x3_1).f2) t137 _ A23.out).mono ?_); rintro e w' ⟨rfl, ⟨nd, rfl⟩⟩; (try exact m2_))); try go_wp2_with (first | (go_at_call 119; (with_reducible refine (spec_l2NameOk.calls k1 ((rd_T86 l0_2 x3_1).f0) true _ A14.out).mono ?_); rintro e w' ⟨rfl, ⟨nd, rfl⟩⟩; (try exact m2_); obtain ⟨hcz26_0, hcz26_1, hcz26_2, hcz26_3⟩ := cz4_ BK131.out; obtain ⟨hfz26_0, hfz26_1, hfz26_2, hfz26_3⟩ := fz4_ BK131.out; have p135 : 0 ≤ ((ji17) : Int) := of_decide_eq_true m5_; have q135 : (ji17) < (l0_2.length : Int) := of_decide_eq_true m5_; obtain ⟨ad135, e135, hx135_0, hx135_1, hx135_2⟩ := at_T86 HR0_2.out (ji17) p135 q135; obtain rfl : ad132 = ad135 := (by injection e135); have hn135_0 : ad132.block ≠ gb133 := Nat.ne_of_lt (Nat.lt_of_lt_of_le m25_ GW133.out); have hn135_1 : ad132.block ≠ gb133 := Nat.ne_of_lt (Nat.lt_of_lt_of_le m25_ GW133.out); have hn135_2 : ad132.block ≠ gb133 := Nat.ne_of_lt (Nat.lt_of_lt_of_le m25_ GW133.out); replace hx135_0 := (HB.out.cell (World.block_lt_of_cell? w _ hx135_0)).trans hx135_0; replace hx135_1 := (HB.out.cell (World.block_lt_of_cell? w _ hx135_1)).trans hx135_1; replace hx135_2 := (HB.out.cell (World.block_lt_of_cell? w _ hx135_2)).trans hx135_2; replace hx135_0 := (cell_far (p := ⟨gb133, 0, none⟩) m16_ (.string ((rd_T86 l0_2 x3_1).f0))).trans hx135_0; replace hx135_1 := (cell_far (p := ⟨gb133, 0, none⟩) m16_ (.string ((rd_T86 l0_2 x3_1).f0))).trans hx135_1; replace hx135_2 := (cell_far (p := ⟨gb133, 0, none⟩) m16_ (.string ((rd_T86 l0_2 x3_1).f0))).trans hx135_2; replace hx135_0 := (cell_far (p := ⟨gb133, 1, none⟩) m17_ (.int .i64 ((rd_T86 l0_2 x3_1).f1))).trans hx135_0; replace hx135_1 := (cell_far (p := ⟨gb133, 1, none⟩) m17_ (.int .i64 ((rd_T86 l0_2 x3_1).f1))).trans hx135_1; replace hx135_2 := (cell_far (p := ⟨gb133, 1, none⟩) m17_ (.int .i64 ((rd_T86 l0_2 x3_1).f1))).trans hx135_2; replace hx135_0 := (cell_far (p := ⟨gb133, 2, none⟩) m18_ (.string ((rd_T86 l0_2 x3_1).f2))).trans hx135_0; replace hx135_1 := (cell_far (p := ⟨gb133, 2, none⟩) m18_ (.string ((rd_T86 l0_2 x3_1).f2))).trans hx135_1; replace hx135_2 := (cell_far (p := ⟨gb133, 2, none⟩) m18_ (.string ((rd_T86 l0_2 x3_1).f2))).trans hx135_2; (try have hy135_0 := fun (n_ : Nat) => (show (((((w11.drewN n_).setCell ⟨gb133, 0, none⟩ (.string ((rd_T86 l0_2 x3_1).f0))).setCell ⟨gb133, 1, none⟩ (.int .i64 ((rd_T86 l0_2 x3_1).f1))).setCell ⟨gb133, 2, none⟩ (.string ((rd_T86 l0_2 x3_1).f2)))).cell? _ = some _ from hx135_0)); (try have hy135_1 := fun (n_ : Nat) => (show (((((w11.drewN n_).setCell ⟨gb133, 0, none⟩ (.string ((rd_T86 l0_2 x3_1).f0))).setCell ⟨gb133, 1, none⟩ (.int .i64 ((rd_T86 l0_2 x3_1).f1))).setCell ⟨gb133, 2, none⟩ (.string ((rd_T86 l0_2 x3_1).f2)))).cell? _ = some _ from hx135_1)); (try have hy135_2 := fun (n_ : Nat) => (show (((((w11.drewN n_).setCell ⟨gb133, 0, none⟩ (.string ((rd_T86 l0_2 x3_1).f0))).setCell ⟨gb133, 1, none⟩ (.int .i64 ((rd_T86 l0_2 x3_1).f1))).setCell ⟨gb133, 2, none⟩ (.string ((rd_T86 l0_2 x3_1).f2)))).cell? _ = some _ from hx135_2)); clear hn135_0; clear hn135_1; clear hn135_2; replace p135 := eq_true p135; replace q135 := eq_true q135) | (go_at_call 121; (with_reducible refine (spec_l1In.calls ((rd_T86 l0_2 x3_1).f1) 0 1000 true _ A21.out).mono ?_); rintro e w' ⟨rfl, ⟨nd, rfl⟩⟩; (try exact m2_)) | (go_at_call 119; (with_reducible refine (spec_l2NameOk.calls k1 ((rd_T86 l0_2 x3_1).f2) t137 _ A23.out).mono ?_); rintro e w' ⟨rfl, ⟨nd, rfl⟩⟩; (try exact m2_))))
             go_meet
             case rel => exact ⟨_, (!t137), m8_, H', ⟨m82_⟩, ⟨m22_⟩, ⟨m12_⟩, ⟨m40_⟩⟩
            ·replace c22 := Bool.eq_false_iff.mpr c22
             subst c22
             have H1 : (spec_l2PlacesOk.j1 k1 x3_1 true l0_0 l0_1 l0_2 l0_3) = some r := by rw [if_neg (show ¬ (false = true) by decide)] at H; exact H
             clear H
             have H := H1
             clear H1
             have H' := Aside0.mk H
             clear H
             have hnb27 := NB133_131.out
             have hnc27 := NB131_133.out
             obtain ⟨hcz28_0, hcz28_1, hcz28_2⟩ := cz3_ BK133.out
             obtain ⟨hfz28_0, hfz28_1, hfz28_2⟩ := fz3_ BK133.out
             go_wp2_with (first | (go_at_call 119; (with_reducible refine (spec_l2NameOk.calls k1 ((rd_T86 l0_2 x3_1).f0) true _ A14.out).mono ?_); rintro e w' ⟨rfl, ⟨nd, rfl⟩⟩; (try exact m2_); obtain ⟨hcz29_0, hcz29_1, hcz29_2, hcz29_3⟩ := cz4_ BK131.out; obtain ⟨hfz29_0, hfz29_1, hfz29_2, hfz29_3⟩ := fz4_ BK131.out; have p135 : 0 ≤ ((ji17) : Int) := of_decide_eq_true m5_; have q135 : (ji17) < (l0_2.length : Int) := of_decide_eq_true m5_; obtain ⟨ad135, e135, hx135_0, hx135_1, hx135_2⟩ := at_T86 HR0_2.out (ji17) p135 q135; obtain rfl : ad132 = ad135 := (by injection e135); have hn135_0 : ad132.block ≠ gb133 := Nat.ne_of_lt (Nat.lt_of_lt_of_le m25_ GW133.out); have hn135_1 : ad132.block ≠ gb133 := Nat.ne_of_lt (Nat.lt_of_lt_of_le m25_ GW133.out); have hn135_2 : ad132.block ≠ gb133 := Nat.ne_of_lt (Nat.lt_of_lt_of_le m25_ GW133.out); replace hx135_0 := (HB.out.cell (World.block_lt_of_cell? w _ hx135_0)).trans hx135_0; replace hx135_1 := (HB.out.cell (World.block_lt_of_cell? w _ hx135_1)).trans hx135_1; replace hx135_2 := (HB.out.cell (World.block_lt_of_cell? w _ hx135_2)).trans hx135_2; replace hx135_0 := (cell_far (p := ⟨gb133, 0, none⟩) m16_ (.string ((rd_T86 l0_2 x3_1).f0))).trans hx135_0; replace hx135_1 := (cell_far (p := ⟨gb133, 0, none⟩) m16_ (.string ((rd_T86 l0_2 x3_1).f0))).trans hx135_1; replace hx135_2 := (cell_far (p := ⟨gb133, 0, none⟩) m16_ (.string ((rd_T86 l0_2 x3_1).f0))).trans hx135_2; replace hx135_0 := (cell_far (p := ⟨gb133, 1, none⟩) m17_ (.int .i64 ((rd_T86 l0_2 x3_1).f1))).trans hx135_0; replace hx135_1 := (cell_far (p := ⟨gb133, 1, none⟩) m17_ (.int .i64 ((rd_T86 l0_2 x3_1).f1))).trans hx135_1; replace hx135_2 := (cell_far (p := ⟨gb133, 1, none⟩) m17_ (.int .i64 ((rd_T86 l0_2 x3_1).f1))).trans hx135_2; replace hx135_0 := (cell_far (p := ⟨gb133, 2, none⟩) m18_ (.string ((rd_T86 l0_2 x3_1).f2))).trans hx135_0; replace hx135_1 := (cell_far (p := ⟨gb133, 2, none⟩) m18_ (.string ((rd_T86 l0_2 x3_1).f2))).trans hx135_1; replace hx135_2 := (cell_far (p := ⟨gb133, 2, none⟩) m18_ (.string ((rd_T86 l0_2 x3_1).f2))).trans hx135_2; (try have hy135_0 := fun (n_ : Nat) => (show (((((w11.drewN n_).setCell ⟨gb133, 0, none⟩ (.string ((rd_T86 l0_2 x3_1).f0))).setCell ⟨gb133, 1, none⟩ (.int .i64 ((rd_T86 l0_2 x3_1).f1))).setCell ⟨gb133, 2, none⟩ (.string ((rd_T86 l0_2 x3_1).f2)))).cell? _ = some _ from hx135_0)); (try have hy135_1 := fun (n_ : Nat) => (show (((((w11.drewN n_).setCell ⟨gb133, 0, none⟩ (.string ((rd_T86 l0_2 x3_1).f0))).setCell ⟨gb133, 1, none⟩ (.int .i64 ((rd_T86 l0_2 x3_1).f1))).setCell ⟨gb133, 2, none⟩ (.string ((rd_T86 l0_2 x3_1).f2)))).cell? _ = some _ from hx135_1)); (try have hy135_2 := fun (n_ : Nat) => (show (((((w11.drewN n_).setCell ⟨gb133, 0, none⟩ (.string ((rd_T86 l0_2 x3_1).f0))).setCell ⟨gb133, 1, none⟩ (.int .i64 ((rd_T86 l0_2 x3_1).f1))).setCell ⟨gb133, 2, none⟩ (.string ((rd_T86 l0_2 x3_1).f2)))).cell? _ = some _ from hx135_2)); clear hn135_0; clear hn135_1; clear hn135_2; replace p135 := eq_true p135; replace q135 := eq_true q135) | (go_at_call 121; (with_reducible refine (spec_l1In.calls ((rd_T86 l0_2 x3_1).f1) 0 1000 false _ A21.out).mono ?_); rintro e w' ⟨rfl, ⟨nd, rfl⟩⟩; (try exact m2_)))
             repeat (go_quiet (first | (go_at_call 119; (with_reducible refine (spec_l2NameOk.calls k1 ((rd_T86 l0_2 x3_1).f0) true _ A14.out).mono ?_); rintro e w' ⟨rfl, ⟨nd, rfl⟩⟩; (try exact m2_); obtain ⟨hcz29_0, hcz29_1, hcz29_2, hcz29_3⟩ := cz4_ BK131.out; obtain ⟨hfz29_0, hfz29_1, hfz29_2, hfz29_3⟩ := fz4_ BK131.out; have p135 : 0 ≤ ((ji17) : Int) := of_decide_eq_true m5_; have q135 : (ji17) < (l0_2.length : Int) := of_decide_eq_true m5_; obtain ⟨ad135, e135, hx135_0, hx135_1, hx135_2⟩ := at_T86 HR0_2.out (ji17) p135 q135; obtain rfl : ad132 = ad135 := (by injection e135); have hn135_0 : ad132.block ≠ gb133 := Nat.ne_of_lt (Nat.lt_of_lt_of_le m25_ GW133.out); have hn135_1 : ad132.block ≠ gb133 := Nat.ne_of_lt (Nat.lt_of_lt_of_le m25_ GW133.out); have hn135_2 : ad132.block ≠ gb133 := Nat.ne_of_lt (Nat.lt_of_lt_of_le m25_ GW133.out); replace hx135_0 := (HB.out.cell (World.block_lt_of_cell? w _ hx135_0)).trans hx135_0; replace hx135_1 := (HB.out.cell (World.block_lt_of_cell? w _ hx135_1)).trans hx135_1; replace hx135_2 := (HB.out.cell (World.block_lt_of_cell? w _ hx135_2)).trans hx135_2; replace hx135_0 := (cell_far (p := ⟨gb133, 0, none⟩) m16_ (.string ((rd_T86 l0_2 x3_1).f0))).trans hx135_0; replace hx135_1 := (cell_far (p := ⟨gb133, 0, none⟩) m16_ (.string ((rd_T86 l0_2 x3_1).f0))).trans hx135_1; replace hx135_2 := (cell_far (p := ⟨gb133, 0, none⟩) m16_ (.string ((rd_T86 l0_2 x3_1).f0))).trans hx135_2; replace hx135_0 := (cell_far (p := ⟨gb133, 1, none⟩) m17_ (.int .i64 ((rd_T86 l0_2 x3_1).f1))).trans hx135_0; replace hx135_1 := (cell_far (p := ⟨gb133, 1, none⟩) m17_ (.int .i64 ((rd_T86 l0_2 x3_1).f1))).trans hx135_1; replace hx135_2 := (cell_far (p := ⟨gb133, 1, none⟩) m17_ (.int .i64 ((rd_T86 l0_2 x3_1).f1))).trans hx135_2; replace hx135_0 := (cell_far (p := ⟨gb133, 2, none⟩) m18_ (.string ((rd_T86 l0_2 x3_1).f2))).trans hx135_0; replace hx135_1 := (cell_far (p := ⟨gb133, 2, none⟩) m18_ (.string ((rd_T86 l0_2 x3_1).f2))).trans hx135_1; replace hx135_2 := (cell_far (p := ⟨gb133, 2, none⟩) m18_ (.string ((rd_T86 l0_2 x3_1).f2))).trans hx135_2; (try have hy135_0 := fun (n_ : Nat) => (show (((((w11.drewN n_).setCell ⟨gb133, 0, none⟩ (.string ((rd_T86 l0_2 x3_1).f0))).setCell ⟨gb133, 1, none⟩ (.int .i64 ((rd_T86 l0_2 x3_1).f1))).setCell ⟨gb133, 2, none⟩ (.string ((rd_T86 l0_2 x3_1).f2)))).cell? _ = some _ from hx135_0)); (try have hy135_1 := fun (n_ : Nat) => (show (((((w11.drewN n_).setCell ⟨gb133, 0, none⟩ (.string ((rd_T86 l0_2 x3_1).f0))).setCell ⟨gb133, 1, none⟩ (.int .i64 ((rd_T86 l0_2 x3_1).f1))).setCell ⟨gb133, 2, none⟩ (.string ((rd_T86 l0_2 x3_1).f2)))).cell? _ = some _ from hx135_1)); (try have hy135_2 := fun (n_ : Nat) => (show (((((w11.drewN n_).setCell ⟨gb133, 0, none⟩ (.string ((rd_T86 l0_2 x3_1).f0))).setCell ⟨gb133, 1, none⟩ (.int .i64 ((rd_T86 l0_2 x3_1).f1))).setCell ⟨gb133, 2, none⟩ (.string ((rd_T86 l0_2 x3_1).f2)))).cell? _ = some _ from hx135_2)); clear hn135_0; clear hn135_1; clear hn135_2; replace p135 := eq_true p135; replace q135 := eq_true q135) | (go_at_call 121; (with_reducible refine (spec_l1In.calls ((rd_T86 l0_2 x3_1).f1) 0 1000 false _ A21.out).mono ?_); rintro e w' ⟨rfl, ⟨nd, rfl⟩⟩; (try exact m2_))); try go_wp2_with (first | (go_at_call 119; (with_reducible refine (spec_l2NameOk.calls k1 ((rd_T86 l0_2 x3_1).f0) true _ A14.out).mono ?_); rintro e w' ⟨rfl, ⟨nd, rfl⟩⟩; (try exact m2_); obtain ⟨hcz29_0, hcz29_1, hcz29_2, hcz29_3⟩ := cz4_ BK131.out; obtain ⟨hfz29_0, hfz29_1, hfz29_2, hfz29_3⟩ := fz4_ BK131.out; have p135 : 0 ≤ ((ji17) : Int) := of_decide_eq_true m5_; have q135 : (ji17) < (l0_2.length : Int) := of_decide_eq_true m5_; obtain ⟨ad135, e135, hx135_0, hx135_1, hx135_2⟩ := at_T86 HR0_2.out (ji17) p135 q135; obtain rfl : ad132 = ad135 := (by injection e135); have hn135_0 : ad132.block ≠ gb133 := Nat.ne_of_lt (Nat.lt_of_lt_of_le m25_ GW133.out); have hn135_1 : ad132.block ≠ gb133 := Nat.ne_of_lt (Nat.lt_of_lt_of_le m25_ GW133.out); have hn135_2 : ad132.block ≠ gb133 := Nat.ne_of_lt (Nat.lt_of_lt_of_le m25_ GW133.out); replace hx135_0 := (HB.out.cell (World.block_lt_of_cell? w _ hx135_0)).trans hx135_0; replace hx135_1 := (HB.out.cell (World.block_lt_of_cell? w _ hx135_1)).trans hx135_1; replace hx135_2 := (HB.out.cell (World.block_lt_of_cell? w _ hx135_2)).trans hx135_2; replace hx135_0 := (cell_far (p := ⟨gb133, 0, none⟩) m16_ (.string ((rd_T86 l0_2 x3_1).f0))).trans hx135_0; replace hx135_1 := (cell_far (p := ⟨gb133, 0, none⟩) m16_ (.string ((rd_T86 l0_2 x3_1).f0))).trans hx135_1; replace hx135_2 := (cell_far (p := ⟨gb133, 0, none⟩) m16_ (.string ((rd_T86 l0_2 x3_1).f0))).trans hx135_2; replace hx135_0 := (cell_far (p := ⟨gb133, 1, none⟩) m17_ (.int .i64 ((rd_T86 l0_2 x3_1).f1))).trans hx135_0; replace hx135_1 := (cell_far (p := ⟨gb133, 1, none⟩) m17_ (.int .i64 ((rd_T86 l0_2 x3_1).f1))).trans hx135_1; replace hx135_2 := (cell_far (p := ⟨gb133, 1, none⟩) m17_ (.int .i64 ((rd_T86 l0_2 x3_1).f1))).trans hx135_2; replace hx135_0 := (cell_far (p := ⟨gb133, 2, none⟩) m18_ (.string ((rd_T86 l0_2 x3_1).f2))).trans hx135_0; replace hx135_1 := (cell_far (p := ⟨gb133, 2, none⟩) m18_ (.string ((rd_T86 l0_2 x3_1).f2))).trans hx135_1; replace hx135_2 := (cell_far (p := ⟨gb133, 2, none⟩) m18_ (.string ((rd_T86 l0_2 x3_1).f2))).trans hx135_2; (try have hy135_0 := fun (n_ : Nat) => (show (((((w11.drewN n_).setCell ⟨gb133, 0, none⟩ (.string ((rd_T86 l0_2 x3_1).f0))).setCell ⟨gb133, 1, none⟩ (.int .i64 ((rd_T86 l0_2 x3_1).f1))).setCell ⟨gb133, 2, none⟩ (.string ((rd_T86 l0_2 x3_1).f2)))).cell? _ = some _ from hx135_0)); (try have hy135_1 := fun (n_ : Nat) => (show (((((w11.drewN n_).setCell ⟨gb133, 0, none⟩ (.string ((rd_T86 l0_2 x3_1).f0))).setCell ⟨gb133, 1, none⟩ (.int .i64 ((rd_T86 l0_2 x3_1).f1))).setCell ⟨gb133, 2, none⟩ (.string ((rd_T86 l0_2 x3_1).f2)))).cell? _ = some _ from hx135_1)); (try have hy135_2 := fun (n_ : Nat) => (show (((((w11.drewN n_).setCell ⟨gb133, 0, none⟩ (.string ((rd_T86 l0_2 x3_1).f0))).setCell ⟨gb133, 1, none⟩ (.int .i64 ((rd_T86 l0_2 x3_1).f1))).setCell ⟨gb133, 2, none⟩ (.string ((rd_T86 l0_2 x3_1).f2)))).cell? _ = some _ from hx135_2)); clear hn135_0; clear hn135_1; clear hn135_2; replace p135 := eq_true p135; replace q135 := eq_true q135) | (go_at_call 121; (with_reducible refine (spec_l1In.calls ((rd_T86 l0_2 x3_1).f1) 0 1000 false _ A21.out).mono ?_); rintro e w' ⟨rfl, ⟨nd, rfl⟩⟩; (try exact m2_))))
             go_meet
             case rel => exact ⟨_, (true), m8_, H', ⟨m82_⟩, ⟨m22_⟩, ⟨m12_⟩, ⟨m40_⟩⟩
           ·rw [if_neg c20] at H
            have c20b0 : (Op.bytesLess (((rd_T86 l0_2 (ji17)).f0).toList) (((rd_T86 l0_2 x3_1).f0).toList)) = false := by simpa using c20
            clear c20
            have H' := Aside0.mk H
            clear H
            have hnb30 := NB133_131.out
            have hnc30 := NB131_133.out
            obtain ⟨hcz31_0, hcz31_1, hcz31_2⟩ := cz3_ BK133.out
            obtain ⟨hfz31_0, hfz31_1, hfz31_2⟩ := fz3_ BK133.out
            go_wp2_with (first | (go_at_call 119; (with_reducible refine (spec_l2NameOk.calls k1 ((rd_T86 l0_2 x3_1).f0) true _ A14.out).mono ?_); rintro e w' ⟨rfl, ⟨nd, rfl⟩⟩; (try exact m2_); obtain ⟨hcz32_0, hcz32_1, hcz32_2, hcz32_3⟩ := cz4_ BK131.out; obtain ⟨hfz32_0, hfz32_1, hfz32_2, hfz32_3⟩ := fz4_ BK131.out; have p135 : 0 ≤ ((ji17) : Int) := of_decide_eq_true m5_; have q135 : (ji17) < (l0_2.length : Int) := of_decide_eq_true m5_; obtain ⟨ad135, e135, hx135_0, hx135_1, hx135_2⟩ := at_T86 HR0_2.out (ji17) p135 q135; obtain rfl : ad132 = ad135 := (by injection e135); have hn135_0 : ad132.block ≠ gb133 := Nat.ne_of_lt (Nat.lt_of_lt_of_le m25_ GW133.out); have hn135_1 : ad132.block ≠ gb133 := Nat.ne_of_lt (Nat.lt_of_lt_of_le m25_ GW133.out); have hn135_2 : ad132.block ≠ gb133 := Nat.ne_of_lt (Nat.lt_of_lt_of_le m25_ GW133.out); replace hx135_0 := (HB.out.cell (World.block_lt_of_cell? w _ hx135_0)).trans hx135_0; replace hx135_1 := (HB.out.cell (World.block_lt_of_cell? w _ hx135_1)).trans hx135_1; replace hx135_2 := (HB.out.cell (World.block_lt_of_cell? w _ hx135_2)).trans hx135_2; replace hx135_0 := (cell_far (p := ⟨gb133, 0, none⟩) m16_ (.string ((rd_T86 l0_2 x3_1).f0))).trans hx135_0; replace hx135_1 := (cell_far (p := ⟨gb133, 0, none⟩) m16_ (.string ((rd_T86 l0_2 x3_1).f0))).trans hx135_1; replace hx135_2 := (cell_far (p := ⟨gb133, 0, none⟩) m16_ (.string ((rd_T86 l0_2 x3_1).f0))).trans hx135_2; replace hx135_0 := (cell_far (p := ⟨gb133, 1, none⟩) m17_ (.int .i64 ((rd_T86 l0_2 x3_1).f1))).trans hx135_0; replace hx135_1 := (cell_far (p := ⟨gb133, 1, none⟩) m17_ (.int .i64 ((rd_T86 l0_2 x3_1).f1))).trans hx135_1; replace hx135_2 := (cell_far (p := ⟨gb133, 1, none⟩) m17_ (.int .i64 ((rd_T86 l0_2 x3_1).f1))).trans hx135_2; replace hx135_0 := (cell_far (p := ⟨gb133, 2, none⟩) m18_ (.string ((rd_T86 l0_2 x3_1).f2))).trans hx135_0; replace hx135_1 := (cell_far (p := ⟨gb133, 2, none⟩) m18_ (.string ((rd_T86 l0_2 x3_1).f2))).trans hx135_1; replace hx135_2 := (cell_far (p := ⟨gb133, 2, none⟩) m18_ (.string ((rd_T86 l0_2 x3_1).f2))).trans hx135_2; (try have hy135_0 := fun (n_ : Nat) => (show (((((w11.drewN n_).setCell ⟨gb133, 0, none⟩ (.string ((rd_T86 l0_2 x3_1).f0))).setCell ⟨gb133, 1, none⟩ (.int .i64 ((rd_T86 l0_2 x3_1).f1))).setCell ⟨gb133, 2, none⟩ (.string ((rd_T86 l0_2 x3_1).f2)))).cell? _ = some _ from hx135_0)); (try have hy135_1 := fun (n_ : Nat) => (show (((((w11.drewN n_).setCell ⟨gb133, 0, none⟩ (.string ((rd_T86 l0_2 x3_1).f0))).setCell ⟨gb133, 1, none⟩ (.int .i64 ((rd_T86 l0_2 x3_1).f1))).setCell ⟨gb133, 2, none⟩ (.string ((rd_T86 l0_2 x3_1).f2)))).cell? _ = some _ from hx135_1)); (try have hy135_2 := fun (n_ : Nat) => (show (((((w11.drewN n_).setCell ⟨gb133, 0, none⟩ (.string ((rd_T86 l0_2 x3_1).f0))).setCell ⟨gb133, 1, none⟩ (.int .i64 ((rd_T86 l0_2 x3_1).f1))).setCell ⟨gb133, 2, none⟩ (.string ((rd_T86 l0_2 x3_1).f2)))).cell? _ = some _ from hx135_2)); clear hn135_0; clear hn135_1; clear hn135_2; replace p135 := eq_true p135; replace q135 := eq_true q135))
            repeat (go_quiet (first | (go_at_call 119; (with_reducible refine (spec_l2NameOk.calls k1 ((rd_T86 l0_2 x3_1).f0) true _ A14.out).mono ?_); rintro e w' ⟨rfl, ⟨nd, rfl⟩⟩; (try exact m2_); obtain ⟨hcz32_0, hcz32_1, hcz32_2, hcz32_3⟩ := cz4_ BK131.out; obtain ⟨hfz32_0, hfz32_1, hfz32_2, hfz32_3⟩ := fz4_ BK131.out; have p135 : 0 ≤ ((ji17) : Int) := of_decide_eq_true m5_; have q135 : (ji17) < (l0_2.length : Int) := of_decide_eq_true m5_; obtain ⟨ad135, e135, hx135_0, hx135_1, hx135_2⟩ := at_T86 HR0_2.out (ji17) p135 q135; obtain rfl : ad132 = ad135 := (by injection e135); have hn135_0 : ad132.block ≠ gb133 := Nat.ne_of_lt (Nat.lt_of_lt_of_le m25_ GW133.out); have hn135_1 : ad132.block ≠ gb133 := Nat.ne_of_lt (Nat.lt_of_lt_of_le m25_ GW133.out); have hn135_2 : ad132.block ≠ gb133 := Nat.ne_of_lt (Nat.lt_of_lt_of_le m25_ GW133.out); replace hx135_0 := (HB.out.cell (World.block_lt_of_cell? w _ hx135_0)).trans hx135_0; replace hx135_1 := (HB.out.cell (World.block_lt_of_cell? w _ hx135_1)).trans hx135_1; replace hx135_2 := (HB.out.cell (World.block_lt_of_cell? w _ hx135_2)).trans hx135_2; replace hx135_0 := (cell_far (p := ⟨gb133, 0, none⟩) m16_ (.string ((rd_T86 l0_2 x3_1).f0))).trans hx135_0; replace hx135_1 := (cell_far (p := ⟨gb133, 0, none⟩) m16_ (.string ((rd_T86 l0_2 x3_1).f0))).trans hx135_1; replace hx135_2 := (cell_far (p := ⟨gb133, 0, none⟩) m16_ (.string ((rd_T86 l0_2 x3_1).f0))).trans hx135_2; replace hx135_0 := (cell_far (p := ⟨gb133, 1, none⟩) m17_ (.int .i64 ((rd_T86 l0_2 x3_1).f1))).trans hx135_0; replace hx135_1 := (cell_far (p := ⟨gb133, 1, none⟩) m17_ (.int .i64 ((rd_T86 l0_2 x3_1).f1))).trans hx135_1; replace hx135_2 := (cell_far (p := ⟨gb133, 1, none⟩) m17_ (.int .i64 ((rd_T86 l0_2 x3_1).f1))).trans hx135_2; replace hx135_0 := (cell_far (p := ⟨gb133, 2, none⟩) m18_ (.string ((rd_T86 l0_2 x3_1).f2))).trans hx135_0; replace hx135_1 := (cell_far (p := ⟨gb133, 2, none⟩) m18_ (.string ((rd_T86 l0_2 x3_1).f2))).trans hx135_1; replace hx135_2 := (cell_far (p := ⟨gb133, 2, none⟩) m18_ (.string ((rd_T86 l0_2 x3_1).f2))).trans hx135_2; (try have hy135_0 := fun (n_ : Nat) => (show (((((w11.drewN n_).setCell ⟨gb133, 0, none⟩ (.string ((rd_T86 l0_2 x3_1).f0))).setCell ⟨gb133, 1, none⟩ (.int .i64 ((rd_T86 l0_2 x3_1).f1))).setCell ⟨gb133, 2, none⟩ (.string ((rd_T86 l0_2 x3_1).f2)))).cell? _ = some _ from hx135_0)); (try have hy135_1 := fun (n_ : Nat) => (show (((((w11.drewN n_).setCell ⟨gb133, 0, none⟩ (.string ((rd_T86 l0_2 x3_1).f0))).setCell ⟨gb133, 1, none⟩ (.int .i64 ((rd_T86 l0_2 x3_1).f1))).setCell ⟨gb133, 2, none⟩ (.string ((rd_T86 l0_2 x3_1).f2)))).cell? _ = some _ from hx135_1)); (try have hy135_2 := fun (n_ : Nat) => (show (((((w11.drewN n_).setCell ⟨gb133, 0, none⟩ (.string ((rd_T86 l0_2 x3_1).f0))).setCell ⟨gb133, 1, none⟩ (.int .i64 ((rd_T86 l0_2 x3_1).f1))).setCell ⟨gb133, 2, none⟩ (.string ((rd_T86 l0_2 x3_1).f2)))).cell? _ = some _ from hx135_2)); clear hn135_0; clear hn135_1; clear hn135_2; replace p135 := eq_true p135; replace q135 := eq_true q135)); try go_wp2_with (first | (go_at_call 119; (with_reducible refine (spec_l2NameOk.calls k1 ((rd_T86 l0_2 x3_1).f0) true _ A14.out).mono ?_); rintro e w' ⟨rfl, ⟨nd, rfl⟩⟩; (try exact m2_); obtain ⟨hcz32_0, hcz32_1, hcz32_2, hcz32_3⟩ := cz4_ BK131.out; obtain ⟨hfz32_0, hfz32_1, hfz32_2, hfz32_3⟩ := fz4_ BK131.out; have p135 : 0 ≤ ((ji17) : Int) := of_decide_eq_true m5_; have q135 : (ji17) < (l0_2.length : Int) := of_decide_eq_true m5_; obtain ⟨ad135, e135, hx135_0, hx135_1, hx135_2⟩ := at_T86 HR0_2.out (ji17) p135 q135; obtain rfl : ad132 = ad135 := (by injection e135); have hn135_0 : ad132.block ≠ gb133 := Nat.ne_of_lt (Nat.lt_of_lt_of_le m25_ GW133.out); have hn135_1 : ad132.block ≠ gb133 := Nat.ne_of_lt (Nat.lt_of_lt_of_le m25_ GW133.out); have hn135_2 : ad132.block ≠ gb133 := Nat.ne_of_lt (Nat.lt_of_lt_of_le m25_ GW133.out); replace hx135_0 := (HB.out.cell (World.block_lt_of_cell? w _ hx135_0)).trans hx135_0; replace hx135_1 := (HB.out.cell (World.block_lt_of_cell? w _ hx135_1)).trans hx135_1; replace hx135_2 := (HB.out.cell (World.block_lt_of_cell? w _ hx135_2)).trans hx135_2; replace hx135_0 := (cell_far (p := ⟨gb133, 0, none⟩) m16_ (.string ((rd_T86 l0_2 x3_1).f0))).trans hx135_0; replace hx135_1 := (cell_far (p := ⟨gb133, 0, none⟩) m16_ (.string ((rd_T86 l0_2 x3_1).f0))).trans hx135_1; replace hx135_2 := (cell_far (p := ⟨gb133, 0, none⟩) m16_ (.string ((rd_T86 l0_2 x3_1).f0))).trans hx135_2; replace hx135_0 := (cell_far (p := ⟨gb133, 1, none⟩) m17_ (.int .i64 ((rd_T86 l0_2 x3_1).f1))).trans hx135_0; replace hx135_1 := (cell_far (p := ⟨gb133, 1, none⟩) m17_ (.int .i64 ((rd_T86 l0_2 x3_1).f1))).trans hx135_1; replace hx135_2 := (cell_far (p := ⟨gb133, 1, none⟩) m17_ (.int .i64 ((rd_T86 l0_2 x3_1).f1))).trans hx135_2; replace hx135_0 := (cell_far (p := ⟨gb133, 2, none⟩) m18_ (.string ((rd_T86 l0_2 x3_1).f2))).trans hx135_0; replace hx135_1 := (cell_far (p := ⟨gb133, 2, none⟩) m18_ (.string ((rd_T86 l0_2 x3_1).f2))).trans hx135_1; replace hx135_2 := (cell_far (p := ⟨gb133, 2, none⟩) m18_ (.string ((rd_T86 l0_2 x3_1).f2))).trans hx135_2; (try have hy135_0 := fun (n_ : Nat) => (show (((((w11.drewN n_).setCell ⟨gb133, 0, none⟩ (.string ((rd_T86 l0_2 x3_1).f0))).setCell ⟨gb133, 1, none⟩ (.int .i64 ((rd_T86 l0_2 x3_1).f1))).setCell ⟨gb133, 2, none⟩ (.string ((rd_T86 l0_2 x3_1).f2)))).cell? _ = some _ from hx135_0)); (try have hy135_1 := fun (n_ : Nat) => (show (((((w11.drewN n_).setCell ⟨gb133, 0, none⟩ (.string ((rd_T86 l0_2 x3_1).f0))).setCell ⟨gb133, 1, none⟩ (.int .i64 ((rd_T86 l0_2 x3_1).f1))).setCell ⟨gb133, 2, none⟩ (.string ((rd_T86 l0_2 x3_1).f2)))).cell? _ = some _ from hx135_1)); (try have hy135_2 := fun (n_ : Nat) => (show (((((w11.drewN n_).setCell ⟨gb133, 0, none⟩ (.string ((rd_T86 l0_2 x3_1).f0))).setCell ⟨gb133, 1, none⟩ (.int .i64 ((rd_T86 l0_2 x3_1).f1))).setCell ⟨gb133, 2, none⟩ (.string ((rd_T86 l0_2 x3_1).f2)))).cell? _ = some _ from hx135_2)); clear hn135_0; clear hn135_1; clear hn135_2; replace p135 := eq_true p135; replace q135 := eq_true q135)))
            go_meet
            case rel => exact ⟨_, (true), m8_, H', ⟨m82_⟩, ⟨m22_⟩, ⟨m12_⟩, ⟨m40_⟩⟩
          ·rw [if_neg c19] at H
           exact absurd H (by simp)
         ·rw [if_neg c18] at H
          exact absurd H (by simp)
        ·rw [if_neg c16] at H
         have c16b0 : decide (0 < x3_1) = false := decide_eq_false c16
         clear c16
         (first | rw [c16b0] | (simp only [i64_w, i32_w]; rw [c16b0]) | skip)
         replace H := Option.bind_eq_some_iff.mp H
         obtain ⟨t138, A330, H⟩ := H
         replace H : (if t138 = true then ((spec_l2NameOk.f k1 ((rd_T86 l0_2 x3_1).f2)).bind fun t139 => (spec_l2PlacesOk.j1 k1 x3_1 (!t139) l0_0 l0_1 l0_2 l0_3)) else (spec_l2PlacesOk.j1 k1 x3_1 true l0_0 l0_1 l0_2 l0_3)) = some r := H
         have A33 := Aside0.mk A330
         clear A330
         by_cases c34 : t138 = true
         ·subst c34
          have H1 : ((spec_l2NameOk.f k1 ((rd_T86 l0_2 x3_1).f2)).bind fun t139 => (spec_l2PlacesOk.j1 k1 x3_1 (!t139) l0_0 l0_1 l0_2 l0_3)) = some r := by rw [if_pos rfl] at H; exact H
          clear H
          have H := H1
          clear H1
          replace H := Option.bind_eq_some_iff.mp H
          obtain ⟨t139, A350, H⟩ := H
          replace H : (spec_l2PlacesOk.j1 k1 x3_1 (!t139) l0_0 l0_1 l0_2 l0_3) = some r := H
          have A35 := Aside0.mk A350
          clear A350
          have H' := Aside0.mk H
          clear H
          have hnb36 := NB133_131.out
          have hnc36 := NB131_133.out
          obtain ⟨hcz37_0, hcz37_1, hcz37_2⟩ := cz3_ BK133.out
          obtain ⟨hfz37_0, hfz37_1, hfz37_2⟩ := fz3_ BK133.out
          go_wp2_with (first | (go_at_call 119; (with_reducible refine (spec_l2NameOk.calls k1 ((rd_T86 l0_2 x3_1).f0) true _ A14.out).mono ?_); rintro e w' ⟨rfl, ⟨nd, rfl⟩⟩; (try exact m2_)) | (go_at_call 121; (with_reducible refine (spec_l1In.calls ((rd_T86 l0_2 x3_1).f1) 0 1000 true _ A33.out).mono ?_); rintro e w' ⟨rfl, ⟨nd, rfl⟩⟩; (try exact m2_)) | (go_at_call 119; (with_reducible refine (spec_l2NameOk.calls k1 ((rd_T86 l0_2 x3_1).f2) t139 _ A35.out).mono ?_); rintro e w' ⟨rfl, ⟨nd, rfl⟩⟩; (try exact m2_)))
          repeat (go_quiet (first | (go_at_call 119; (with_reducible refine (spec_l2NameOk.calls k1 ((rd_T86 l0_2 x3_1).f0) true _ A14.out).mono ?_); rintro e w' ⟨rfl, ⟨nd, rfl⟩⟩; (try exact m2_)) | (go_at_call 121; (with_reducible refine (spec_l1In.calls ((rd_T86 l0_2 x3_1).f1) 0 1000 true _ A33.out).mono ?_); rintro e w' ⟨rfl, ⟨nd, rfl⟩⟩; (try exact m2_)) | (go_at_call 119; (with_reducible refine (spec_l2NameOk.calls k1 ((rd_T86 l0_2 x3_1).f2) t139 _ A35.out).mono ?_); rintro e w' ⟨rfl, ⟨nd, rfl⟩⟩; (try exact m2_))); try go_wp2_with (first | (go_at_call 119; (with_reducible refine (spec_l2NameOk.calls k1 ((rd_T86 l0_2 x3_1).f0) true _ A14.out).mono ?_); rintro e w' ⟨rfl, ⟨nd, rfl⟩⟩; (try exact m2_)) | (go_at_call 121; (with_reducible refine (spec_l1In.calls ((rd_T86 l0_2 x3_1).f1) 0 1000 true _ A33.out).mono ?_); rintro e w' ⟨rfl, ⟨nd, rfl⟩⟩; (try exact m2_)) | (go_at_call 119; (with_reducible refine (spec_l2NameOk.calls k1 ((rd_T86 l0_2 x3_1).f2) t139 _ A35.out).mono ?_); rintro e w' ⟨rfl, ⟨nd, rfl⟩⟩; (try exact m2_))))
          go_meet
          case rel => exact ⟨_, (!t139), m8_, H', ⟨m82_⟩, ⟨m22_⟩, ⟨m12_⟩, ⟨m40_⟩⟩
         ·replace c34 := Bool.eq_false_iff.mpr c34
          subst c34
          have H1 : (spec_l2PlacesOk.j1 k1 x3_1 true l0_0 l0_1 l0_2 l0_3) = some r := by rw [if_neg (show ¬ (false = true) by decide)] at H; exact H
          clear H
          have H := H1
          clear H1
          have H' := Aside0.mk H
          clear H
          have hnb38 := NB133_131.out
          have hnc38 := NB131_133.out
          obtain ⟨hcz39_0, hcz39_1, hcz39_2⟩ := cz3_ BK133.out
          obtain ⟨hfz39_0, hfz39_1, hfz39_2⟩ := fz3_ BK133.out
          go_wp2_with (first | (go_at_call 119; (with_reducible refine (spec_l2NameOk.calls k1 ((rd_T86 l0_2 x3_1).f0) true _ A14.out).mono ?_); rintro e w' ⟨rfl, ⟨nd, rfl⟩⟩; (try exact m2_)) | (go_at_call 121; (with_reducible refine (spec_l1In.calls ((rd_T86 l0_2 x3_1).f1) 0 1000 false _ A33.out).mono ?_); rintro e w' ⟨rfl, ⟨nd, rfl⟩⟩; (try exact m2_)))
          repeat (go_quiet (first | (go_at_call 119; (with_reducible refine (spec_l2NameOk.calls k1 ((rd_T86 l0_2 x3_1).f0) true _ A14.out).mono ?_); rintro e w' ⟨rfl, ⟨nd, rfl⟩⟩; (try exact m2_)) | (go_at_call 121; (with_reducible refine (spec_l1In.calls ((rd_T86 l0_2 x3_1).f1) 0 1000 false _ A33.out).mono ?_); rintro e w' ⟨rfl, ⟨nd, rfl⟩⟩; (try exact m2_))); try go_wp2_with (first | (go_at_call 119; (with_reducible refine (spec_l2NameOk.calls k1 ((rd_T86 l0_2 x3_1).f0) true _ A14.out).mono ?_); rintro e w' ⟨rfl, ⟨nd, rfl⟩⟩; (try exact m2_)) | (go_at_call 121; (with_reducible refine (spec_l1In.calls ((rd_T86 l0_2 x3_1).f1) 0 1000 false _ A33.out).mono ?_); rintro e w' ⟨rfl, ⟨nd, rfl⟩⟩; (try exact m2_))))
          go_meet
          case rel => exact ⟨_, (true), m8_, H', ⟨m82_⟩, ⟨m22_⟩, ⟨m12_⟩, ⟨m40_⟩⟩
       ·replace c15 := Bool.eq_false_iff.mpr c15
        subst c15
        have H1 : (spec_l2PlacesOk.j1 k1 x3_1 true l0_0 l0_1 l0_2 l0_3) = some r := by rw [if_neg (show ¬ (false = true) by decide)] at H; exact H
        clear H
        have H := H1
        clear H1
        have H' := Aside0.mk H
        clear H
        have hnb40 := NB133_131.out
        have hnc40 := NB131_133.out
        obtain ⟨hcz41_0, hcz41_1, hcz41_2⟩ := cz3_ BK133.out
        obtain ⟨hfz41_0, hfz41_1, hfz41_2⟩ := fz3_ BK133.out
        go_wp2_with (first | (go_at_call 119; (with_reducible refine (spec_l2NameOk.calls k1 ((rd_T86 l0_2 x3_1).f0) false _ A14.out).mono ?_); rintro e w' ⟨rfl, ⟨nd, rfl⟩⟩; (try exact m2_)))
        repeat (go_quiet (first | (go_at_call 119; (with_reducible refine (spec_l2NameOk.calls k1 ((rd_T86 l0_2 x3_1).f0) false _ A14.out).mono ?_); rintro e w' ⟨rfl, ⟨nd, rfl⟩⟩; (try exact m2_))); try go_wp2_with (first | (go_at_call 119; (with_reducible refine (spec_l2NameOk.calls k1 ((rd_T86 l0_2 x3_1).f0) false _ A14.out).mono ?_); rintro e w' ⟨rfl, ⟨nd, rfl⟩⟩; (try exact m2_))))
        go_meet
        case rel => exact ⟨_, (true), m8_, H', ⟨m82_⟩, ⟨m22_⟩, ⟨m12_⟩, ⟨m40_⟩⟩
      case rest =>
       clear HC9
       try clear c1
       try clear p1
       try clear q1
       try clear hx1
       try clear c2
       try clear c2b0
       try clear c2b1
       try clear p2
       try clear c3
       try clear c4
       try clear c6
       try clear p6
       try clear c7
       try clear c7b0
       try clear c8
       try clear c8b0
       try clear c12
       try clear p13
       try clear q13
       try clear hx13
       try clear c15
       try clear c16
       try clear c16b0
       try clear c18
       try clear c18b0
       try clear c19
       try clear c19b0
       try clear c20
       try clear c20b0
       try clear c22
       try clear c24
       try clear c27
       try clear c30
       try clear c34
       try clear c36
       try clear c38
       try clear c40
       try clear hcz10_0
       try clear hcz10_1
       try clear hcz10_2
       try clear hcz10_3
       try clear hcz13_0
       try clear hcz13_1
       try clear hcz13_2
       try clear hcz25_0
       try clear hcz25_1
       try clear hcz25_2
       try clear hcz26_0
       try clear hcz26_1
       try clear hcz26_2
       try clear hcz26_3
       try clear hcz28_0
       try clear hcz28_1
       try clear hcz28_2
       try clear hcz29_0
       try clear hcz29_1
       try clear hcz29_2
       try clear hcz29_3
       try clear hcz31_0
       try clear hcz31_1
       try clear hcz31_2
       try clear hcz32_0
       try clear hcz32_1
       try clear hcz32_2
       try clear hcz32_3
       try clear hcz37_0
       try clear hcz37_1
       try clear hcz37_2
       try clear hcz39_0
       try clear hcz39_1
       try clear hcz39_2
       try clear hcz41_0
       try clear hcz41_1
       try clear hcz41_2
       try clear hcz4_0
       try clear hcz4_1
       try clear hcz4_2
       try clear hcz4_3
       try clear hcz6_0
       try clear hcz6_1
       try clear hcz6_2
       try clear hcz6_3
       try clear hfz10_0
       try clear hfz10_1
       try clear hfz10_2
       try clear hfz10_3
       try clear hfz13_0
       try clear hfz13_1
       try clear hfz13_2
       try clear hfz25_0
       try clear hfz25_1
       try clear hfz25_2
       try clear hfz26_0
       try clear hfz26_1
       try clear hfz26_2
       try clear hfz26_3
       try clear hfz28_0
       try clear hfz28_1
       try clear hfz28_2
       try clear hfz29_0
       try clear hfz29_1
       try clear hfz29_2
       try clear hfz29_3
       try clear hfz31_0
       try clear hfz31_1
       try clear hfz31_2
       try clear hfz32_0
       try clear hfz32_1
       try clear hfz32_2
       try clear hfz32_3
       try clear hfz37_0
       try clear hfz37_1
       try clear hfz37_2
       try clear hfz39_0
       try clear hfz39_1
       try clear hfz39_2
       try clear hfz41_0
       try clear hfz41_1
       try clear hfz41_2
       try clear hfz4_0
       try clear hfz4_1
       try clear hfz4_2
       try clear hfz4_3
       try clear hfz6_0
       try clear hfz6_1
       try clear hfz6_2
       try clear hfz6_3
       try clear hx132_0
       try clear hx132_1
       try clear hx132_2
       try clear hx135_0
       try clear hx135_1
       try clear hx135_2
       try clear p132
       try clear p135
       try clear p2
       try clear q132
       try clear q135
       obtain ⟨kq, x52_8, rfl, HA, HJ8, BK131, BK133, HB⟩ := hcut
       cases kq with
       | zero => exact absurd HA.out (by simp [spec_l2PlacesOk.j1])
       | succ kj8 =>
        have H := HA.out
        clear HA
        simp only [spec_l2PlacesOk.j1] at H
        by_cases c42 : x52_8 = true
        ·subst c42
         have H1 : (some false) = some r := by rw [if_pos rfl] at H; exact H
         clear H
         have H := H1
         clear H1
         obtain rfl := Option.some.inj H
         go_wp2
         repeat (go_quiet (fail); try go_wp2)
         go_ret
         exact ⟨m6_, m40_⟩
        ·replace c42 := Bool.eq_false_iff.mpr c42
         subst c42
         have H1 : (spec_l2PlacesOk.l0 kj8 (wrap64 (x3_1 + 1)) l0_0 l0_1 l0_2 l0_3) = some r := by rw [if_neg (show ¬ (false = true) by decide)] at H; exact H
         clear H
         have H := H1
         clear H1
         have H' := Aside0.mk H
         clear H
         go_wp2
         repeat (go_quiet (fail); try go_wp2)
         go_roundg kj8
         case measure => have := HK1.out; have := HJ8.out; omega
         case rel => exact ⟨(wrap64 (x3_1 + 1)), m8_, H', ⟨(by have := HK1.out; have := HJ8.out; omega)⟩, ⟨m49_⟩, ⟨m40_⟩⟩
     ·rw [if_neg c8] at H
      exact absurd H (by simp)
    ·rw [if_neg c7] at H
     have c7b0 : decide (x3_1 < (l0_2.length : Int)) = false := decide_eq_false c7
     clear c7
     obtain rfl := Option.some.inj H
     obtain ⟨hcz43_0, hcz43_1, hcz43_2, hcz43_3⟩ := cz4_ BK131.out
     obtain ⟨hfz43_0, hfz43_1, hfz43_2, hfz43_3⟩ := fz4_ BK131.out
     go_wp2
     repeat (go_quiet (fail); try go_wp2)
     go_ret
     exact ⟨m6_, m32_⟩

/-! ### spec_l2Place: function 94 -/
def spec_l2Place.l0 : Nat → ByteArray → Int → List ByteArray → List (S105) → List (S86) → List (S108) → Option (Int)
 | 0, _, _, _, _, _, _ => none
 | k + 1, x1, x5, x141000, x141001, x141002, x141003 => if x5 < (x141002.length : Int) then (if 0 ≤ x5 then (if ((rd_T86 x141002 x5).f0).toList = x1.toList then (some x5) else (spec_l2Place.l0 k x1 (wrap64 (x5 + 1)) x141000 x141001 x141002 x141003)) else (none)) else (some (-1))
def spec_l2Place.f (k : Nat) (l0_0 : List ByteArray) (l0_1 : List (S105)) (l0_2 : List (S86)) (l0_3 : List (S108)) (a1 : ByteArray) : Option (Int) := spec_l2Place.l0 k a1 0 l0_0 l0_1 l0_2 l0_3
theorem spec_l2Place.mono_l : ∀ k, (∀ y0 y1 y2 y3 y4 y5, LeO (spec_l2Place.l0 k y0 y1 y2 y3 y4 y5) (spec_l2Place.l0 (k + 1) y0 y1 y2 y3 y4 y5))
 | 0 => fun _ _ _ _ _ _ r h => by simp [spec_l2Place.l0] at h
 | k + 1 => by
  have ih0 := spec_l2Place.mono_l k
  ·intro y0 y1 y2 y3 y4 y5
   unfold spec_l2Place.l0
   repeat' first
   | (with_reducible exact ih0 _ _ _ _ _ _)
   | (with_reducible exact LeO.refl _)
   | (with_reducible exact LeO.none _)
   | (with_reducible refine LeO.ite ?_ ?_)
   | (with_reducible refine LeO.bind ?_ (fun _ => ?_))
   | exact ih0 _ _ _ _ _ _
   | exact LeO.none _
   | refine LeO.ite ?_ ?_
   | refine LeO.bind ?_ (fun _ => ?_)
theorem spec_l2Place.mono : ∀ a0 a1 a2 a3 a4 k, LeO (spec_l2Place.f k a0 a1 a2 a3 a4) (spec_l2Place.f (k + 1) a0 a1 a2 a3 a4) := by
 intro a0 a1 a2 a3 a4 k
 have ih0 := spec_l2Place.mono_l k
 unfold spec_l2Place.f
 repeat' first
   | (with_reducible exact ih0 _ _ _ _ _ _)
   | (with_reducible exact LeO.refl _)
   | (with_reducible exact LeO.none _)
   | (with_reducible refine LeO.ite ?_ ?_)
   | (with_reducible refine LeO.bind ?_ (fun _ => ?_))
   | exact ih0 _ _ _ _ _ _
   | exact LeO.none _
   | refine LeO.ite ?_ ?_
   | refine LeO.bind ?_ (fun _ => ?_)
set_option maxHeartbeats 8000000 in
set_option maxRecDepth 100000 in
theorem spec_l2Place.calls (k : Nat) (A0_0 : Option Addr) (c0_0 : Nat) (l0_0 : List ByteArray) (A0_1 : Option Addr) (c0_1 : Nat) (l0_1 : List (S105)) (A0_2 : Option Addr) (c0_2 : Nat) (l0_2 : List (S86)) (A0_3 : Option Addr) (c0_3 : Nat) (l0_3 : List (S108)) (a1 : ByteArray) (r : Int) (w : World) (hr0_0 : Kd.C Kd.string w A0_0 l0_0.length l0_0) (hc0_0 : l0_0.length ≤ c0_0) (hr0_1 : Kd.C k105 w A0_1 l0_1.length l0_1) (hc0_1 : l0_1.length ≤ c0_1) (hr0_2 : Kd.C k86 w A0_2 l0_2.length l0_2) (hc0_2 : l0_2.length ≤ c0_2) (hr0_3 : Kd.C k108 w A0_3 l0_3.length l0_3) (hc0_3 : l0_3.length ≤ c0_3) (h : spec_l2Place.f k l0_0 l0_1 l0_2 l0_3 a1 = some r) :
  Calls Try.prog 94 #[.agg #[.slice A0_0 l0_0.length c0_0, .slice A0_1 l0_1.length c0_1, .slice A0_2 l0_2.length c0_2, .slice A0_3 l0_3.length c0_3], .string a1] w fun e w' => e = .returned (.int .i64 r) ∧ Below w.heap.size w w' := by
 have hu34 := Try.underlying34
 have HR0_0 := Aside0.mk hr0_0
 have HC0_0 := Aside0.mk hc0_0
 clear hr0_0 hc0_0
 have HR0_1 := Aside0.mk hr0_1
 have HC0_1 := Aside0.mk hc0_1
 clear hr0_1 hc0_1
 have HR0_2 := Aside0.mk hr0_2
 have HC0_2 := Aside0.mk hc0_2
 clear hr0_2 hc0_2
 have HR0_3 := Aside0.mk hr0_3
 have HC0_3 := Aside0.mk hc0_3
 clear hr0_3 hc0_3
 have HB := Aside0.mk (Below.refl w.heap.size w)
 have H : (spec_l2Place.l0 k a1 0 l0_0 l0_1 l0_2 l0_3) = some r := h
 clear h
 have H' := Aside0.mk H
 clear H
 go_enter Try.func94, Try.ntmps94
 go_wp2_with (first | ((with_reducible refine gate_dst (N := 2) rfl ?_); refine box_event ?hg (N := 2) ?hd (cs := #[.slice A0_0 l0_0.length c0_0, .slice A0_1 l0_1.length c0_1, .slice A0_2 l0_2.length c0_2, .slice A0_3 l0_3.length c0_3]) (t := 34) ?hr ?_; (case hd => rfl); (case hg => rfl); (case hr => first | (go_simp; done) | (go_simp; rfl)); intro gb140 hg w3 hbox hb; have n0_ := Aside0.mk (below_step m0_ hb); have n1_ := Aside0.mk (hbox); have n2_ := Aside0.mk ((by rw [hg]; exact (below_size m0_) : w.heap.size ≤ gb140)); have n3_ := Aside0.mk ((by rw [hg]; exact (below_size m0_) : w.heap.size ≤ gb140)); clear HB; have HB := n0_; have BK140 := n1_; have GW140 := n2_; have GE140 := n3_; clear n0_ n1_ n2_ n3_; clear hb hbox hg))
 go_loopg [5] k (fun kq v5 w' => ∃ (x5_1 : Int), v5 = .int .i64 x5_1 ∧ Aside0 (spec_l2Place.l0 kq a1 x5_1 l0_0 l0_1 l0_2 l0_3 = some r) ∧ Aside0 (kq ≤ k) ∧ Aside0 (w'.heap[gb140]? = some (.cells #[(.slice A0_0 l0_0.length c0_0), (.slice A0_1 l0_1.length c0_1), (.slice A0_2 l0_2.length c0_2), (.slice A0_3 l0_3.length c0_3)] 34 (0, 0))) ∧ Aside0 (Below w.heap.size w w'))
 case atStart => exact ⟨(0), m8_, H', ⟨Nat.le_refl _⟩, ⟨(by (with_reducible repeat (first | refine blk_drewN ?_ _ | refine blk_drew ?_ | refine blk_alloc ?_ _)); exact BK140.out)⟩, ⟨m104_⟩⟩
 case round =>
  clear H'
  try clear p2
  obtain ⟨x5_1, rfl, HA, HK1, BK140, HB⟩ := hrel
  cases gk with
  | zero => exact absurd HA.out (by simp [spec_l2Place.l0])
  | succ k1 =>
   have H := HA.out
   clear HA
   simp only [spec_l2Place.l0] at H
   by_cases c4 : x5_1 < (l0_2.length : Int)
   ·rw [if_pos c4] at H
    have c4b0 : decide (x5_1 < (l0_2.length : Int)) = true := decide_eq_true c4
    clear c4
    by_cases c5 : 0 ≤ x5_1
    ·rw [if_pos c5] at H
     have c5b0 : decide (0 ≤ x5_1) = true := decide_eq_true c5
     clear c5
     by_cases c6 : ((rd_T86 l0_2 x5_1).f0).toList = a1.toList
     ·rw [if_pos c6] at H
      have c6b0 : (((rd_T86 l0_2 x5_1).f0).toList == a1.toList) = true := beq_iff_eq.mpr c6
      have c6b1 : (((rd_T86 l0_2 x5_1).f0).toList != a1.toList) = false := bne_eq_false_iff_eq.mpr c6
      clear c6
      obtain rfl := Option.some.inj H
      obtain ⟨hcz7_0, hcz7_1, hcz7_2, hcz7_3⟩ := cz4_ BK140.out
      obtain ⟨hfz7_0, hfz7_1, hfz7_2, hfz7_3⟩ := fz4_ BK140.out
      have p141 : 0 ≤ (x5_1 : Int) := of_decide_eq_true m5_
      have q141 : x5_1 < (l0_2.length : Int) := of_decide_eq_true m5_
      obtain ⟨ad141, e141, hx141_0, hx141_1, hx141_2⟩ := at_T86 HR0_2.out x5_1 p141 q141
      cases e141
      replace hx141_0 := (HB.out.cell (World.block_lt_of_cell? w _ hx141_0)).trans hx141_0
      replace hx141_1 := (HB.out.cell (World.block_lt_of_cell? w _ hx141_1)).trans hx141_1
      replace hx141_2 := (HB.out.cell (World.block_lt_of_cell? w _ hx141_2)).trans hx141_2
      replace p141 := eq_true p141
      replace q141 := eq_true q141
      go_wp2
      go_ret
      exact ⟨m6_, m104_⟩
     ·rw [if_neg c6] at H
      have c6b0 : (((rd_T86 l0_2 x5_1).f0).toList == a1.toList) = false := beq_eq_false_iff_ne.mpr c6
      have c6b1 : (((rd_T86 l0_2 x5_1).f0).toList != a1.toList) = true := bne_iff_ne.mpr c6
      have H' := Aside0.mk H
      clear H
      obtain ⟨hcz8_0, hcz8_1, hcz8_2, hcz8_3⟩ := cz4_ BK140.out
      obtain ⟨hfz8_0, hfz8_1, hfz8_2, hfz8_3⟩ := fz4_ BK140.out
      have p141 : 0 ≤ (x5_1 : Int) := of_decide_eq_true m5_
      have q141 : x5_1 < (l0_2.length : Int) := of_decide_eq_true m5_
      obtain ⟨ad141, e141, hx141_0, hx141_1, hx141_2⟩ := at_T86 HR0_2.out x5_1 p141 q141
      cases e141
      replace hx141_0 := (HB.out.cell (World.block_lt_of_cell? w _ hx141_0)).trans hx141_0
      replace hx141_1 := (HB.out.cell (World.block_lt_of_cell? w _ hx141_1)).trans hx141_1
      replace hx141_2 := (HB.out.cell (World.block_lt_of_cell? w _ hx141_2)).trans hx141_2
      replace p141 := eq_true p141
      replace q141 := eq_true q141
      go_wp2
      go_roundg k1
      case measure => have := HK1.out; omega
      case rel => exact ⟨(wrap64 (x5_1 + 1)), m8_, H', ⟨m106_⟩, ⟨(by (with_reducible repeat (first | refine blk_drewN ?_ _ | refine blk_drew ?_ | refine blk_alloc ?_ _)); exact BK140.out)⟩, ⟨m104_⟩⟩
    ·rw [if_neg c5] at H
     exact absurd H (by simp)
   ·rw [if_neg c4] at H
    have c4b0 : decide (x5_1 < (l0_2.length : Int)) = false := decide_eq_false c4
    clear c4
    obtain rfl := Option.some.inj H
    obtain ⟨hcz9_0, hcz9_1, hcz9_2, hcz9_3⟩ := cz4_ BK140.out
    obtain ⟨hfz9_0, hfz9_1, hfz9_2, hfz9_3⟩ := fz4_ BK140.out
    go_wp2
    go_ret
    exact ⟨m6_, m104_⟩

end Go.Proofs.Ytpildfacenlceaa.QFnExactPlantValid
namespace Go.Proofs.Ytpildfacenlceaa.QFnExactPlantValid
open Go.RowKit Go.Proofs.YtpildfacenlceaaW.PrintWords Go.Proofs.YtpildfacenlceaaW.PrintLast Go.Proofs.YtpildfacenlceaaW.PrintMore
attribute [local go_sem] str_geq str_gtr str_leq max2_int min2_int max_two min_two max_three min_three max_four min_four   -- for this text's walks alone
set_option linter.unusedVariables false
set_option linter.unusedSimpArgs false
mutual
def spec_l2ValvesOk.l0 : Nat → Int → List ByteArray → List (S105) → List (S86) → List (S108) → Option (Bool)
 | 0, _, _, _, _, _ => none
 | k + 1, x3, x143000, x143001, x143002, x143003 => if x3 < (x143003.length : Int) then (if 0 ≤ x3 then ((spec_l2NameOk.f k ((rd_T108 x143003 x3).f0)).bind fun t145 => (if t145 = true then (if x3 > 0 then (if 0 ≤ (wrap64 (x3 - 1)) then (if (wrap64 (x3 - 1)) < (x143003.length : Int) then (if ((Op.bytesLess (((rd_T108 x143003 (wrap64 (x3 - 1))).f0).toList) (((rd_T108 x143003 x3).f0).toList)) = true) then (if ((Op.bytesLess (((rd_T108 x143003 x3).f1).toList) (((rd_T108 x143003 x3).f2).toList)) = true) then ((spec_l2Place.f k x143000 x143001 x143002 x143003 ((rd_T108 x143003 x3).f1)).bind fun t147 => (if t147 < 0 then (spec_l2ValvesOk.j1 k x3 true x143000 x143001 x143002 x143003) else ((spec_l2Place.f k x143000 x143001 x143002 x143003 ((rd_T108 x143003 x3).f2)).bind fun t148 => (if t148 < 0 then (spec_l2ValvesOk.j1 k x3 true x143000 x143001 x143002 x143003) else ((spec_l2NameOk.f k ((rd_T108 x143003 x3).f3)).bind fun t149 => (spec_l2ValvesOk.j1 k x3 (!t149) x143000 x143001 x143002 x143003)))))) else (spec_l2ValvesOk.j1 k x3 true x143000 x143001 x143002 x143003)) else (spec_l2ValvesOk.j1 k x3 true x143000 x143001 x143002 x143003)) else (none)) else (none)) else (if ((Op.bytesLess (((rd_T108 x143003 x3).f1).toList) (((rd_T108 x143003 x3).f2).toList)) = true) then ((spec_l2Place.f k x143000 x143001 x143002 x143003 ((rd_T108 x143003 x3).f1)).bind fun t150 => (if t150 < 0 then (spec_l2ValvesOk.j1 k x3 true x143000 x143001 x143002 x143003) else ((spec_l2Place.f k x143000 x143001 x143002 x143003 ((rd_T108 x143003 x3).f2)).bind fun t151 => (if t151 < 0 then (spec_l2ValvesOk.j1 k x3 true x143000 x143001 x143002 x143003) else ((spec_l2NameOk.f k ((rd_T108 x143003 x3).f3)).bind fun t152 => (spec_l2ValvesOk.j1 k x3 (!t152) x143000 x143001 x143002 x143003)))))) else (spec_l2ValvesOk.j1 k x3 true x143000 x143001 x143002 x143003))) else (spec_l2ValvesOk.j1 k x3 true x143000 x143001 x143002 x143003))) else (none)) else (some true)
def spec_l2ValvesOk.j1 : Nat → Int → Bool → List ByteArray → List (S105) → List (S86) → List (S108) → Option (Bool)
 | 0, _, _, _, _, _, _ => none
 | k + 1, x3, x67, x143000, x143001, x143002, x143003 => if x67 = true then (some false) else (spec_l2ValvesOk.l0 k (wrap64 (x3 + 1)) x143000 x143001 x143002 x143003)
end
def spec_l2ValvesOk.f (k : Nat) (l0_0 : List ByteArray) (l0_1 : List (S105)) (l0_2 : List (S86)) (l0_3 : List (S108)) : Option (Bool) := if (l0_3.length : Int) > 18 then (some false) else (spec_l2ValvesOk.l0 k 0 l0_0 l0_1 l0_2 l0_3)
theorem spec_l2ValvesOk.mono_l : ∀ k, (∀ y0 y1 y2 y3 y4, LeO (spec_l2ValvesOk.l0 k y0 y1 y2 y3 y4) (spec_l2ValvesOk.l0 (k + 1) y0 y1 y2 y3 y4)) ∧ (∀ y0 y1 y2 y3 y4 y5, LeO (spec_l2ValvesOk.j1 k y0 y1 y2 y3 y4 y5) (spec_l2ValvesOk.j1 (k + 1) y0 y1 y2 y3 y4 y5))
 | 0 => ⟨fun _ _ _ _ _ r h => by simp [spec_l2ValvesOk.l0] at h, fun _ _ _ _ _ _ r h => by simp [spec_l2ValvesOk.j1] at h⟩
 | k + 1 => by
  obtain ⟨ih0, ih1⟩ := spec_l2ValvesOk.mono_l k
  refine ⟨?_, ?_⟩
  ·intro y0 y1 y2 y3 y4
   unfold spec_l2ValvesOk.l0
   repeat' first
   | (with_reducible exact ih0 _ _ _ _ _)
   | (with_reducible exact ih1 _ _ _ _ _ _)
   | (with_reducible exact spec_l2NameOk.mono _ _)
   | (with_reducible exact spec_l2Place.mono _ _ _ _ _ _)
   | (with_reducible exact LeO.refl _)
   | (with_reducible exact LeO.none _)
   | (with_reducible refine LeO.ite ?_ ?_)
   | (with_reducible refine LeO.bind ?_ (fun _ => ?_))
   | exact ih0 _ _ _ _ _
   | exact ih1 _ _ _ _ _ _
   | exact spec_l2NameOk.mono _ _
   | exact spec_l2Place.mono _ _ _ _ _ _
   | exact LeO.none _
   | refine LeO.ite ?_ ?_
   | refine LeO.bind ?_ (fun _ => ?_)
  ·intro y0 y1 y2 y3 y4 y5
   unfold spec_l2ValvesOk.j1
   repeat' first
   | (with_reducible exact ih0 _ _ _ _ _)
   | (with_reducible exact ih1 _ _ _ _ _ _)
   | (with_reducible exact spec_l2NameOk.mono _ _)
   | (with_reducible exact spec_l2Place.mono _ _ _ _ _ _)
   | (with_reducible exact LeO.refl _)
   | (with_reducible exact LeO.none _)
   | (with_reducible refine LeO.ite ?_ ?_)
   | (with_reducible refine LeO.bind ?_ (fun _ => ?_))
   | exact ih0 _ _ _ _ _
   | exact ih1 _ _ _ _ _ _
   | exact spec_l2NameOk.mono _ _
   | exact spec_l2Place.mono _ _ _ _ _ _
   | exact LeO.none _
   | refine LeO.ite ?_ ?_
   | refine LeO.bind ?_ (fun _ => ?_)
theorem spec_l2ValvesOk.mono : ∀ a0 a1 a2 a3 k, LeO (spec_l2ValvesOk.f k a0 a1 a2 a3) (spec_l2ValvesOk.f (k + 1) a0 a1 a2 a3) := by
 intro a0 a1 a2 a3 k
 obtain ⟨ih0, ih1⟩ := spec_l2ValvesOk.mono_l k
 unfold spec_l2ValvesOk.f
 repeat' first
   | (with_reducible exact ih0 _ _ _ _ _)
   | (with_reducible exact ih1 _ _ _ _ _ _)
   | (with_reducible exact spec_l2NameOk.mono _ _)
   | (with_reducible exact spec_l2Place.mono _ _ _ _ _ _)
   | (with_reducible exact LeO.refl _)
   | (with_reducible exact LeO.none _)
   | (with_reducible refine LeO.ite ?_ ?_)
   | (with_reducible refine LeO.bind ?_ (fun _ => ?_))
   | exact ih0 _ _ _ _ _
   | exact ih1 _ _ _ _ _ _
   | exact spec_l2NameOk.mono _ _
   | exact spec_l2Place.mono _ _ _ _ _ _
   | exact LeO.none _
   | refine LeO.ite ?_ ?_
   | refine LeO.bind ?_ (fun _ => ?_)
def spec_l2ValvesOk.T7 : Bool × List (List Nat × List Nat) := (true, [([], []), ([0], [0]), ([1], [1]), ([2], [2]), ([3, 2], [3]), ([4], [4]), ([5, 4], [4, 5]), ([6, 4, 4], [4, 6]), ([7], [7]), ([8, 7], [7, 8]), ([7], [7]), ([10, 7], [7, 10]), ([9, 11, 7], [7, 9, 11]), ([12, 7], [7, 12]), ([13, 7], [7, 13]), ([7], [7]), ([15, 7], [7, 15]), ([14, 16, 7], [7, 14, 16]), ([7, 17, 4], [4, 7, 17]), ([4, 18], [4, 18]), ([19, 7], [19]), ([20], [20]), ([21, 20], [20, 21]), ([20], [20]), ([23, 20], [20, 23]), ([22, 24, 20], [20, 22, 24]), ([20, 25], [20, 25]), ([26, 20], [26]), ([27], [27]), ([27], [27]), ([29, 27], [27, 29]), ([28, 30, 27, 27], [27, 28, 30]), ([31, 27], [27, 31]), ([27, 32], [27, 32]), ([33, 31], [33]), ([34], [34]), ([34], [34]), ([36, 34], [34, 36]), ([35, 37, 34, 34], [34, 35, 37]), ([38, 34], [34, 38]), ([34, 39], [34, 39]), ([40, 38], [40]), ([41], [41]), ([42, 41], [41, 42]), ([43, 41, 41], [41, 43]), ([44, 41], [41, 44]), ([41, 45], [41, 45])])
def spec_l2ValvesOk.B7 : List Nat := [0, 1, 3, 7, 15, 31, 63, 127, 255, 511, 255, 1279, 4095, 8191, 16383, 255, 33023, 131071, 262143, 524287, 1048575, 2097151, 4194303, 2097151, 10485759, 33554431, 67108863, 134217727, 268435455, 268435455, 805306367, 2147483647, 4294967295, 8589934591, 17179869183, 34359738367, 34359738367, 103079215103, 274877906943, 549755813887, 1099511627775, 2199023255551, 4398046511103, 8796093022207, 17592186044415, 35184372088831, 70368744177663]
theorem spec_l2ValvesOk.tab7 : rtab .any (opsOf Try.f68 7) = spec_l2ValvesOk.T7 := by kernel_rfl
theorem spec_l2ValvesOk.bits7 : waitsOk spec_l2ValvesOk.T7.2 spec_l2ValvesOk.B7 = true := by kernel_rfl
set_option maxHeartbeats 8000000 in
set_option maxRecDepth 100000 in
theorem spec_l2ValvesOk.calls (k : Nat) (A0_0 : Option Addr) (c0_0 : Nat) (l0_0 : List ByteArray) (A0_1 : Option Addr) (c0_1 : Nat) (l0_1 : List (S105)) (A0_2 : Option Addr) (c0_2 : Nat) (l0_2 : List (S86)) (A0_3 : Option Addr) (c0_3 : Nat) (l0_3 : List (S108)) (r : Bool) (w : World) (hr0_0 : Kd.C Kd.string w A0_0 l0_0.length l0_0) (hc0_0 : l0_0.length ≤ c0_0) (hr0_1 : Kd.C k105 w A0_1 l0_1.length l0_1) (hc0_1 : l0_1.length ≤ c0_1) (hr0_2 : Kd.C k86 w A0_2 l0_2.length l0_2) (hc0_2 : l0_2.length ≤ c0_2) (hr0_3 : Kd.C k108 w A0_3 l0_3.length l0_3) (hc0_3 : l0_3.length ≤ c0_3) (h : spec_l2ValvesOk.f k l0_0 l0_1 l0_2 l0_3 = some r) :
  Calls Try.prog 68 #[.agg #[.slice A0_0 l0_0.length c0_0, .slice A0_1 l0_1.length c0_1, .slice A0_2 l0_2.length c0_2, .slice A0_3 l0_3.length c0_3]] w fun e w' => e = .returned (.bool r) ∧ Below w.heap.size w w' := by
 have hu34 := Try.underlying34
 have hu108 := Try.underlying108
 have HR0_0 := Aside0.mk hr0_0
 have HC0_0 := Aside0.mk hc0_0
 clear hr0_0 hc0_0
 have HR0_1 := Aside0.mk hr0_1
 have HC0_1 := Aside0.mk hc0_1
 clear hr0_1 hc0_1
 have HR0_2 := Aside0.mk hr0_2
 have HC0_2 := Aside0.mk hc0_2
 clear hr0_2 hc0_2
 have HR0_3 := Aside0.mk hr0_3
 have HC0_3 := Aside0.mk hc0_3
 clear hr0_3 hc0_3
 have HB := Aside0.mk (Below.refl w.heap.size w)
 have H : (if (l0_3.length : Int) > 18 then (some false) else (spec_l2ValvesOk.l0 k 0 l0_0 l0_1 l0_2 l0_3)) = some r := h
 clear h
 by_cases c2 : (l0_3.length : Int) > 18
 ·rw [if_pos c2] at H
  have c2b0 : decide (18 < (l0_3.length : Int)) = true := decide_eq_true c2
  have c2b1 : decide (18 < l0_3.length) = true := decide_eq_true (by omega)
  clear c2
  obtain rfl := Option.some.inj H
  go_enter Try.func68, Try.ntmps68
  go_wp2_with (first | ((with_reducible refine gate_dst (N := 1) rfl ?_); refine box_event ?hg (N := 1) ?hd (cs := #[.slice A0_0 l0_0.length c0_0, .slice A0_1 l0_1.length c0_1, .slice A0_2 l0_2.length c0_2, .slice A0_3 l0_3.length c0_3]) (t := 34) ?hr ?_; (case hd => rfl); (case hg => rfl); (case hr => first | (go_simp; done) | (go_simp; rfl)); intro gb142 hg w3 hbox hb; have n0_ := Aside0.mk (below_step m0_ hb); have n1_ := Aside0.mk (hbox); have n2_ := Aside0.mk ((by rw [hg]; exact (below_size m0_) : w.heap.size ≤ gb142)); have n3_ := Aside0.mk ((by rw [hg]; exact (below_size m0_) : w.heap.size ≤ gb142)); clear HB; have HB := n0_; have BK142 := n1_; have GW142 := n2_; have GE142 := n3_; clear n0_ n1_ n2_ n3_; clear hb hbox hg; obtain ⟨hcz4_0, hcz4_1, hcz4_2, hcz4_3⟩ := cz4_ BK142.out; obtain ⟨hfz4_0, hfz4_1, hfz4_2, hfz4_3⟩ := fz4_ BK142.out))
  go_ret
  exact ⟨m6_, m73_⟩
 ·rw [if_neg c2] at H
  have c2b0 : decide (18 < (l0_3.length : Int)) = false := decide_eq_false c2
  have c2b1 : decide (18 < l0_3.length) = false := decide_eq_false (by omega)
  clear c2
  have H' := Aside0.mk H
  clear H
  go_enter Try.func68, Try.ntmps68
  go_wp2_with (first | ((with_reducible refine gate_dst (N := 1) rfl ?_); refine box_event ?hg (N := 1) ?hd (cs := #[.slice A0_0 l0_0.length c0_0, .slice A0_1 l0_1.length c0_1, .slice A0_2 l0_2.length c0_2, .slice A0_3 l0_3.length c0_3]) (t := 34) ?hr ?_; (case hd => rfl); (case hg => rfl); (case hr => first | (go_simp; done) | (go_simp; rfl)); intro gb142 hg w5 hbox hb; have n0_ := Aside0.mk (below_step m0_ hb); have n1_ := Aside0.mk (hbox); have n2_ := Aside0.mk ((by rw [hg]; exact (below_size m0_) : w.heap.size ≤ gb142)); have n3_ := Aside0.mk ((by rw [hg]; exact (below_size m0_) : w.heap.size ≤ gb142)); clear HB; have HB := n0_; have BK142 := n1_; have GW142 := n2_; have GE142 := n3_; clear n0_ n1_ n2_ n3_; clear hb hbox hg; obtain ⟨hcz6_0, hcz6_1, hcz6_2, hcz6_3⟩ := cz4_ BK142.out; obtain ⟨hfz6_0, hfz6_1, hfz6_2, hfz6_3⟩ := fz4_ BK142.out))
  go_loopg [3] k (fun kq v3 w' => ∃ (x3_1 : Int), v3 = .int .i64 x3_1 ∧ Aside0 (spec_l2ValvesOk.l0 kq x3_1 l0_0 l0_1 l0_2 l0_3 = some r) ∧ Aside0 (kq ≤ k) ∧ Aside0 (w'.heap[gb142]? = some (.cells #[(.slice A0_0 l0_0.length c0_0), (.slice A0_1 l0_1.length c0_1), (.slice A0_2 l0_2.length c0_2), (.slice A0_3 l0_3.length c0_3)] 34 (0, 0))) ∧ Aside0 (Below w.heap.size w w'))
  case atStart => exact ⟨(0), m8_, H', ⟨Nat.le_refl _⟩, ⟨m50_⟩, ⟨m73_⟩⟩
  case round =>
   clear H'
   try clear c2
   try clear c2b0
   try clear c2b1
   try clear p2
   try clear c6
   try clear hcz4_0
   try clear hcz4_1
   try clear hcz4_2
   try clear hcz4_3
   try clear hcz6_0
   try clear hcz6_1
   try clear hcz6_2
   try clear hcz6_3
   try clear hfz4_0
   try clear hfz4_1
   try clear hfz4_2
   try clear hfz4_3
   try clear hfz6_0
   try clear hfz6_1
   try clear hfz6_2
   try clear hfz6_3
   obtain ⟨x3_1, rfl, HA, HK1, BK142, HB⟩ := hrel
   cases gk with
   | zero => exact absurd HA.out (by simp [spec_l2ValvesOk.l0])
   | succ k1 =>
    have H := HA.out
    clear HA
    simp only [spec_l2ValvesOk.l0] at H
    by_cases c7 : x3_1 < (l0_3.length : Int)
    ·rw [if_pos c7] at H
     have c7b0 : decide (x3_1 < (l0_3.length : Int)) = true := decide_eq_true c7
     clear c7
     by_cases c8 : 0 ≤ x3_1
     ·rw [if_pos c8] at H
      have c8b0 : decide (0 ≤ x3_1) = true := decide_eq_true c8
      clear c8
      have HC9 := Aside0.mk H
      clear H
      obtain ⟨hcz10_0, hcz10_1, hcz10_2, hcz10_3⟩ := cz4_ BK142.out
      obtain ⟨hfz10_0, hfz10_1, hfz10_2, hfz10_3⟩ := fz4_ BK142.out
      have p143 : 0 ≤ (x3_1 : Int) := of_decide_eq_true m5_
      have q143 : x3_1 < (l0_3.length : Int) := of_decide_eq_true m5_
      obtain ⟨ad143, e143, hx143_0, hx143_1, hx143_2, hx143_3⟩ := at_T108 HR0_3.out x3_1 p143 q143
      cases e143
      replace hx143_0 := (HB.out.cell (World.block_lt_of_cell? w _ hx143_0)).trans hx143_0
      replace hx143_1 := (HB.out.cell (World.block_lt_of_cell? w _ hx143_1)).trans hx143_1
      replace hx143_2 := (HB.out.cell (World.block_lt_of_cell? w _ hx143_2)).trans hx143_2
      replace hx143_3 := (HB.out.cell (World.block_lt_of_cell? w _ hx143_3)).trans hx143_3
      replace p143 := eq_true p143
      replace q143 := eq_true q143
      go_upto_region 7 with (first | ((with_reducible refine gate_dst (N := 4) rfl ?_); refine box_event ?hg (N := 4) ?hd (cs := #[.string (⟨#[]⟩ : ByteArray), .string (⟨#[]⟩ : ByteArray), .string (⟨#[]⟩ : ByteArray), .string (⟨#[]⟩ : ByteArray)]) (t := 108) ?hr ?_; (case hd => rfl); (case hg => rfl); (case hr => first | (go_simp; done) | (go_simp; rfl)); intro gb144 hg w11 hbox hb; have n0_ := Aside0.mk (blk_below (g := gb142) (o := .cells #[.slice A0_0 l0_0.length c0_0, .slice A0_1 l0_1.length c0_1, .slice A0_2 l0_2.length c0_2, .slice (some ad143) l0_3.length c0_3] 34 (0, 0)) m50_ hb); have n1_ := Aside0.mk (below_step m73_ hb); have n2_ := Aside0.mk (hbox); have n3_ := Aside0.mk ((by rw [hg]; exact (below_size m73_) : w.heap.size ≤ gb144)); have n4_ := Aside0.mk ((by rw [hg]; exact (below_size m73_) : w.heap.size ≤ gb144)); have n5_ := Aside0.mk ((by rw [hg]; exact Nat.ne_of_lt (blk_lt (g := gb142) (o := .cells #[.slice A0_0 l0_0.length c0_0, .slice A0_1 l0_1.length c0_1, .slice A0_2 l0_2.length c0_2, .slice (some ad143) l0_3.length c0_3] 34 (0, 0)) m50_) : gb142 ≠ gb144)); have n6_ := Aside0.mk ((by rw [hg]; exact Nat.ne_of_gt (blk_lt (g := gb142) (o := .cells #[.slice A0_0 l0_0.length c0_0, .slice A0_1 l0_1.length c0_1, .slice A0_2 l0_2.length c0_2, .slice (some ad143) l0_3.length c0_3] 34 (0, 0)) m50_) : gb144 ≠ gb142)); clear BK142; clear HB; have BK142 := n0_; have HB := n1_; have BK144 := n2_; have GW144 := n3_; have GE144 := n4_; have NB142_144 := n5_; have NB144_142 := n6_; clear n0_ n1_ n2_ n3_ n4_ n5_ n6_; clear hb hbox hg; have hnb12 := NB144_142.out; have hnc12 := NB142_144.out; obtain ⟨hcz13_0, hcz13_1, hcz13_2, hcz13_3⟩ := cz4_ BK144.out; obtain ⟨hfz13_0, hfz13_1, hfz13_2, hfz13_3⟩ := fz4_ BK144.out))
      (try simp only [Act.put, List.setIfInBounds_toArray, List.set_cons_zero, List.set_cons_succ])
      go_cut [67] (fun v67 wc => ∃ (kq : Nat) (x67_8 : Bool), v67 = .bool x67_8 ∧ Aside0 (spec_l2ValvesOk.j1 kq x3_1 x67_8 l0_0 l0_1 l0_2 l0_3 = some r) ∧ Aside0 (kq ≤ k1) ∧ Aside0 (wc.heap[gb142]? = some (.cells #[(.slice A0_0 l0_0.length c0_0), (.slice A0_1 l0_1.length c0_1), (.slice A0_2 l0_2.length c0_2), (.slice (some ad143) l0_3.length c0_3)] 34 (0, 0))) ∧ Aside0 (wc.heap[gb144]? = some (.cells #[.string ((rd_T108 l0_3 x3_1).f0), .string ((rd_T108 l0_3 x3_1).f1), .string ((rd_T108 l0_3 x3_1).f2), .string ((rd_T108 l0_3 x3_1).f3)] 108 (0, 0))) ∧ Aside0 (Below w.heap.size w wc))
      case first =>
       have H := HC9.out
       clear HC9
       replace H := Option.bind_eq_some_iff.mp H
       obtain ⟨t145, A140, H⟩ := H
       replace H : (if t145 = true then (if x3_1 > 0 then (if 0 ≤ (wrap64 (x3_1 - 1)) then (if (wrap64 (x3_1 - 1)) < (l0_3.length : Int) then (if ((Op.bytesLess (((rd_T108 l0_3 (wrap64 (x3_1 - 1))).f0).toList) (((rd_T108 l0_3 x3_1).f0).toList)) = true) then (if ((Op.bytesLess (((rd_T108 l0_3 x3_1).f1).toList) (((rd_T108 l0_3 x3_1).f2).toList)) = true) then ((spec_l2Place.f k1 l0_0 l0_1 l0_2 l0_3 ((rd_T108 l0_3 x3_1).f1)).bind fun t147 => (if t147 < 0 then (spec_l2ValvesOk.j1 k1 x3_1 true l0_0 l0_1 l0_2 l0_3) else ((spec_l2Place.f k1 l0_0 l0_1 l0_2 l0_3 ((rd_T108 l0_3 x3_1).f2)).bind fun t148 => (if t148 < 0 then (spec_l2ValvesOk.j1 k1 x3_1 true l0_0 l0_1 l0_2 l0_3) else ((spec_l2NameOk.f k1 ((rd_T108 l0_3 x3_1).f3)).bind fun t149 => (spec_l2ValvesOk.j1 k1 x3_1 (!t149) l0_0 l0_1 l0_2 l0_3)))))) else (spec_l2ValvesOk.j1 k1 x3_1 true l0_0 l0_1 l0_2 l0_3)) else (spec_l2ValvesOk.j1 k1 x3_1 true l0_0 l0_1 l0_2 l0_3)) else (none)) else (none)) else (if ((Op.bytesLess (((rd_T108 l0_3 x3_1).f1).toList) (((rd_T108 l0_3 x3_1).f2).toList)) = true) then ((spec_l2Place.f k1 l0_0 l0_1 l0_2 l0_3 ((rd_T108 l0_3 x3_1).f1)).bind fun t150 => (if t150 < 0 then (spec_l2ValvesOk.j1 k1 x3_1 true l0_0 l0_1 l0_2 l0_3) else ((spec_l2Place.f k1 l0_0 l0_1 l0_2 l0_3 ((rd_T108 l0_3 x3_1).f2)).bind fun t151 => (if t151 < 0 then (spec_l2ValvesOk.j1 k1 x3_1 true l0_0 l0_1 l0_2 l0_3) else ((spec_l2NameOk.f k1 ((rd_T108 l0_3 x3_1).f3)).bind fun t152 => (spec_l2ValvesOk.j1 k1 x3_1 (!t152) l0_0 l0_1 l0_2 l0_3)))))) else (spec_l2ValvesOk.j1 k1 x3_1 true l0_0 l0_1 l0_2 l0_3))) else (spec_l2ValvesOk.j1 k1 x3_1 true l0_0 l0_1 l0_2 l0_3)) = some r := H
       have A14 := Aside0.mk A140
       clear A140
       refine (Classical.em (t145 = true)).elim (fun c15 => ?yes67) (fun c15 => ?no67)
       case' yes67 =>
        subst c15
        have H1 : (if x3_1 > 0 then (if 0 ≤ (wrap64 (x3_1 - 1)) then (if (wrap64 (x3_1 - 1)) < (l0_3.length : Int) then (if ((Op.bytesLess (((rd_T108 l0_3 (wrap64 (x3_1 - 1))).f0).toList) (((rd_T108 l0_3 x3_1).f0).toList)) = true) then (if ((Op.bytesLess (((rd_T108 l0_3 x3_1).f1).toList) (((rd_T108 l0_3 x3_1).f2).toList)) = true) then ((spec_l2Place.f k1 l0_0 l0_1 l0_2 l0_3 ((rd_T108 l0_3 x3_1).f1)).bind fun t147 => (if t147 < 0 then (spec_l2ValvesOk.j1 k1 x3_1 true l0_0 l0_1 l0_2 l0_3) else ((spec_l2Place.f k1 l0_0 l0_1 l0_2 l0_3 ((rd_T108 l0_3 x3_1).f2)).bind fun t148 => (if t148 < 0 then (spec_l2ValvesOk.j1 k1 x3_1 true l0_0 l0_1 l0_2 l0_3) else ((spec_l2NameOk.f k1 ((rd_T108 l0_3 x3_1).f3)).bind fun t149 => (spec_l2ValvesOk.j1 k1 x3_1 (!t149) l0_0 l0_1 l0_2 l0_3)))))) else (spec_l2ValvesOk.j1 k1 x3_1 true l0_0 l0_1 l0_2 l0_3)) else (spec_l2ValvesOk.j1 k1 x3_1 true l0_0 l0_1 l0_2 l0_3)) else (none)) else (none)) else (if ((Op.bytesLess (((rd_T108 l0_3 x3_1).f1).toList) (((rd_T108 l0_3 x3_1).f2).toList)) = true) then ((spec_l2Place.f k1 l0_0 l0_1 l0_2 l0_3 ((rd_T108 l0_3 x3_1).f1)).bind fun t150 => (if t150 < 0 then (spec_l2ValvesOk.j1 k1 x3_1 true l0_0 l0_1 l0_2 l0_3) else ((spec_l2Place.f k1 l0_0 l0_1 l0_2 l0_3 ((rd_T108 l0_3 x3_1).f2)).bind fun t151 => (if t151 < 0 then (spec_l2ValvesOk.j1 k1 x3_1 true l0_0 l0_1 l0_2 l0_3) else ((spec_l2NameOk.f k1 ((rd_T108 l0_3 x3_1).f3)).bind fun t152 => (spec_l2ValvesOk.j1 k1 x3_1 (!t152) l0_0 l0_1 l0_2 l0_3)))))) else (spec_l2ValvesOk.j1 k1 x3_1 true l0_0 l0_1 l0_2 l0_3))) = some r := by rw [if_pos rfl] at H; exact H
        clear H
        have H := H1
        clear H1
        refine (Classical.em (x3_1 > 0)).elim (fun c16 => ?yes68) (fun c16 => ?no68)
        case' yes68 =>
         rw [if_pos c16] at H
         have c16b0 : decide (0 < x3_1) = true := decide_eq_true c16
         clear c16
         (first | rw [c16b0] | (simp only [i64_w, i32_w]; rw [c16b0]) | skip)
         obtain ⟨ji17, hji17⟩ : ∃ j_ : Int, (wrap64 (x3_1 - 1)) = j_ := ⟨_, rfl⟩
         replace H : (if 0 ≤ (ji17) then (if (ji17) < (l0_3.length : Int) then (if ((Op.bytesLess (((rd_T108 l0_3 (ji17)).f0).toList) (((rd_T108 l0_3 x3_1).f0).toList)) = true) then (if ((Op.bytesLess (((rd_T108 l0_3 x3_1).f1).toList) (((rd_T108 l0_3 x3_1).f2).toList)) = true) then ((spec_l2Place.f k1 l0_0 l0_1 l0_2 l0_3 ((rd_T108 l0_3 x3_1).f1)).bind fun t147 => (if t147 < 0 then (spec_l2ValvesOk.j1 k1 x3_1 true l0_0 l0_1 l0_2 l0_3) else ((spec_l2Place.f k1 l0_0 l0_1 l0_2 l0_3 ((rd_T108 l0_3 x3_1).f2)).bind fun t148 => (if t148 < 0 then (spec_l2ValvesOk.j1 k1 x3_1 true l0_0 l0_1 l0_2 l0_3) else ((spec_l2NameOk.f k1 ((rd_T108 l0_3 x3_1).f3)).bind fun t149 => (spec_l2ValvesOk.j1 k1 x3_1 (!t149) l0_0 l0_1 l0_2 l0_3)))))) else (spec_l2ValvesOk.j1 k1 x3_1 true l0_0 l0_1 l0_2 l0_3)) else (spec_l2ValvesOk.j1 k1 x3_1 true l0_0 l0_1 l0_2 l0_3)) else (none)) else (none)) = some r := by first | (rw [hji17] at H; exact H) | (simp only [hji17] at H ⊢; exact H)
         (try rw [hji17] at A14)
         have hji17w : (IntKind.i64.wrap (x3_1 - 1)) = ji17 := (i64_w _).trans hji17
         refine (Classical.em (0 ≤ (ji17))).elim (fun c18 => ?yes69) (fun c18 => ?no69)
         case' yes69 =>
          rw [if_pos c18] at H
          have c18b0 : decide (0 ≤ (ji17)) = true := decide_eq_true c18
          clear c18
          refine (Classical.em ((ji17) < (l0_3.length : Int))).elim (fun c19 => ?yes70) (fun c19 => ?no70)
          case' yes70 =>
           rw [if_pos c19] at H
           have c19b0 : decide ((ji17) < (l0_3.length : Int)) = true := decide_eq_true c19
           clear c19
           refine (Classical.em (((Op.bytesLess (((rd_T108 l0_3 (ji17)).f0).toList) (((rd_T108 l0_3 x3_1).f0).toList)) = true))).elim (fun c20 => ?yes71) (fun c20 => ?no71)
           case' yes71 =>
            rw [if_pos c20] at H
            have c20b0 : (Op.bytesLess (((rd_T108 l0_3 (ji17)).f0).toList) (((rd_T108 l0_3 x3_1).f0).toList)) = true := c20
            clear c20
            refine (Classical.em (((Op.bytesLess (((rd_T108 l0_3 x3_1).f1).toList) (((rd_T108 l0_3 x3_1).f2).toList)) = true))).elim (fun c21 => ?yes72) (fun c21 => ?no72)
            case' yes72 =>
             rw [if_pos c21] at H
             have c21b0 : (Op.bytesLess (((rd_T108 l0_3 x3_1).f1).toList) (((rd_T108 l0_3 x3_1).f2).toList)) = true := c21
             clear c21
             replace H := Option.bind_eq_some_iff.mp H
             obtain ⟨t147, A220, H⟩ := H
             replace H : (if t147 < 0 then (spec_l2ValvesOk.j1 k1 x3_1 true l0_0 l0_1 l0_2 l0_3) else ((spec_l2Place.f k1 l0_0 l0_1 l0_2 l0_3 ((rd_T108 l0_3 x3_1).f2)).bind fun t148 => (if t148 < 0 then (spec_l2ValvesOk.j1 k1 x3_1 true l0_0 l0_1 l0_2 l0_3) else ((spec_l2NameOk.f k1 ((rd_T108 l0_3 x3_1).f3)).bind fun t149 => (spec_l2ValvesOk.j1 k1 x3_1 (!t149) l0_0 l0_1 l0_2 l0_3))))) = some r := H
             have A22 := Aside0.mk A220
             clear A220
             refine (Classical.em (t147 < 0)).elim (fun c23 => ?yes73) (fun c23 => ?no73)
             case' yes73 =>
              rw [if_pos c23] at H
              have c23b0 : decide (t147 < 0) = true := decide_eq_true c23
              clear c23
              have H' := Aside0.mk H
              clear H
             case' no73 =>
              rw [if_neg c23] at H
              have c23b0 : decide (t147 < 0) = false := decide_eq_false c23
              clear c23
              replace H := Option.bind_eq_some_iff.mp H
              obtain ⟨t148, A270, H⟩ := H
              replace H : (if t148 < 0 then (spec_l2ValvesOk.j1 k1 x3_1 true l0_0 l0_1 l0_2 l0_3) else ((spec_l2NameOk.f k1 ((rd_T108 l0_3 x3_1).f3)).bind fun t149 => (spec_l2ValvesOk.j1 k1 x3_1 (!t149) l0_0 l0_1 l0_2 l0_3))) = some r := H
              have A27 := Aside0.mk A270
              clear A270
              refine (Classical.em (t148 < 0)).elim (fun c28 => ?yes74) (fun c28 => ?no74)
              case' yes74 =>
               rw [if_pos c28] at H
               have c28b0 : decide (t148 < 0) = true := decide_eq_true c28
               clear c28
               have H' := Aside0.mk H
               clear H
              case' no74 =>
               rw [if_neg c28] at H
               have c28b0 : decide (t148 < 0) = false := decide_eq_false c28
               clear c28
               replace H := Option.bind_eq_some_iff.mp H
               obtain ⟨t149, A330, H⟩ := H
               replace H : (spec_l2ValvesOk.j1 k1 x3_1 (!t149) l0_0 l0_1 l0_2 l0_3) = some r := H
               have A33 := Aside0.mk A330
               clear A330
               have H' := Aside0.mk H
               clear H
            case' no72 =>
             rw [if_neg c21] at H
             have c21b0 : (Op.bytesLess (((rd_T108 l0_3 x3_1).f1).toList) (((rd_T108 l0_3 x3_1).f2).toList)) = false := by simpa using c21
             clear c21
             have H' := Aside0.mk H
             clear H
           case' no71 =>
            rw [if_neg c20] at H
            have c20b0 : (Op.bytesLess (((rd_T108 l0_3 (ji17)).f0).toList) (((rd_T108 l0_3 x3_1).f0).toList)) = false := by simpa using c20
            clear c20
            have H' := Aside0.mk H
            clear H
          case' no70 =>
           rw [if_neg c19] at H
           exact absurd H (by simp)
         case' no69 =>
          rw [if_neg c18] at H
          exact absurd H (by simp)
        case' no68 =>
         rw [if_neg c16] at H
         have c16b0 : decide (0 < x3_1) = false := decide_eq_false c16
         clear c16
         (first | rw [c16b0] | (simp only [i64_w, i32_w]; rw [c16b0]) | skip)
         refine (Classical.em (((Op.bytesLess (((rd_T108 l0_3 x3_1).f1).toList) (((rd_T108 l0_3 x3_1).f2).toList)) = true))).elim (fun c42 => ?yes75) (fun c42 => ?no75)
         case' yes75 =>
          rw [if_pos c42] at H
          have c42b0 : (Op.bytesLess (((rd_T108 l0_3 x3_1).f1).toList) (((rd_T108 l0_3 x3_1).f2).toList)) = true := c42
          clear c42
          replace H := Option.bind_eq_some_iff.mp H
          obtain ⟨t150, A430, H⟩ := H
          replace H : (if t150 < 0 then (spec_l2ValvesOk.j1 k1 x3_1 true l0_0 l0_1 l0_2 l0_3) else ((spec_l2Place.f k1 l0_0 l0_1 l0_2 l0_3 ((rd_T108 l0_3 x3_1).f2)).bind fun t151 => (if t151 < 0 then (spec_l2ValvesOk.j1 k1 x3_1 true l0_0 l0_1 l0_2 l0_3) else ((spec_l2NameOk.f k1 ((rd_T108 l0_3 x3_1).f3)).bind fun t152 => (spec_l2ValvesOk.j1 k1 x3_1 (!t152) l0_0 l0_1 l0_2 l0_3))))) = some r := H
          have A43 := Aside0.mk A430
          clear A430
          refine (Classical.em (t150 < 0)).elim (fun c44 => ?yes76) (fun c44 => ?no76)
          case' yes76 =>
           rw [if_pos c44] at H
           have c44b0 : decide (t150 < 0) = true := decide_eq_true c44
           clear c44
           have H' := Aside0.mk H
           clear H
          case' no76 =>
           rw [if_neg c44] at H
           have c44b0 : decide (t150 < 0) = false := decide_eq_false c44
           clear c44
           replace H := Option.bind_eq_some_iff.mp H
           obtain ⟨t151, A480, H⟩ := H
           replace H : (if t151 < 0 then (spec_l2ValvesOk.j1 k1 x3_1 true l0_0 l0_1 l0_2 l0_3) else ((spec_l2NameOk.f k1 ((rd_T108 l0_3 x3_1).f3)).bind fun t152 => (spec_l2ValvesOk.j1 k1 x3_1 (!t152) l0_0 l0_1 l0_2 l0_3))) = some r := H
           have A48 := Aside0.mk A480
           clear A480
           refine (Classical.em (t151 < 0)).elim (fun c49 => ?yes77) (fun c49 => ?no77)
           case' yes77 =>
            rw [if_pos c49] at H
            have c49b0 : decide (t151 < 0) = true := decide_eq_true c49
            clear c49
            have H' := Aside0.mk H
            clear H
           case' no77 =>
            rw [if_neg c49] at H
            have c49b0 : decide (t151 < 0) = false := decide_eq_false c49
            clear c49
            replace H := Option.bind_eq_some_iff.mp H
            obtain ⟨t152, A540, H⟩ := H
            replace H : (spec_l2ValvesOk.j1 k1 x3_1 (!t152) l0_0 l0_1 l0_2 l0_3) = some r := H
            have A54 := Aside0.mk A540
            clear A540
            have H' := Aside0.mk H
            clear H
         case' no75 =>
          rw [if_neg c42] at H
          have c42b0 : (Op.bytesLess (((rd_T108 l0_3 x3_1).f1).toList) (((rd_T108 l0_3 x3_1).f2).toList)) = false := by simpa using c42
          clear c42
          have H' := Aside0.mk H
          clear H
       case' no67 =>
        replace c15 := Bool.eq_false_iff.mpr c15
        subst c15
        have H1 : (spec_l2ValvesOk.j1 k1 x3_1 true l0_0 l0_1 l0_2 l0_3) = some r := by rw [if_neg (show ¬ (false = true) by decide)] at H; exact H
        clear H
        have H := H1
        clear H1
        have H' := Aside0.mk H
        clear H
       all_goals
        first
         | (
          try go_wp2
          have n0_ : Aside0 (((((w11.setCell ⟨gb144, 0, none⟩ (.string ((rd_T108 l0_3 x3_1).f0))).setCell ⟨gb144, 1, none⟩ (.string ((rd_T108 l0_3 x3_1).f1))).setCell ⟨gb144, 2, none⟩ (.string ((rd_T108 l0_3 x3_1).f2))).setCell ⟨gb144, 3, none⟩ (.string ((rd_T108 l0_3 x3_1).f3))).heap[gb142]? = some (.cells #[.slice A0_0 l0_0.length c0_0, .slice A0_1 l0_1.length c0_1, .slice A0_2 l0_2.length c0_2, .slice (some ad143) l0_3.length c0_3] 34 (0, 0))) := ⟨m80_⟩
          have n1_ : Aside0 (((((w11.setCell ⟨gb144, 0, none⟩ (.string ((rd_T108 l0_3 x3_1).f0))).setCell ⟨gb144, 1, none⟩ (.string ((rd_T108 l0_3 x3_1).f1))).setCell ⟨gb144, 2, none⟩ (.string ((rd_T108 l0_3 x3_1).f2))).setCell ⟨gb144, 3, none⟩ (.string ((rd_T108 l0_3 x3_1).f3))).heap[gb144]? = some (.cells #[.string ((rd_T108 l0_3 x3_1).f0), .string ((rd_T108 l0_3 x3_1).f1), .string ((rd_T108 l0_3 x3_1).f2), .string ((rd_T108 l0_3 x3_1).f3)] 108 (0, 0))) := ⟨m51_⟩
          have n2_ : Aside0 (Below w.heap.size w ((((w11.setCell ⟨gb144, 0, none⟩ (.string ((rd_T108 l0_3 x3_1).f0))).setCell ⟨gb144, 1, none⟩ (.string ((rd_T108 l0_3 x3_1).f1))).setCell ⟨gb144, 2, none⟩ (.string ((rd_T108 l0_3 x3_1).f2))).setCell ⟨gb144, 3, none⟩ (.string ((rd_T108 l0_3 x3_1).f3)))) := ⟨m14_⟩
          (try clear BK142)
          (try clear BK144)
          (try clear HB)
          generalize ((((w11.setCell ⟨gb144, 0, none⟩ (.string ((rd_T108 l0_3 x3_1).f0))).setCell ⟨gb144, 1, none⟩ (.string ((rd_T108 l0_3 x3_1).f1))).setCell ⟨gb144, 2, none⟩ (.string ((rd_T108 l0_3 x3_1).f2))).setCell ⟨gb144, 3, none⟩ (.string ((rd_T108 l0_3 x3_1).f3))) = w34 at n0_ n1_ n2_ ⊢
          have BK142 := n0_
          have BK144 := n1_
          have HB := n2_
          clear n0_ n1_ n2_
          have n0_ := Aside0.mk (blk_drew BK142.out)
          have n1_ := Aside0.mk (blk_drew BK144.out)
          have n2_ := Aside0.mk (below_drew1 HB.out)
          clear BK142
          clear BK144
          clear HB
          have BK142 := n0_
          have BK144 := n1_
          have HB := n2_
          clear n0_ n1_ n2_
          have p146 : 0 ≤ ((ji17) : Int) := of_decide_eq_true m5_
          have q146 : (ji17) < (l0_3.length : Int) := of_decide_eq_true m5_
          obtain ⟨ad146, e146, hx146_0, hx146_1, hx146_2, hx146_3⟩ := at_T108 HR0_3.out (ji17) p146 q146
          have hw146_3 := hx146_3
          have hw146_2 := hx146_2
          have hw146_1 := hx146_1
          have hw146_0 := hx146_0
          obtain rfl : ad143 = ad146 := (by injection e146)
          replace hx146_0 := (HB.out.cell (World.block_lt_of_cell? w _ hx146_0)).trans hx146_0
          replace hx146_1 := (HB.out.cell (World.block_lt_of_cell? w _ hx146_1)).trans hx146_1
          replace hx146_2 := (HB.out.cell (World.block_lt_of_cell? w _ hx146_2)).trans hx146_2
          replace hx146_3 := (HB.out.cell (World.block_lt_of_cell? w _ hx146_3)).trans hx146_3
          replace p146 := eq_true p146
          replace q146 := eq_true q146
          refine start_ (n := 47) (S := fun w' => w'.cell? ⟨gb144, 0, none⟩ = some (.string ((rd_T108 l0_3 x3_1).f0)) ∧ w'.cell? ⟨gb144, 1, none⟩ = some (.string ((rd_T108 l0_3 x3_1).f1)) ∧ w'.cell? ⟨gb144, 2, none⟩ = some (.string ((rd_T108 l0_3 x3_1).f2)) ∧ w'.cell? ⟨gb144, 3, none⟩ = some (.string ((rd_T108 l0_3 x3_1).f3)) ∧ w'.cell? ⟨gb142, 0, none⟩ = some (.slice A0_0 l0_0.length c0_0) ∧ w'.cell? ⟨gb142, 1, none⟩ = some (.slice A0_1 l0_1.length c0_1) ∧ w'.cell? ⟨gb142, 2, none⟩ = some (.slice A0_2 l0_2.length c0_2) ∧ w'.cell? ⟨gb142, 3, none⟩ = some (.slice (some ad143) l0_3.length c0_3) ∧ w'.cell? (ad143.add (((ji17)).toNat * 4)) = some (.string ((rd_T108 l0_3 (ji17)).f0)) ∧ w'.cell? ⟨(ad143.add (((ji17)).toNat * 4)).block, (ad143.add (((ji17)).toNat * 4)).off + 1, none⟩ = some (.string ((rd_T108 l0_3 (ji17)).f1)) ∧ w'.cell? ⟨(ad143.add (((ji17)).toNat * 4)).block, (ad143.add (((ji17)).toNat * 4)).off + 2, none⟩ = some (.string ((rd_T108 l0_3 (ji17)).f2)) ∧ w'.cell? ⟨(ad143.add (((ji17)).toNat * 4)).block, (ad143.add (((ji17)).toNat * 4)).off + 3, none⟩ = some (.string ((rd_T108 l0_3 (ji17)).f3))) (ds := []) (bm 47 0) (by kernel_rfl) rfl rfl ⟨(blk_cell BK144.out 0).trans rfl, (blk_cell BK144.out 1).trans rfl, (blk_cell BK144.out 2).trans rfl, (blk_cell BK144.out 3).trans rfl, (blk_cell BK142.out 0).trans rfl, (blk_cell BK142.out 1).trans rfl, (blk_cell BK142.out 2).trans rfl, (blk_cell BK142.out 3).trans rfl, ((HB.out.cell (World.block_lt_of_cell? w _ hw146_0)).trans hw146_0), ((HB.out.cell (World.block_lt_of_cell? w _ hw146_1)).trans hw146_1), ((HB.out.cell (World.block_lt_of_cell? w _ hw146_2)).trans hw146_2), ((HB.out.cell (World.block_lt_of_cell? w _ hw146_3)).trans hw146_3)⟩ (fun hHeld => ?_); refine with_tabW spec_l2ValvesOk.tab7 spec_l2ValvesOk.bits7 (fun HT_ HW_ => ?_)
          generalize w34.drew = w35 at BK142 BK144 HB hx146_0 hx146_1 hx146_2 hx146_3 hHeld ⊢
          refine pure_ (i := 0) (N := some 21) (v := ?_) (a' := ?_) (bm 47 1) rfl rfl (any_of HT_.out (by kernel_rfl)) (fun _ _ _ h => h) (Or.inl ⟨(by rfl), ?_⟩) ?_ ?_; rotate_left; intro w'; go_simp; with_reducible rfl; rotate_left; simp only [Act.put, List.setIfInBounds_toArray, List.set_cons_zero, List.set_cons_succ, i64_w, i32_w]; rfl
          refine take_ (i := 1) (N := some 22) (v := ?_) (a' := ?_) (bm 47 3) rfl rfl (take_ofW HT_.out HW_.out (by kernel_rfl)) (fun _ _ _ h => h) (Or.inl ⟨(by rfl), ?_⟩) hHeld ?_ ?_; rotate_left; rintro w' ⟨s0, s1, s2, s3, s4, s5, s6, s7, s8, s9, s10, s11⟩; go_simp; with_reducible rfl; rotate_left; simp only [Act.put, List.setIfInBounds_toArray, List.set_cons_zero, List.set_cons_succ, i64_w, i32_w]; rfl
          refine one_ (i := 2) (N := some 23) (bm 47 7) rfl rfl (one_of HT_.out (by kernel_rfl)) (by decide) (fun K hK => ?_)
          refine goes_ Try.func119 (by kernel_rfl) rfl #[.string ((rd_T108 l0_3 x3_1).f0)] (by rfl) rfl rfl m3_ ?_
          with_reducible refine (spec_l2NameOk.calls k1 ((rd_T108 l0_3 x3_1).f0) _ _ (Aside0.out (by assumption))).mono ?_
          rintro e w' ⟨rfl, ⟨nd, rfl⟩⟩
          refine ⟨_, rfl, ?_⟩
          refine hK.out _ _ ⟨(blk_cell BK144.out 0).trans rfl, (blk_cell BK144.out 1).trans rfl, (blk_cell BK144.out 2).trans rfl, (blk_cell BK144.out 3).trans rfl, (blk_cell BK142.out 0).trans rfl, (blk_cell BK142.out 1).trans rfl, (blk_cell BK142.out 2).trans rfl, (blk_cell BK142.out 3).trans rfl, ((HB.out.cell (World.block_lt_of_cell? w _ hw146_0)).trans hw146_0), ((HB.out.cell (World.block_lt_of_cell? w _ hw146_1)).trans hw146_1), ((HB.out.cell (World.block_lt_of_cell? w _ hw146_2)).trans hw146_2), ((HB.out.cell (World.block_lt_of_cell? w _ hw146_3)).trans hw146_3)⟩ (fun hHeld => ?_)
          clear hK K
          refine no_ ?_
          refine pure_ (i := 3) (N := some 24) (v := ?_) (a' := ?_) (bm 47 15) rfl rfl (any_of HT_.out (by kernel_rfl)) (fun _ _ _ h => h) (Or.inl ⟨(by rfl), ?_⟩) ?_ ?_; rotate_left; intro w'; go_simp; with_reducible rfl; rotate_left; simp only [Act.put, List.setIfInBounds_toArray, List.set_cons_zero, List.set_cons_succ, i64_w, i32_w]; rfl
          refine pure_ (i := 4) (N := some 25) (v := ?_) (a' := ?_) (bm 47 31) rfl rfl (any_of HT_.out (by kernel_rfl)) (fun _ _ _ h => h) (Or.inl ⟨(by rfl), ?_⟩) ?_ ?_; rotate_left; intro w'; go_simp; with_reducible rfl; rotate_left; simp only [Act.put, List.setIfInBounds_toArray, List.set_cons_zero, List.set_cons_succ, i64_w, i32_w]; rfl
          refine pure_ (i := 5) (N := some 26) (v := ?_) (a' := ?_) (bm 47 63) rfl rfl (any_of HT_.out (by kernel_rfl)) (fun _ _ _ h => h) (Or.inl ⟨(by rfl), ?_⟩) ?_ ?_; rotate_left; intro w'; go_simp; with_reducible rfl; rotate_left; simp only [Act.put, List.setIfInBounds_toArray, List.set_cons_zero, List.set_cons_succ, i64_w, i32_w]; rfl
          refine pure_ (i := 6) (N := some 27) (v := ?_) (a' := ?_) (bm 47 127) rfl rfl (any_of HT_.out (by kernel_rfl)) (fun _ _ _ h => h) (Or.inl ⟨(by rfl), ?_⟩) ?_ ?_; rotate_left; intro w'; go_simp; with_reducible rfl; rotate_left; simp only [Act.put, List.setIfInBounds_toArray, List.set_cons_zero, List.set_cons_succ, i64_w, i32_w]; rfl
          refine pure_ (i := 7) (N := some 28) (v := ?_) (a' := ?_) (bm 47 255) rfl rfl (any_of HT_.out (by kernel_rfl)) (fun _ _ _ h => h) (Or.inl ⟨(by rfl), ?_⟩) ?_ ?_; rotate_left; intro w'; go_simp; with_reducible rfl; rotate_left; simp only [Act.put, List.setIfInBounds_toArray, List.set_cons_zero, List.set_cons_succ, i64_w, i32_w]; rfl
          refine pure_ (i := 8) (N := some 29) (v := ?_) (a' := ?_) (bm 47 511) rfl rfl (any_of HT_.out (by kernel_rfl)) (fun _ _ _ h => h) (Or.inl ⟨(by rfl), ?_⟩) ?_ ?_; rotate_left; intro w'; go_simp; with_reducible rfl; rotate_left; simp only [Act.put, List.setIfInBounds_toArray, List.set_cons_zero, List.set_cons_succ, i64_w, i32_w]; rfl
          refine pure_ (i := 10) (N := some 31) (v := ?_) (a' := ?_) (bm 47 1535) rfl rfl (any_of HT_.out (by kernel_rfl)) (fun _ _ _ h => h) (Or.inl ⟨(by rfl), ?_⟩) ?_ ?_; rotate_left; intro w'; go_simp; with_reducible rfl; rotate_left; simp only [Act.put, List.setIfInBounds_toArray, List.set_cons_zero, List.set_cons_succ, i64_w, i32_w]; rfl
          refine pure_ (i := 11) (N := some 32) (v := ?_) (a' := ?_) (bm 47 3583) rfl rfl (any_of HT_.out (by kernel_rfl)) (fun _ _ _ h => h) (Or.inl ⟨(by rfl), ?_⟩) ?_ ?_; rotate_left; intro w'; go_simp; with_reducible rfl; rotate_left; simp only [Act.put, List.setIfInBounds_toArray, List.set_cons_zero, List.set_cons_succ, i64_w, i32_w]; rfl
          refine pure_ (i := 15) (N := some 36) (v := ?_) (a' := ?_) (bm 47 36351) rfl rfl (any_of HT_.out (by kernel_rfl)) (fun _ _ _ h => h) (Or.inl ⟨(by rfl), ?_⟩) ?_ ?_; rotate_left; intro w'; go_simp; with_reducible rfl; rotate_left; simp only [Act.put, List.setIfInBounds_toArray, List.set_cons_zero, List.set_cons_succ, i64_w, i32_w]; rfl
          refine take_ (i := 9) (N := some 30) (v := ?_) (a' := ?_) (bm 47 36863) rfl rfl (take_ofW HT_.out HW_.out (by kernel_rfl)) (fun _ _ _ h => h) (Or.inl ⟨(by rfl), ?_⟩) hHeld ?_ ?_; rotate_left; rintro w' ⟨s0, s1, s2, s3, s4, s5, s6, s7, s8, s9, s10, s11⟩; go_simp; with_reducible rfl; rotate_left; simp only [Act.put, List.setIfInBounds_toArray, List.set_cons_zero, List.set_cons_succ, i64_w, i32_w]; rfl
          refine pure_ (i := 12) (N := some 33) (v := ?_) (a' := ?_) (bm 47 40959) rfl rfl (any_of HT_.out (by kernel_rfl)) (fun _ _ _ h => h) (Or.inl ⟨(by rfl), ?_⟩) ?_ ?_; rotate_left; intro w'; go_simp; with_reducible rfl; rotate_left; simp only [Act.put, List.setIfInBounds_toArray, List.set_cons_zero, List.set_cons_succ, i64_w, i32_w]; rfl
          refine pure_ (i := 13) (N := some 34) (v := ?_) (a' := ?_) (bm 47 49151) rfl rfl (any_of HT_.out (by kernel_rfl)) (fun _ _ _ h => h) (Or.inl ⟨(by rfl), ?_⟩) ?_ ?_; rotate_left; intro w'; go_simp; with_reducible rfl; rotate_left; simp only [Act.put, List.setIfInBounds_toArray, List.set_cons_zero, List.set_cons_succ, i64_w, i32_w]; rfl
          refine take_ (i := 14) (N := some 35) (v := ?_) (a' := ?_) (bm 47 65535) rfl rfl (take_ofW HT_.out HW_.out (by kernel_rfl)) (fun _ _ _ h => h) (Or.inl ⟨(by rfl), ?_⟩) hHeld ?_ ?_; rotate_left; rintro w' ⟨s0, s1, s2, s3, s4, s5, s6, s7, s8, s9, s10, s11⟩; go_simp; with_reducible rfl; rotate_left; simp only [Act.put, List.setIfInBounds_toArray, List.set_cons_zero, List.set_cons_succ, i64_w, i32_w]; rfl
          refine take_ (i := 16) (N := some 37) (v := ?_) (a' := ?_) (bm 47 131071) rfl rfl (take_ofW HT_.out HW_.out (by kernel_rfl)) (fun _ _ _ h => h) (Or.inl ⟨(by rfl), ?_⟩) hHeld ?_ ?_; rotate_left; rintro w' ⟨s0, s1, s2, s3, s4, s5, s6, s7, s8, s9, s10, s11⟩; go_simp; with_reducible rfl; rotate_left; simp only [Act.put, List.setIfInBounds_toArray, List.set_cons_zero, List.set_cons_succ, i64_w, i32_w]; rfl
          refine pure_ (i := 17) (N := some 38) (v := ?_) (a' := ?_) (bm 47 262143) rfl rfl (any_of HT_.out (by kernel_rfl)) (fun _ _ _ h => h) (Or.inl ⟨(by rfl), ?_⟩) ?_ ?_; rotate_left; intro w'; go_simp; with_reducible rfl; rotate_left; simp only [Act.put, List.setIfInBounds_toArray, List.set_cons_zero, List.set_cons_succ, i64_w, i32_w]; rfl
          refine pure_ (i := 18) (N := some 39) (v := ?_) (a' := ?_) (bm 47 524287) rfl rfl (any_of HT_.out (by kernel_rfl)) (fun _ _ _ h => h) (Or.inl ⟨(by rfl), ?_⟩) ?_ ?_; rotate_left; intro w'; go_simp; with_reducible rfl; rotate_left; simp only [Act.put, List.setIfInBounds_toArray, List.set_cons_zero, List.set_cons_succ, i64_w, i32_w]; rfl
          refine pure_ (i := 19) (N := some 40) (v := ?_) (a' := ?_) (bm 47 1048575) rfl rfl (any_of HT_.out (by kernel_rfl)) (fun _ _ _ h => h) (Or.inl ⟨(by rfl), ?_⟩) ?_ ?_; rotate_left; intro w'; go_simp; with_reducible rfl; rotate_left; simp only [Act.put, List.setIfInBounds_toArray, List.set_cons_zero, List.set_cons_succ, i64_w, i32_w]; rfl
          refine pure_ (i := 20) (N := some 41) (v := ?_) (a' := ?_) (bm 47 2097151) rfl rfl (any_of HT_.out (by kernel_rfl)) (fun _ _ _ h => h) (Or.inl ⟨(by rfl), ?_⟩) ?_ ?_; rotate_left; intro w'; go_simp; with_reducible rfl; rotate_left; simp only [Act.put, List.setIfInBounds_toArray, List.set_cons_zero, List.set_cons_succ, i64_w, i32_w]; rfl
          first
           | (
            refine pure_ (i := 21) (N := some 42) (v := ?_) (a' := ?_) (bm 47 4194303) rfl rfl (any_of HT_.out (by kernel_rfl)) (fun _ _ _ h => h) (Or.inl ⟨rfl, ?_⟩) ?_ ?_
            rotate_left
            ·intro w'
             go_simp
             with_reducible rfl
            rotate_left
            ·simp only [Act.put, List.setIfInBounds_toArray, List.set_cons_zero, List.set_cons_succ, i64_w, i32_w]
             rfl)
           | (
            refine pure_ (i := 21) (N := some 42) (v := undef) (a' := ?_) (bm 47 4194303) rfl rfl (any_of HT_.out (by kernel_rfl)) (fun _ _ _ h => h) (Or.inr ⟨rfl, rfl⟩) ?_ ?_
            rotate_left
            ·simp only [Act.put, List.setIfInBounds_toArray, List.set_cons_zero, List.set_cons_succ, i64_w, i32_w]
             rfl)
          first
           | (
            refine pure_ (i := 23) (N := some 44) (v := ?_) (a' := ?_) (bm 47 12582911) rfl rfl (any_of HT_.out (by kernel_rfl)) (fun _ _ _ h => h) (Or.inl ⟨rfl, ?_⟩) ?_ ?_
            rotate_left
            ·intro w'
             go_simp
             with_reducible rfl
            rotate_left
            ·simp only [Act.put, List.setIfInBounds_toArray, List.set_cons_zero, List.set_cons_succ, i64_w, i32_w]
             rfl)
           | (
            refine pure_ (i := 23) (N := some 44) (v := undef) (a' := ?_) (bm 47 12582911) rfl rfl (any_of HT_.out (by kernel_rfl)) (fun _ _ _ h => h) (Or.inr ⟨rfl, rfl⟩) ?_ ?_
            rotate_left
            ·simp only [Act.put, List.setIfInBounds_toArray, List.set_cons_zero, List.set_cons_succ, i64_w, i32_w]
             rfl)
          first
           | (
            refine take_ (i := 22) (N := some 43) (v := ?_) (a' := ?_) (bm 47 16777215) rfl rfl (take_ofW HT_.out HW_.out (by kernel_rfl)) (fun _ _ _ h => h) (Or.inl ⟨rfl, ?_⟩) hHeld ?_ ?_
            rotate_left
            ·rintro w' ⟨s0, s1, s2, s3, s4, s5, s6, s7, s8, s9, s10, s11⟩
             go_simp
             with_reducible rfl
            rotate_left
            ·simp only [Act.put, List.setIfInBounds_toArray, List.set_cons_zero, List.set_cons_succ, i64_w, i32_w]
             rfl)
           | (
            refine pure_ (i := 22) (N := some 43) (v := undef) (a' := ?_) (bm 47 16777215) rfl rfl (any_of HT_.out (by kernel_rfl)) (fun _ _ _ h => h) (Or.inr ⟨rfl, rfl⟩) ?_ ?_
            rotate_left
            ·simp only [Act.put, List.setIfInBounds_toArray, List.set_cons_zero, List.set_cons_succ, i64_w, i32_w]
             rfl)
          first
           | (
            refine take_ (i := 24) (N := some 45) (v := ?_) (a' := ?_) (bm 47 33554431) rfl rfl (take_ofW HT_.out HW_.out (by kernel_rfl)) (fun _ _ _ h => h) (Or.inl ⟨rfl, ?_⟩) hHeld ?_ ?_
            rotate_left
            ·rintro w' ⟨s0, s1, s2, s3, s4, s5, s6, s7, s8, s9, s10, s11⟩
             go_simp
             with_reducible rfl
            rotate_left
            ·simp only [Act.put, List.setIfInBounds_toArray, List.set_cons_zero, List.set_cons_succ, i64_w, i32_w]
             rfl)
           | (
            refine pure_ (i := 24) (N := some 45) (v := undef) (a' := ?_) (bm 47 33554431) rfl rfl (any_of HT_.out (by kernel_rfl)) (fun _ _ _ h => h) (Or.inr ⟨rfl, rfl⟩) ?_ ?_
            rotate_left
            ·simp only [Act.put, List.setIfInBounds_toArray, List.set_cons_zero, List.set_cons_succ, i64_w, i32_w]
             rfl)
          first
           | (
            refine pure_ (i := 25) (N := some 46) (v := ?_) (a' := ?_) (bm 47 67108863) rfl rfl (any_of HT_.out (by kernel_rfl)) (fun _ _ _ h => h) (Or.inl ⟨rfl, ?_⟩) ?_ ?_
            rotate_left
            ·intro w'
             go_simp
             with_reducible rfl
            rotate_left
            ·simp only [Act.put, List.setIfInBounds_toArray, List.set_cons_zero, List.set_cons_succ, i64_w, i32_w]
             rfl)
           | (
            refine pure_ (i := 25) (N := some 46) (v := undef) (a' := ?_) (bm 47 67108863) rfl rfl (any_of HT_.out (by kernel_rfl)) (fun _ _ _ h => h) (Or.inr ⟨rfl, rfl⟩) ?_ ?_
            rotate_left
            ·simp only [Act.put, List.setIfInBounds_toArray, List.set_cons_zero, List.set_cons_succ, i64_w, i32_w]
             rfl)
          refine pure_ (i := 26) (N := some 47) (v := ?_) (a' := ?_) (bm 47 134217727) rfl rfl (any_of HT_.out (by kernel_rfl)) (fun _ _ _ h => h) (Or.inl ⟨(by rfl), ?_⟩) ?_ ?_; rotate_left; intro w'; go_simp; with_reducible rfl; rotate_left; simp only [Act.put, List.setIfInBounds_toArray, List.set_cons_zero, List.set_cons_succ, i64_w, i32_w]; rfl
          refine pure_ (i := 27) (N := some 48) (v := ?_) (a' := ?_) (bm 47 268435455) rfl rfl (any_of HT_.out (by kernel_rfl)) (fun _ _ _ h => h) (Or.inl ⟨(by rfl), ?_⟩) ?_ ?_; rotate_left; intro w'; go_simp; with_reducible rfl; rotate_left; simp only [Act.put, List.setIfInBounds_toArray, List.set_cons_zero, List.set_cons_succ, i64_w, i32_w]; rfl
          first
           | (
            refine pure_ (i := 29) (N := some 50) (v := ?_) (a' := ?_) (bm 47 805306367) rfl rfl (any_of HT_.out (by kernel_rfl)) (fun _ _ _ h => h) (Or.inl ⟨rfl, ?_⟩) ?_ ?_
            rotate_left
            ·intro w'
             go_simp
             with_reducible rfl
            rotate_left
            ·simp only [Act.put, List.setIfInBounds_toArray, List.set_cons_zero, List.set_cons_succ, i64_w, i32_w]
             rfl)
           | (
            refine pure_ (i := 29) (N := some 50) (v := undef) (a' := ?_) (bm 47 805306367) rfl rfl (any_of HT_.out (by kernel_rfl)) (fun _ _ _ h => h) (Or.inr ⟨rfl, rfl⟩) ?_ ?_
            rotate_left
            ·simp only [Act.put, List.setIfInBounds_toArray, List.set_cons_zero, List.set_cons_succ, i64_w, i32_w]
             rfl)
          first
           | (
            refine take_ (i := 28) (N := some 49) (v := ?_) (a' := ?_) (bm 47 1073741823) rfl rfl (take_ofW HT_.out HW_.out (by kernel_rfl)) (fun _ _ _ h => h) (Or.inl ⟨rfl, ?_⟩) hHeld ?_ ?_
            rotate_left
            ·rintro w' ⟨s0, s1, s2, s3, s4, s5, s6, s7, s8, s9, s10, s11⟩
             go_simp
             with_reducible rfl
            rotate_left
            ·simp only [Act.put, List.setIfInBounds_toArray, List.set_cons_zero, List.set_cons_succ, i64_w, i32_w]
             rfl)
           | (
            refine pure_ (i := 28) (N := some 49) (v := undef) (a' := ?_) (bm 47 1073741823) rfl rfl (any_of HT_.out (by kernel_rfl)) (fun _ _ _ h => h) (Or.inr ⟨rfl, rfl⟩) ?_ ?_
            rotate_left
            ·simp only [Act.put, List.setIfInBounds_toArray, List.set_cons_zero, List.set_cons_succ, i64_w, i32_w]
             rfl)
          first
           | (
            refine take_ (i := 30) (N := some 51) (v := ?_) (a' := ?_) (bm 47 2147483647) rfl rfl (take_ofW HT_.out HW_.out (by kernel_rfl)) (fun _ _ _ h => h) (Or.inl ⟨rfl, ?_⟩) hHeld ?_ ?_
            rotate_left
            ·rintro w' ⟨s0, s1, s2, s3, s4, s5, s6, s7, s8, s9, s10, s11⟩
             go_simp
             with_reducible rfl
            rotate_left
            ·simp only [Act.put, List.setIfInBounds_toArray, List.set_cons_zero, List.set_cons_succ, i64_w, i32_w]
             rfl)
           | (
            refine pure_ (i := 30) (N := some 51) (v := undef) (a' := ?_) (bm 47 2147483647) rfl rfl (any_of HT_.out (by kernel_rfl)) (fun _ _ _ h => h) (Or.inr ⟨rfl, rfl⟩) ?_ ?_
            rotate_left
            ·simp only [Act.put, List.setIfInBounds_toArray, List.set_cons_zero, List.set_cons_succ, i64_w, i32_w]
             rfl)
          first
           | (
            refine one_ (i := 31) (N := some 52) (bm 47 4294967295) rfl rfl (one_of HT_.out (by kernel_rfl)) (by decide) (fun K hK => ?_)
            refine goes_ Try.func94 (by kernel_rfl) rfl #[.agg #[.slice A0_0 l0_0.length c0_0, .slice A0_1 l0_1.length c0_1, .slice A0_2 l0_2.length c0_2, .slice (some ad143) l0_3.length c0_3], .string ((rd_T108 l0_3 x3_1).f1)] rfl rfl rfl m3_ ?_
            with_reducible refine (spec_l2Place.calls k1 _ _ l0_0 _ _ l0_1 _ _ l0_2 _ _ l0_3 ((rd_T108 l0_3 x3_1).f1) _ _ ?side1 ?side2 ?side3 ?side4 ?side5 ?side6 ?side7 ?side8 (Aside0.out (by assumption))).mono ?_
            (case side1 => exact (by repeat (first | exact (Kd.C_below HR0_0.out m14_) | (with_reducible refine Kd.C_alloc ?_ _) | (with_reducible refine Kd.C_drewN ?_ _) | (with_reducible refine Kd.C_drew ?_))))
            (case side2 => exact HC0_0.out)
            (case side3 => exact (by repeat (first | exact (Kd.C_below HR0_1.out m14_) | (with_reducible refine Kd.C_alloc ?_ _) | (with_reducible refine Kd.C_drewN ?_ _) | (with_reducible refine Kd.C_drew ?_))))
            (case side4 => exact HC0_1.out)
            (case side5 => exact (by repeat (first | exact (Kd.C_below HR0_2.out m14_) | (with_reducible refine Kd.C_alloc ?_ _) | (with_reducible refine Kd.C_drewN ?_ _) | (with_reducible refine Kd.C_drew ?_))))
            (case side6 => exact HC0_2.out)
            (case side7 => exact (by repeat (first | exact (Kd.C_below HR0_3.out m14_) | (with_reducible refine Kd.C_alloc ?_ _) | (with_reducible refine Kd.C_drewN ?_ _) | (with_reducible refine Kd.C_drew ?_))))
            (case side8 => exact HC0_3.out)
            rintro e w36 ⟨rfl, hb⟩
            refine ⟨_, rfl, ?_⟩
            have n0_ := Aside0.mk (blk_below (g := gb142) (o := .cells #[.slice A0_0 l0_0.length c0_0, .slice A0_1 l0_1.length c0_1, .slice A0_2 l0_2.length c0_2, .slice (some ad143) l0_3.length c0_3] 34 (0, 0)) m50_ hb)
            have n1_ := Aside0.mk (blk_below (g := gb144) (o := .cells #[.string ((rd_T108 l0_3 x3_1).f0), .string ((rd_T108 l0_3 x3_1).f1), .string ((rd_T108 l0_3 x3_1).f2), .string ((rd_T108 l0_3 x3_1).f3)] 108 (0, 0)) m84_ hb)
            have n2_ := Aside0.mk (below_step m14_ hb)
            clear BK142
            clear BK144
            clear HB
            have BK142 := n0_
            have BK144 := n1_
            have HB := n2_
            clear n0_ n1_ n2_
            (try clear hb)
            (try clear hb2)
            (try clear hk)
            (try clear hi)
            refine hK.out _ _ ⟨(blk_cell BK144.out 0).trans rfl, (blk_cell BK144.out 1).trans rfl, (blk_cell BK144.out 2).trans rfl, (blk_cell BK144.out 3).trans rfl, (blk_cell BK142.out 0).trans rfl, (blk_cell BK142.out 1).trans rfl, (blk_cell BK142.out 2).trans rfl, (blk_cell BK142.out 3).trans rfl, ((HB.out.cell (World.block_lt_of_cell? w _ hw146_0)).trans hw146_0), ((HB.out.cell (World.block_lt_of_cell? w _ hw146_1)).trans hw146_1), ((HB.out.cell (World.block_lt_of_cell? w _ hw146_2)).trans hw146_2), ((HB.out.cell (World.block_lt_of_cell? w _ hw146_3)).trans hw146_3)⟩ (fun hHeld => ?_)
            clear hK K
            refine norm_ (a' := ?_) ?_ ?_
            rotate_left
            ·show Act.put _ (some 52) _ = _
             simp only [Act.put, List.setIfInBounds_toArray, List.set_cons_zero, List.set_cons_succ, i64_w, i32_w]
             rfl)
           | (
            refine pure_ (i := 31) (N := some 52) (v := undef) (a' := ?_) (bm 47 4294967295) rfl rfl (any_of HT_.out (by kernel_rfl)) (fun _ _ _ h => h) (Or.inr ⟨rfl, rfl⟩) ?_ ?_
            rotate_left
            ·simp only [Act.put, List.setIfInBounds_toArray, List.set_cons_zero, List.set_cons_succ, i64_w, i32_w]
             rfl)
          first
           | (
            refine pure_ (i := 32) (N := some 53) (v := ?_) (a' := ?_) (bm 47 8589934591) rfl rfl (any_of HT_.out (by kernel_rfl)) (fun _ _ _ h => h) (Or.inl ⟨rfl, ?_⟩) ?_ ?_
            rotate_left
            ·intro w'
             go_simp
             with_reducible rfl
            rotate_left
            ·simp only [Act.put, List.setIfInBounds_toArray, List.set_cons_zero, List.set_cons_succ, i64_w, i32_w]
             rfl)
           | (
            refine pure_ (i := 32) (N := some 53) (v := undef) (a' := ?_) (bm 47 8589934591) rfl rfl (any_of HT_.out (by kernel_rfl)) (fun _ _ _ h => h) (Or.inr ⟨rfl, rfl⟩) ?_ ?_
            rotate_left
            ·simp only [Act.put, List.setIfInBounds_toArray, List.set_cons_zero, List.set_cons_succ, i64_w, i32_w]
             rfl)
          refine pure_ (i := 33) (N := some 54) (v := ?_) (a' := ?_) (bm 47 17179869183) rfl rfl (any_of HT_.out (by kernel_rfl)) (fun _ _ _ h => h) (Or.inl ⟨(by rfl), ?_⟩) ?_ ?_; rotate_left; intro w'; go_simp; with_reducible rfl; rotate_left; simp only [Act.put, List.setIfInBounds_toArray, List.set_cons_zero, List.set_cons_succ, i64_w, i32_w]; rfl
          refine pure_ (i := 34) (N := some 55) (v := ?_) (a' := ?_) (bm 47 34359738367) rfl rfl (any_of HT_.out (by kernel_rfl)) (fun _ _ _ h => h) (Or.inl ⟨(by rfl), ?_⟩) ?_ ?_; rotate_left; intro w'; go_simp; with_reducible rfl; rotate_left; simp only [Act.put, List.setIfInBounds_toArray, List.set_cons_zero, List.set_cons_succ, i64_w, i32_w]; rfl
          first
           | (
            refine pure_ (i := 36) (N := some 57) (v := ?_) (a' := ?_) (bm 47 103079215103) rfl rfl (any_of HT_.out (by kernel_rfl)) (fun _ _ _ h => h) (Or.inl ⟨rfl, ?_⟩) ?_ ?_
            rotate_left
            ·intro w'
             go_simp
             with_reducible rfl
            rotate_left
            ·simp only [Act.put, List.setIfInBounds_toArray, List.set_cons_zero, List.set_cons_succ, i64_w, i32_w]
             rfl)
           | (
            refine pure_ (i := 36) (N := some 57) (v := undef) (a' := ?_) (bm 47 103079215103) rfl rfl (any_of HT_.out (by kernel_rfl)) (fun _ _ _ h => h) (Or.inr ⟨rfl, rfl⟩) ?_ ?_
            rotate_left
            ·simp only [Act.put, List.setIfInBounds_toArray, List.set_cons_zero, List.set_cons_succ, i64_w, i32_w]
             rfl)
          first
           | (
            refine take_ (i := 35) (N := some 56) (v := ?_) (a' := ?_) (bm 47 137438953471) rfl rfl (take_ofW HT_.out HW_.out (by kernel_rfl)) (fun _ _ _ h => h) (Or.inl ⟨rfl, ?_⟩) hHeld ?_ ?_
            rotate_left
            ·rintro w' ⟨s0, s1, s2, s3, s4, s5, s6, s7, s8, s9, s10, s11⟩
             go_simp
             with_reducible rfl
            rotate_left
            ·simp only [Act.put, List.setIfInBounds_toArray, List.set_cons_zero, List.set_cons_succ, i64_w, i32_w]
             rfl)
           | (
            refine pure_ (i := 35) (N := some 56) (v := undef) (a' := ?_) (bm 47 137438953471) rfl rfl (any_of HT_.out (by kernel_rfl)) (fun _ _ _ h => h) (Or.inr ⟨rfl, rfl⟩) ?_ ?_
            rotate_left
            ·simp only [Act.put, List.setIfInBounds_toArray, List.set_cons_zero, List.set_cons_succ, i64_w, i32_w]
             rfl)
          first
           | (
            refine take_ (i := 37) (N := some 58) (v := ?_) (a' := ?_) (bm 47 274877906943) rfl rfl (take_ofW HT_.out HW_.out (by kernel_rfl)) (fun _ _ _ h => h) (Or.inl ⟨rfl, ?_⟩) hHeld ?_ ?_
            rotate_left
            ·rintro w' ⟨s0, s1, s2, s3, s4, s5, s6, s7, s8, s9, s10, s11⟩
             go_simp
             with_reducible rfl
            rotate_left
            ·simp only [Act.put, List.setIfInBounds_toArray, List.set_cons_zero, List.set_cons_succ, i64_w, i32_w]
             rfl)
           | (
            refine pure_ (i := 37) (N := some 58) (v := undef) (a' := ?_) (bm 47 274877906943) rfl rfl (any_of HT_.out (by kernel_rfl)) (fun _ _ _ h => h) (Or.inr ⟨rfl, rfl⟩) ?_ ?_
            rotate_left
            ·simp only [Act.put, List.setIfInBounds_toArray, List.set_cons_zero, List.set_cons_succ, i64_w, i32_w]
             rfl)
          first
           | (
            refine one_ (i := 38) (N := some 59) (bm 47 549755813887) rfl rfl (one_of HT_.out (by kernel_rfl)) (by decide) (fun K hK => ?_)
            refine goes_ Try.func94 (by kernel_rfl) rfl #[.agg #[.slice A0_0 l0_0.length c0_0, .slice A0_1 l0_1.length c0_1, .slice A0_2 l0_2.length c0_2, .slice (some ad143) l0_3.length c0_3], .string ((rd_T108 l0_3 x3_1).f2)] rfl rfl rfl m3_ ?_
            with_reducible refine (spec_l2Place.calls k1 _ _ l0_0 _ _ l0_1 _ _ l0_2 _ _ l0_3 ((rd_T108 l0_3 x3_1).f2) _ _ ?side1 ?side2 ?side3 ?side4 ?side5 ?side6 ?side7 ?side8 (Aside0.out (by assumption))).mono ?_
            (case side1 => exact m7_)
            (case side2 => exact HC0_0.out)
            (case side3 => exact m21_)
            (case side4 => exact HC0_1.out)
            (case side5 => exact m13_)
            (case side6 => exact HC0_2.out)
            (case side7 => exact m19_)
            (case side8 => exact HC0_3.out)
            rintro e w37 ⟨rfl, hb⟩
            refine ⟨_, rfl, ?_⟩
            have n0_ := Aside0.mk (blk_below (g := gb142) (o := .cells #[.slice A0_0 l0_0.length c0_0, .slice A0_1 l0_1.length c0_1, .slice A0_2 l0_2.length c0_2, .slice (some ad143) l0_3.length c0_3] 34 (0, 0)) m50_ hb)
            have n1_ := Aside0.mk (blk_below (g := gb144) (o := .cells #[.string ((rd_T108 l0_3 x3_1).f0), .string ((rd_T108 l0_3 x3_1).f1), .string ((rd_T108 l0_3 x3_1).f2), .string ((rd_T108 l0_3 x3_1).f3)] 108 (0, 0)) m84_ hb)
            have n2_ := Aside0.mk (below_step m14_ hb)
            clear BK142
            clear BK144
            clear HB
            have BK142 := n0_
            have BK144 := n1_
            have HB := n2_
            clear n0_ n1_ n2_
            (try clear hb)
            (try clear hb2)
            (try clear hk)
            (try clear hi)
            refine hK.out _ _ ⟨(blk_cell BK144.out 0).trans rfl, (blk_cell BK144.out 1).trans rfl, (blk_cell BK144.out 2).trans rfl, (blk_cell BK144.out 3).trans rfl, (blk_cell BK142.out 0).trans rfl, (blk_cell BK142.out 1).trans rfl, (blk_cell BK142.out 2).trans rfl, (blk_cell BK142.out 3).trans rfl, ((HB.out.cell (World.block_lt_of_cell? w _ hw146_0)).trans hw146_0), ((HB.out.cell (World.block_lt_of_cell? w _ hw146_1)).trans hw146_1), ((HB.out.cell (World.block_lt_of_cell? w _ hw146_2)).trans hw146_2), ((HB.out.cell (World.block_lt_of_cell? w _ hw146_3)).trans hw146_3)⟩ (fun hHeld => ?_)
            clear hK K
            refine norm_ (a' := ?_) ?_ ?_
            rotate_left
            ·show Act.put _ (some 59) _ = _
             simp only [Act.put, List.setIfInBounds_toArray, List.set_cons_zero, List.set_cons_succ, i64_w, i32_w]
             rfl)
           | (
            refine pure_ (i := 38) (N := some 59) (v := undef) (a' := ?_) (bm 47 549755813887) rfl rfl (any_of HT_.out (by kernel_rfl)) (fun _ _ _ h => h) (Or.inr ⟨rfl, rfl⟩) ?_ ?_
            rotate_left
            ·simp only [Act.put, List.setIfInBounds_toArray, List.set_cons_zero, List.set_cons_succ, i64_w, i32_w]
             rfl)
          first
           | (
            refine pure_ (i := 39) (N := some 60) (v := ?_) (a' := ?_) (bm 47 1099511627775) rfl rfl (any_of HT_.out (by kernel_rfl)) (fun _ _ _ h => h) (Or.inl ⟨rfl, ?_⟩) ?_ ?_
            rotate_left
            ·intro w'
             go_simp
             with_reducible rfl
            rotate_left
            ·simp only [Act.put, List.setIfInBounds_toArray, List.set_cons_zero, List.set_cons_succ, i64_w, i32_w]
             rfl)
           | (
            refine pure_ (i := 39) (N := some 60) (v := undef) (a' := ?_) (bm 47 1099511627775) rfl rfl (any_of HT_.out (by kernel_rfl)) (fun _ _ _ h => h) (Or.inr ⟨rfl, rfl⟩) ?_ ?_
            rotate_left
            ·simp only [Act.put, List.setIfInBounds_toArray, List.set_cons_zero, List.set_cons_succ, i64_w, i32_w]
             rfl)
          refine pure_ (i := 40) (N := some 61) (v := ?_) (a' := ?_) (bm 47 2199023255551) rfl rfl (any_of HT_.out (by kernel_rfl)) (fun _ _ _ h => h) (Or.inl ⟨(by rfl), ?_⟩) ?_ ?_; rotate_left; intro w'; go_simp; with_reducible rfl; rotate_left; simp only [Act.put, List.setIfInBounds_toArray, List.set_cons_zero, List.set_cons_succ, i64_w, i32_w]; rfl
          refine pure_ (i := 41) (N := some 62) (v := ?_) (a' := ?_) (bm 47 4398046511103) rfl rfl (any_of HT_.out (by kernel_rfl)) (fun _ _ _ h => h) (Or.inl ⟨(by rfl), ?_⟩) ?_ ?_; rotate_left; intro w'; go_simp; with_reducible rfl; rotate_left; simp only [Act.put, List.setIfInBounds_toArray, List.set_cons_zero, List.set_cons_succ, i64_w, i32_w]; rfl
          first
           | (
            refine pure_ (i := 42) (N := some 63) (v := ?_) (a' := ?_) (bm 47 8796093022207) rfl rfl (any_of HT_.out (by kernel_rfl)) (fun _ _ _ h => h) (Or.inl ⟨rfl, ?_⟩) ?_ ?_
            rotate_left
            ·intro w'
             go_simp
             with_reducible rfl
            rotate_left
            ·simp only [Act.put, List.setIfInBounds_toArray, List.set_cons_zero, List.set_cons_succ, i64_w, i32_w]
             rfl)
           | (
            refine pure_ (i := 42) (N := some 63) (v := undef) (a' := ?_) (bm 47 8796093022207) rfl rfl (any_of HT_.out (by kernel_rfl)) (fun _ _ _ h => h) (Or.inr ⟨rfl, rfl⟩) ?_ ?_
            rotate_left
            ·simp only [Act.put, List.setIfInBounds_toArray, List.set_cons_zero, List.set_cons_succ, i64_w, i32_w]
             rfl)
          first
           | (
            refine take_ (i := 43) (N := some 64) (v := ?_) (a' := ?_) (bm 47 17592186044415) rfl rfl (take_ofW HT_.out HW_.out (by kernel_rfl)) (fun _ _ _ h => h) (Or.inl ⟨rfl, ?_⟩) hHeld ?_ ?_
            rotate_left
            ·rintro w' ⟨s0, s1, s2, s3, s4, s5, s6, s7, s8, s9, s10, s11⟩
             go_simp
             with_reducible rfl
            rotate_left
            ·simp only [Act.put, List.setIfInBounds_toArray, List.set_cons_zero, List.set_cons_succ, i64_w, i32_w]
             rfl)
           | (
            refine pure_ (i := 43) (N := some 64) (v := undef) (a' := ?_) (bm 47 17592186044415) rfl rfl (any_of HT_.out (by kernel_rfl)) (fun _ _ _ h => h) (Or.inr ⟨rfl, rfl⟩) ?_ ?_
            rotate_left
            ·simp only [Act.put, List.setIfInBounds_toArray, List.set_cons_zero, List.set_cons_succ, i64_w, i32_w]
             rfl)
          first
           | (
            refine one_ (i := 44) (N := some 65) (bm 47 35184372088831) rfl rfl (one_of HT_.out (by kernel_rfl)) (by decide) (fun K hK => ?_)
            refine goes_ Try.func119 (by kernel_rfl) rfl #[.string ((rd_T108 l0_3 x3_1).f3)] rfl rfl rfl m3_ ?_
            with_reducible refine (spec_l2NameOk.calls k1 ((rd_T108 l0_3 x3_1).f3) _ _ (Aside0.out (by assumption))).mono ?_
            rintro e w' ⟨rfl, ⟨nd, rfl⟩⟩
            refine ⟨_, rfl, ?_⟩
            refine hK.out _ _ ⟨(blk_cell BK144.out 0).trans rfl, (blk_cell BK144.out 1).trans rfl, (blk_cell BK144.out 2).trans rfl, (blk_cell BK144.out 3).trans rfl, (blk_cell BK142.out 0).trans rfl, (blk_cell BK142.out 1).trans rfl, (blk_cell BK142.out 2).trans rfl, (blk_cell BK142.out 3).trans rfl, ((HB.out.cell (World.block_lt_of_cell? w _ hw146_0)).trans hw146_0), ((HB.out.cell (World.block_lt_of_cell? w _ hw146_1)).trans hw146_1), ((HB.out.cell (World.block_lt_of_cell? w _ hw146_2)).trans hw146_2), ((HB.out.cell (World.block_lt_of_cell? w _ hw146_3)).trans hw146_3)⟩ (fun hHeld => ?_)
            clear hK K
            refine norm_ (a' := ?_) ?_ ?_
            rotate_left
            ·show Act.put _ (some 65) _ = _
             simp only [Act.put, List.setIfInBounds_toArray, List.set_cons_zero, List.set_cons_succ, i64_w, i32_w]
             rfl)
           | (
            refine pure_ (i := 44) (N := some 65) (v := undef) (a' := ?_) (bm 47 35184372088831) rfl rfl (any_of HT_.out (by kernel_rfl)) (fun _ _ _ h => h) (Or.inr ⟨rfl, rfl⟩) ?_ ?_
            rotate_left
            ·simp only [Act.put, List.setIfInBounds_toArray, List.set_cons_zero, List.set_cons_succ, i64_w, i32_w]
             rfl)
          first
           | (
            refine pure_ (i := 45) (N := some 66) (v := ?_) (a' := ?_) (bm 47 70368744177663) rfl rfl (any_of HT_.out (by kernel_rfl)) (fun _ _ _ h => h) (Or.inl ⟨rfl, ?_⟩) ?_ ?_
            rotate_left
            ·intro w'
             go_simp
             with_reducible rfl
            rotate_left
            ·simp only [Act.put, List.setIfInBounds_toArray, List.set_cons_zero, List.set_cons_succ, i64_w, i32_w]
             rfl)
           | (
            refine pure_ (i := 45) (N := some 66) (v := undef) (a' := ?_) (bm 47 70368744177663) rfl rfl (any_of HT_.out (by kernel_rfl)) (fun _ _ _ h => h) (Or.inr ⟨rfl, rfl⟩) ?_ ?_
            rotate_left
            ·simp only [Act.put, List.setIfInBounds_toArray, List.set_cons_zero, List.set_cons_succ, i64_w, i32_w]
             rfl)
          refine pure_ (i := 46) (N := some 67) (v := ?_) (a' := ?_) (bm 47 140737488355327) rfl rfl (any_of HT_.out (by kernel_rfl)) (fun _ _ _ h => h) (Or.inl ⟨(by rfl), ?_⟩) ?_ ?_; rotate_left; intro w'; go_simp; with_reducible rfl; rotate_left; simp only [Act.put, List.setIfInBounds_toArray, List.set_cons_zero, List.set_cons_succ, i64_w, i32_w]; rfl
          refine done_ (done_of HT_.out (by kernel_rfl)) ?_
          try go_wp2
          go_meet
          case rel => exact ⟨_, _, m8_, H', ⟨m82_⟩, ⟨m50_⟩, ⟨m84_⟩, ⟨m14_⟩⟩)
         | (
          try go_wp2
          have n0_ : Aside0 (((((w11.setCell ⟨gb144, 0, none⟩ (.string ((rd_T108 l0_3 x3_1).f0))).setCell ⟨gb144, 1, none⟩ (.string ((rd_T108 l0_3 x3_1).f1))).setCell ⟨gb144, 2, none⟩ (.string ((rd_T108 l0_3 x3_1).f2))).setCell ⟨gb144, 3, none⟩ (.string ((rd_T108 l0_3 x3_1).f3))).heap[gb142]? = some (.cells #[.slice A0_0 l0_0.length c0_0, .slice A0_1 l0_1.length c0_1, .slice A0_2 l0_2.length c0_2, .slice (some ad143) l0_3.length c0_3] 34 (0, 0))) := ⟨m80_⟩
          have n1_ : Aside0 (((((w11.setCell ⟨gb144, 0, none⟩ (.string ((rd_T108 l0_3 x3_1).f0))).setCell ⟨gb144, 1, none⟩ (.string ((rd_T108 l0_3 x3_1).f1))).setCell ⟨gb144, 2, none⟩ (.string ((rd_T108 l0_3 x3_1).f2))).setCell ⟨gb144, 3, none⟩ (.string ((rd_T108 l0_3 x3_1).f3))).heap[gb144]? = some (.cells #[.string ((rd_T108 l0_3 x3_1).f0), .string ((rd_T108 l0_3 x3_1).f1), .string ((rd_T108 l0_3 x3_1).f2), .string ((rd_T108 l0_3 x3_1).f3)] 108 (0, 0))) := ⟨m51_⟩
          have n2_ : Aside0 (Below w.heap.size w ((((w11.setCell ⟨gb144, 0, none⟩ (.string ((rd_T108 l0_3 x3_1).f0))).setCell ⟨gb144, 1, none⟩ (.string ((rd_T108 l0_3 x3_1).f1))).setCell ⟨gb144, 2, none⟩ (.string ((rd_T108 l0_3 x3_1).f2))).setCell ⟨gb144, 3, none⟩ (.string ((rd_T108 l0_3 x3_1).f3)))) := ⟨m14_⟩
          (try clear BK142)
          (try clear BK144)
          (try clear HB)
          generalize ((((w11.setCell ⟨gb144, 0, none⟩ (.string ((rd_T108 l0_3 x3_1).f0))).setCell ⟨gb144, 1, none⟩ (.string ((rd_T108 l0_3 x3_1).f1))).setCell ⟨gb144, 2, none⟩ (.string ((rd_T108 l0_3 x3_1).f2))).setCell ⟨gb144, 3, none⟩ (.string ((rd_T108 l0_3 x3_1).f3))) = w55 at n0_ n1_ n2_ ⊢
          have BK142 := n0_
          have BK144 := n1_
          have HB := n2_
          clear n0_ n1_ n2_
          have n0_ := Aside0.mk (blk_drew BK142.out)
          have n1_ := Aside0.mk (blk_drew BK144.out)
          have n2_ := Aside0.mk (below_drew1 HB.out)
          clear BK142
          clear BK144
          clear HB
          have BK142 := n0_
          have BK144 := n1_
          have HB := n2_
          clear n0_ n1_ n2_
          refine start_ (n := 47) (S := fun w' => w'.cell? ⟨gb144, 0, none⟩ = some (.string ((rd_T108 l0_3 x3_1).f0)) ∧ w'.cell? ⟨gb144, 1, none⟩ = some (.string ((rd_T108 l0_3 x3_1).f1)) ∧ w'.cell? ⟨gb144, 2, none⟩ = some (.string ((rd_T108 l0_3 x3_1).f2)) ∧ w'.cell? ⟨gb144, 3, none⟩ = some (.string ((rd_T108 l0_3 x3_1).f3)) ∧ w'.cell? ⟨gb142, 0, none⟩ = some (.slice A0_0 l0_0.length c0_0) ∧ w'.cell? ⟨gb142, 1, none⟩ = some (.slice A0_1 l0_1.length c0_1) ∧ w'.cell? ⟨gb142, 2, none⟩ = some (.slice A0_2 l0_2.length c0_2) ∧ w'.cell? ⟨gb142, 3, none⟩ = some (.slice (some ad143) l0_3.length c0_3)) (ds := []) (bm 47 0) (by kernel_rfl) rfl rfl ⟨(blk_cell BK144.out 0).trans rfl, (blk_cell BK144.out 1).trans rfl, (blk_cell BK144.out 2).trans rfl, (blk_cell BK144.out 3).trans rfl, (blk_cell BK142.out 0).trans rfl, (blk_cell BK142.out 1).trans rfl, (blk_cell BK142.out 2).trans rfl, (blk_cell BK142.out 3).trans rfl⟩ (fun hHeld => ?_); refine with_tabW spec_l2ValvesOk.tab7 spec_l2ValvesOk.bits7 (fun HT_ HW_ => ?_)
          generalize w55.drew = w56 at BK142 BK144 HB hHeld ⊢
          refine pure_ (i := 0) (N := some 21) (v := ?_) (a' := ?_) (bm 47 1) rfl rfl (any_of HT_.out (by kernel_rfl)) (fun _ _ _ h => h) (Or.inl ⟨(by rfl), ?_⟩) ?_ ?_; rotate_left; intro w'; go_simp; with_reducible rfl; rotate_left; simp only [Act.put, List.setIfInBounds_toArray, List.set_cons_zero, List.set_cons_succ, i64_w, i32_w]; rfl
          first
           | (
            refine take_ (i := 1) (N := some 22) (v := ?_) (a' := ?_) (bm 47 3) rfl rfl (take_ofW HT_.out HW_.out (by kernel_rfl)) (fun _ _ _ h => h) (Or.inl ⟨rfl, ?_⟩) hHeld ?_ ?_
            rotate_left
            ·rintro w' ⟨s0, s1, s2, s3, s4, s5, s6, s7⟩
             go_simp
             with_reducible rfl
            rotate_left
            ·simp only [Act.put, List.setIfInBounds_toArray, List.set_cons_zero, List.set_cons_succ, i64_w, i32_w]
             rfl)
           | (
            refine take_ (i := 1) (N := some 22) (v := ?_) (a' := ?_) (bm 47 3) rfl rfl (take_ofW HT_.out HW_.out (by kernel_rfl)) (fun _ _ _ h => h) (Or.inl ⟨rfl, ?_⟩) hHeld ?_ ?_
            rotate_left
            ·rintro w' ⟨s0, s1, s2, s3⟩
             go_simp
             with_reducible rfl
            rotate_left
            ·simp only [Act.put, List.setIfInBounds_toArray, List.set_cons_zero, List.set_cons_succ, i64_w, i32_w]
             rfl)
          first
           | (
            refine one_ (i := 2) (N := some 23) (bm 47 7) rfl rfl (one_of HT_.out (by kernel_rfl)) (by decide) (fun K hK => ?_)
            refine goes_ Try.func119 (by kernel_rfl) rfl #[.string ((rd_T108 l0_3 x3_1).f0)] rfl rfl rfl m3_ ?_
            with_reducible refine (spec_l2NameOk.calls k1 ((rd_T108 l0_3 x3_1).f0) _ _ (Aside0.out (by assumption))).mono ?_
            rintro e w' ⟨rfl, ⟨nd, rfl⟩⟩
            refine ⟨_, rfl, ?_⟩
            refine hK.out _ _ ⟨(blk_cell BK144.out 0).trans rfl, (blk_cell BK144.out 1).trans rfl, (blk_cell BK144.out 2).trans rfl, (blk_cell BK144.out 3).trans rfl, (blk_cell BK142.out 0).trans rfl, (blk_cell BK142.out 1).trans rfl, (blk_cell BK142.out 2).trans rfl, (blk_cell BK142.out 3).trans rfl⟩ (fun hHeld => ?_)
            clear hK K
            refine norm_ (a' := ?_) ?_ ?_
            rotate_left
            ·show Act.put _ (some 23) _ = _
             simp only [Act.put, List.setIfInBounds_toArray, List.set_cons_zero, List.set_cons_succ, i64_w, i32_w]
             rfl)
           | (
            refine one_ (i := 2) (N := some 23) (bm 47 7) rfl rfl (one_of HT_.out (by kernel_rfl)) (by decide) (fun K hK => ?_)
            refine goes_ Try.func119 (by kernel_rfl) rfl #[.string ((rd_T108 l0_3 x3_1).f0)] rfl rfl rfl m3_ ?_
            with_reducible refine (spec_l2NameOk.calls k1 ((rd_T108 l0_3 x3_1).f0) _ _ (Aside0.out (by assumption))).mono ?_
            rintro e w' ⟨rfl, ⟨nd, rfl⟩⟩
            refine ⟨_, rfl, ?_⟩
            refine hK.out _ _ ⟨(blk_cell BK144.out 0).trans rfl, (blk_cell BK144.out 1).trans rfl, (blk_cell BK144.out 2).trans rfl, (blk_cell BK144.out 3).trans rfl⟩ (fun hHeld => ?_)
            clear hK K
            refine norm_ (a' := ?_) ?_ ?_
            rotate_left
            ·show Act.put _ (some 23) _ = _
             simp only [Act.put, List.setIfInBounds_toArray, List.set_cons_zero, List.set_cons_succ, i64_w, i32_w]
             rfl)
          refine pure_ (i := 3) (N := some 24) (v := ?_) (a' := ?_) (bm 47 15) rfl rfl (any_of HT_.out (by kernel_rfl)) (fun _ _ _ h => h) (Or.inl ⟨(by rfl), ?_⟩) ?_ ?_; rotate_left; intro w'; go_simp; with_reducible rfl; rotate_left; simp only [Act.put, List.setIfInBounds_toArray, List.set_cons_zero, List.set_cons_succ, i64_w, i32_w]; rfl
          refine pure_ (i := 4) (N := some 25) (v := ?_) (a' := ?_) (bm 47 31) rfl rfl (any_of HT_.out (by kernel_rfl)) (fun _ _ _ h => h) (Or.inl ⟨(by rfl), ?_⟩) ?_ ?_; rotate_left; intro w'; go_simp; with_reducible rfl; rotate_left; simp only [Act.put, List.setIfInBounds_toArray, List.set_cons_zero, List.set_cons_succ, i64_w, i32_w]; rfl
          first
           | (
            refine pure_ (i := 5) (N := some 26) (v := ?_) (a' := ?_) (bm 47 63) rfl rfl (any_of HT_.out (by kernel_rfl)) (fun _ _ _ h => h) (Or.inl ⟨rfl, ?_⟩) ?_ ?_
            rotate_left
            ·intro w'
             go_simp
             with_reducible rfl
            rotate_left
            ·simp only [Act.put, List.setIfInBounds_toArray, List.set_cons_zero, List.set_cons_succ, i64_w, i32_w]
             rfl)
           | (
            refine pure_ (i := 5) (N := some 26) (v := undef) (a' := ?_) (bm 47 63) rfl rfl (any_of HT_.out (by kernel_rfl)) (fun _ _ _ h => h) (Or.inr ⟨rfl, rfl⟩) ?_ ?_
            rotate_left
            ·simp only [Act.put, List.setIfInBounds_toArray, List.set_cons_zero, List.set_cons_succ, i64_w, i32_w]
             rfl)
          first
           | (
            refine pure_ (i := 6) (N := some 27) (v := ?_) (a' := ?_) (bm 47 127) rfl rfl (any_of HT_.out (by kernel_rfl)) (fun _ _ _ h => h) (Or.inl ⟨rfl, ?_⟩) ?_ ?_
            rotate_left
            ·intro w'
             go_simp
             with_reducible rfl
            rotate_left
            ·simp only [Act.put, List.setIfInBounds_toArray, List.set_cons_zero, List.set_cons_succ, i64_w, i32_w]
             rfl)
           | (
            refine pure_ (i := 6) (N := some 27) (v := undef) (a' := ?_) (bm 47 127) rfl rfl (any_of HT_.out (by kernel_rfl)) (fun _ _ _ h => h) (Or.inr ⟨rfl, rfl⟩) ?_ ?_
            rotate_left
            ·simp only [Act.put, List.setIfInBounds_toArray, List.set_cons_zero, List.set_cons_succ, i64_w, i32_w]
             rfl)
          first
           | (
            refine pure_ (i := 7) (N := some 28) (v := ?_) (a' := ?_) (bm 47 255) rfl rfl (any_of HT_.out (by kernel_rfl)) (fun _ _ _ h => h) (Or.inl ⟨rfl, ?_⟩) ?_ ?_
            rotate_left
            ·intro w'
             go_simp
             with_reducible rfl
            rotate_left
            ·simp only [Act.put, List.setIfInBounds_toArray, List.set_cons_zero, List.set_cons_succ, i64_w, i32_w]
             rfl)
           | (
            refine pure_ (i := 7) (N := some 28) (v := undef) (a' := ?_) (bm 47 255) rfl rfl (any_of HT_.out (by kernel_rfl)) (fun _ _ _ h => h) (Or.inr ⟨rfl, rfl⟩) ?_ ?_
            rotate_left
            ·simp only [Act.put, List.setIfInBounds_toArray, List.set_cons_zero, List.set_cons_succ, i64_w, i32_w]
             rfl)
          refine un_ 8 29 (bm 47 511) HT_.out ?_
          refine un_ 9 30 (bm 47 1023) HT_.out ?_
          refine un_ 10 31 (bm 47 2047) HT_.out ?_
          refine un_ 11 32 (bm 47 4095) HT_.out ?_
          refine un_ 12 33 (bm 47 8191) HT_.out ?_
          refine un_ 13 34 (bm 47 16383) HT_.out ?_
          refine un_ 14 35 (bm 47 32767) HT_.out ?_
          refine un_ 15 36 (bm 47 65535) HT_.out ?_
          refine un_ 16 37 (bm 47 131071) HT_.out ?_
          refine un_ 17 38 (bm 47 262143) HT_.out ?_
          first
           | (
            refine pure_ (i := 18) (N := some 39) (v := ?_) (a' := ?_) (bm 47 524287) rfl rfl (any_of HT_.out (by kernel_rfl)) (fun _ _ _ h => h) (Or.inl ⟨rfl, ?_⟩) ?_ ?_
            rotate_left
            ·intro w'
             go_simp
             with_reducible rfl
            rotate_left
            ·simp only [Act.put, List.setIfInBounds_toArray, List.set_cons_zero, List.set_cons_succ, i64_w, i32_w]
             rfl)
           | (
            refine pure_ (i := 18) (N := some 39) (v := undef) (a' := ?_) (bm 47 524287) rfl rfl (any_of HT_.out (by kernel_rfl)) (fun _ _ _ h => h) (Or.inr ⟨rfl, rfl⟩) ?_ ?_
            rotate_left
            ·simp only [Act.put, List.setIfInBounds_toArray, List.set_cons_zero, List.set_cons_succ, i64_w, i32_w]
             rfl)
          refine pure_ (i := 19) (N := some 40) (v := ?_) (a' := ?_) (bm 47 1048575) rfl rfl (any_of HT_.out (by kernel_rfl)) (fun _ _ _ h => h) (Or.inl ⟨(by rfl), ?_⟩) ?_ ?_; rotate_left; intro w'; go_simp; with_reducible rfl; rotate_left; simp only [Act.put, List.setIfInBounds_toArray, List.set_cons_zero, List.set_cons_succ, i64_w, i32_w]; rfl
          refine pure_ (i := 20) (N := some 41) (v := ?_) (a' := ?_) (bm 47 2097151) rfl rfl (any_of HT_.out (by kernel_rfl)) (fun _ _ _ h => h) (Or.inl ⟨(by rfl), ?_⟩) ?_ ?_; rotate_left; intro w'; go_simp; with_reducible rfl; rotate_left; simp only [Act.put, List.setIfInBounds_toArray, List.set_cons_zero, List.set_cons_succ, i64_w, i32_w]; rfl
          first
           | (
            refine pure_ (i := 21) (N := some 42) (v := ?_) (a' := ?_) (bm 47 4194303) rfl rfl (any_of HT_.out (by kernel_rfl)) (fun _ _ _ h => h) (Or.inl ⟨rfl, ?_⟩) ?_ ?_
            rotate_left
            ·intro w'
             go_simp
             with_reducible rfl
            rotate_left
            ·simp only [Act.put, List.setIfInBounds_toArray, List.set_cons_zero, List.set_cons_succ, i64_w, i32_w]
             rfl)
           | (
            refine pure_ (i := 21) (N := some 42) (v := undef) (a' := ?_) (bm 47 4194303) rfl rfl (any_of HT_.out (by kernel_rfl)) (fun _ _ _ h => h) (Or.inr ⟨rfl, rfl⟩) ?_ ?_
            rotate_left
            ·simp only [Act.put, List.setIfInBounds_toArray, List.set_cons_zero, List.set_cons_succ, i64_w, i32_w]
             rfl)
          first
           | (
            refine pure_ (i := 23) (N := some 44) (v := ?_) (a' := ?_) (bm 47 12582911) rfl rfl (any_of HT_.out (by kernel_rfl)) (fun _ _ _ h => h) (Or.inl ⟨rfl, ?_⟩) ?_ ?_
            rotate_left
            ·intro w'
             go_simp
             with_reducible rfl
            rotate_left
            ·simp only [Act.put, List.setIfInBounds_toArray, List.set_cons_zero, List.set_cons_succ, i64_w, i32_w]
             rfl)
           | (
            refine pure_ (i := 23) (N := some 44) (v := undef) (a' := ?_) (bm 47 12582911) rfl rfl (any_of HT_.out (by kernel_rfl)) (fun _ _ _ h => h) (Or.inr ⟨rfl, rfl⟩) ?_ ?_
            rotate_left
            ·simp only [Act.put, List.setIfInBounds_toArray, List.set_cons_zero, List.set_cons_succ, i64_w, i32_w]
             rfl)
          first
           | (
            refine take_ (i := 22) (N := some 43) (v := ?_) (a' := ?_) (bm 47 16777215) rfl rfl (take_ofW HT_.out HW_.out (by kernel_rfl)) (fun _ _ _ h => h) (Or.inl ⟨rfl, ?_⟩) hHeld ?_ ?_
            rotate_left
            ·rintro w' ⟨s0, s1, s2, s3, s4, s5, s6, s7⟩
             go_simp
             with_reducible rfl
            rotate_left
            ·simp only [Act.put, List.setIfInBounds_toArray, List.set_cons_zero, List.set_cons_succ, i64_w, i32_w]
             rfl)
           | (
            refine take_ (i := 22) (N := some 43) (v := ?_) (a' := ?_) (bm 47 16777215) rfl rfl (take_ofW HT_.out HW_.out (by kernel_rfl)) (fun _ _ _ h => h) (Or.inl ⟨rfl, ?_⟩) hHeld ?_ ?_
            rotate_left
            ·rintro w' ⟨s0, s1, s2, s3⟩
             go_simp
             with_reducible rfl
            rotate_left
            ·simp only [Act.put, List.setIfInBounds_toArray, List.set_cons_zero, List.set_cons_succ, i64_w, i32_w]
             rfl)
           | (
            refine pure_ (i := 22) (N := some 43) (v := undef) (a' := ?_) (bm 47 16777215) rfl rfl (any_of HT_.out (by kernel_rfl)) (fun _ _ _ h => h) (Or.inr ⟨rfl, rfl⟩) ?_ ?_
            rotate_left
            ·simp only [Act.put, List.setIfInBounds_toArray, List.set_cons_zero, List.set_cons_succ, i64_w, i32_w]
             rfl)
          first
           | (
            refine take_ (i := 24) (N := some 45) (v := ?_) (a' := ?_) (bm 47 33554431) rfl rfl (take_ofW HT_.out HW_.out (by kernel_rfl)) (fun _ _ _ h => h) (Or.inl ⟨rfl, ?_⟩) hHeld ?_ ?_
            rotate_left
            ·rintro w' ⟨s0, s1, s2, s3, s4, s5, s6, s7⟩
             go_simp
             with_reducible rfl
            rotate_left
            ·simp only [Act.put, List.setIfInBounds_toArray, List.set_cons_zero, List.set_cons_succ, i64_w, i32_w]
             rfl)
           | (
            refine take_ (i := 24) (N := some 45) (v := ?_) (a' := ?_) (bm 47 33554431) rfl rfl (take_ofW HT_.out HW_.out (by kernel_rfl)) (fun _ _ _ h => h) (Or.inl ⟨rfl, ?_⟩) hHeld ?_ ?_
            rotate_left
            ·rintro w' ⟨s0, s1, s2, s3⟩
             go_simp
             with_reducible rfl
            rotate_left
            ·simp only [Act.put, List.setIfInBounds_toArray, List.set_cons_zero, List.set_cons_succ, i64_w, i32_w]
             rfl)
           | (
            refine pure_ (i := 24) (N := some 45) (v := undef) (a' := ?_) (bm 47 33554431) rfl rfl (any_of HT_.out (by kernel_rfl)) (fun _ _ _ h => h) (Or.inr ⟨rfl, rfl⟩) ?_ ?_
            rotate_left
            ·simp only [Act.put, List.setIfInBounds_toArray, List.set_cons_zero, List.set_cons_succ, i64_w, i32_w]
             rfl)
          first
           | (
            refine pure_ (i := 25) (N := some 46) (v := ?_) (a' := ?_) (bm 47 67108863) rfl rfl (any_of HT_.out (by kernel_rfl)) (fun _ _ _ h => h) (Or.inl ⟨rfl, ?_⟩) ?_ ?_
            rotate_left
            ·intro w'
             go_simp
             with_reducible rfl
            rotate_left
            ·simp only [Act.put, List.setIfInBounds_toArray, List.set_cons_zero, List.set_cons_succ, i64_w, i32_w]
             rfl)
           | (
            refine pure_ (i := 25) (N := some 46) (v := undef) (a' := ?_) (bm 47 67108863) rfl rfl (any_of HT_.out (by kernel_rfl)) (fun _ _ _ h => h) (Or.inr ⟨rfl, rfl⟩) ?_ ?_
            rotate_left
            ·simp only [Act.put, List.setIfInBounds_toArray, List.set_cons_zero, List.set_cons_succ, i64_w, i32_w]
             rfl)
          refine pure_ (i := 26) (N := some 47) (v := ?_) (a' := ?_) (bm 47 134217727) rfl rfl (any_of HT_.out (by kernel_rfl)) (fun _ _ _ h => h) (Or.inl ⟨(by rfl), ?_⟩) ?_ ?_; rotate_left; intro w'; go_simp; with_reducible rfl; rotate_left; simp only [Act.put, List.setIfInBounds_toArray, List.set_cons_zero, List.set_cons_succ, i64_w, i32_w]; rfl
          refine pure_ (i := 27) (N := some 48) (v := ?_) (a' := ?_) (bm 47 268435455) rfl rfl (any_of HT_.out (by kernel_rfl)) (fun _ _ _ h => h) (Or.inl ⟨(by rfl), ?_⟩) ?_ ?_; rotate_left; intro w'; go_simp; with_reducible rfl; rotate_left; simp only [Act.put, List.setIfInBounds_toArray, List.set_cons_zero, List.set_cons_succ, i64_w, i32_w]; rfl
          first
           | (
            refine pure_ (i := 29) (N := some 50) (v := ?_) (a' := ?_) (bm 47 805306367) rfl rfl (any_of HT_.out (by kernel_rfl)) (fun _ _ _ h => h) (Or.inl ⟨rfl, ?_⟩) ?_ ?_
            rotate_left
            ·intro w'
             go_simp
             with_reducible rfl
            rotate_left
            ·simp only [Act.put, List.setIfInBounds_toArray, List.set_cons_zero, List.set_cons_succ, i64_w, i32_w]
             rfl)
           | (
            refine pure_ (i := 29) (N := some 50) (v := undef) (a' := ?_) (bm 47 805306367) rfl rfl (any_of HT_.out (by kernel_rfl)) (fun _ _ _ h => h) (Or.inr ⟨rfl, rfl⟩) ?_ ?_
            rotate_left
            ·simp only [Act.put, List.setIfInBounds_toArray, List.set_cons_zero, List.set_cons_succ, i64_w, i32_w]
             rfl)
          first
           | (
            refine take_ (i := 28) (N := some 49) (v := ?_) (a' := ?_) (bm 47 1073741823) rfl rfl (take_ofW HT_.out HW_.out (by kernel_rfl)) (fun _ _ _ h => h) (Or.inl ⟨rfl, ?_⟩) hHeld ?_ ?_
            rotate_left
            ·rintro w' ⟨s0, s1, s2, s3, s4, s5, s6, s7⟩
             go_simp
             with_reducible rfl
            rotate_left
            ·simp only [Act.put, List.setIfInBounds_toArray, List.set_cons_zero, List.set_cons_succ, i64_w, i32_w]
             rfl)
           | (
            refine pure_ (i := 28) (N := some 49) (v := undef) (a' := ?_) (bm 47 1073741823) rfl rfl (any_of HT_.out (by kernel_rfl)) (fun _ _ _ h => h) (Or.inr ⟨rfl, rfl⟩) ?_ ?_
            rotate_left
            ·simp only [Act.put, List.setIfInBounds_toArray, List.set_cons_zero, List.set_cons_succ, i64_w, i32_w]
             rfl)
          first
           | (
            refine take_ (i := 30) (N := some 51) (v := ?_) (a' := ?_) (bm 47 2147483647) rfl rfl (take_ofW HT_.out HW_.out (by kernel_rfl)) (fun _ _ _ h => h) (Or.inl ⟨rfl, ?_⟩) hHeld ?_ ?_
            rotate_left
            ·rintro w' ⟨s0, s1, s2, s3, s4, s5, s6, s7⟩
             go_simp
             with_reducible rfl
            rotate_left
            ·simp only [Act.put, List.setIfInBounds_toArray, List.set_cons_zero, List.set_cons_succ, i64_w, i32_w]
             rfl)
           | (
            refine pure_ (i := 30) (N := some 51) (v := undef) (a' := ?_) (bm 47 2147483647) rfl rfl (any_of HT_.out (by kernel_rfl)) (fun _ _ _ h => h) (Or.inr ⟨rfl, rfl⟩) ?_ ?_
            rotate_left
            ·simp only [Act.put, List.setIfInBounds_toArray, List.set_cons_zero, List.set_cons_succ, i64_w, i32_w]
             rfl)
          first
           | (
            refine one_ (i := 31) (N := some 52) (bm 47 4294967295) rfl rfl (one_of HT_.out (by kernel_rfl)) (by decide) (fun K hK => ?_)
            refine goes_ Try.func94 (by kernel_rfl) rfl #[.agg #[.slice A0_0 l0_0.length c0_0, .slice A0_1 l0_1.length c0_1, .slice A0_2 l0_2.length c0_2, .slice (some ad143) l0_3.length c0_3], .string ((rd_T108 l0_3 x3_1).f1)] rfl rfl rfl m3_ ?_
            with_reducible refine (spec_l2Place.calls k1 _ _ l0_0 _ _ l0_1 _ _ l0_2 _ _ l0_3 ((rd_T108 l0_3 x3_1).f1) _ _ ?side1 ?side2 ?side3 ?side4 ?side5 ?side6 ?side7 ?side8 (Aside0.out (by assumption))).mono ?_
            (case side1 => exact (by repeat (first | exact (Kd.C_below HR0_0.out m14_) | (with_reducible refine Kd.C_alloc ?_ _) | (with_reducible refine Kd.C_drewN ?_ _) | (with_reducible refine Kd.C_drew ?_))))
            (case side2 => exact HC0_0.out)
            (case side3 => exact (by repeat (first | exact (Kd.C_below HR0_1.out m14_) | (with_reducible refine Kd.C_alloc ?_ _) | (with_reducible refine Kd.C_drewN ?_ _) | (with_reducible refine Kd.C_drew ?_))))
            (case side4 => exact HC0_1.out)
            (case side5 => exact (by repeat (first | exact (Kd.C_below HR0_2.out m14_) | (with_reducible refine Kd.C_alloc ?_ _) | (with_reducible refine Kd.C_drewN ?_ _) | (with_reducible refine Kd.C_drew ?_))))
            (case side6 => exact HC0_2.out)
            (case side7 => exact (by repeat (first | exact (Kd.C_below HR0_3.out m14_) | (with_reducible refine Kd.C_alloc ?_ _) | (with_reducible refine Kd.C_drewN ?_ _) | (with_reducible refine Kd.C_drew ?_))))
            (case side8 => exact HC0_3.out)
            rintro e w57 ⟨rfl, hb⟩
            refine ⟨_, rfl, ?_⟩
            have n0_ := Aside0.mk (blk_below (g := gb142) (o := .cells #[.slice A0_0 l0_0.length c0_0, .slice A0_1 l0_1.length c0_1, .slice A0_2 l0_2.length c0_2, .slice (some ad143) l0_3.length c0_3] 34 (0, 0)) m50_ hb)
            have n1_ := Aside0.mk (blk_below (g := gb144) (o := .cells #[.string ((rd_T108 l0_3 x3_1).f0), .string ((rd_T108 l0_3 x3_1).f1), .string ((rd_T108 l0_3 x3_1).f2), .string ((rd_T108 l0_3 x3_1).f3)] 108 (0, 0)) m84_ hb)
            have n2_ := Aside0.mk (below_step m14_ hb)
            clear BK142
            clear BK144
            clear HB
            have BK142 := n0_
            have BK144 := n1_
            have HB := n2_
            clear n0_ n1_ n2_
            (try clear hb)
            (try clear hb2)
            (try clear hk)
            (try clear hi)
            refine hK.out _ _ ⟨(blk_cell BK144.out 0).trans rfl, (blk_cell BK144.out 1).trans rfl, (blk_cell BK144.out 2).trans rfl, (blk_cell BK144.out 3).trans rfl, (blk_cell BK142.out 0).trans rfl, (blk_cell BK142.out 1).trans rfl, (blk_cell BK142.out 2).trans rfl, (blk_cell BK142.out 3).trans rfl⟩ (fun hHeld => ?_)
            clear hK K
            refine norm_ (a' := ?_) ?_ ?_
            rotate_left
            ·show Act.put _ (some 52) _ = _
             simp only [Act.put, List.setIfInBounds_toArray, List.set_cons_zero, List.set_cons_succ, i64_w, i32_w]
             rfl)
           | (
            refine pure_ (i := 31) (N := some 52) (v := undef) (a' := ?_) (bm 47 4294967295) rfl rfl (any_of HT_.out (by kernel_rfl)) (fun _ _ _ h => h) (Or.inr ⟨rfl, rfl⟩) ?_ ?_
            rotate_left
            ·simp only [Act.put, List.setIfInBounds_toArray, List.set_cons_zero, List.set_cons_succ, i64_w, i32_w]
             rfl)
          first
           | (
            refine pure_ (i := 32) (N := some 53) (v := ?_) (a' := ?_) (bm 47 8589934591) rfl rfl (any_of HT_.out (by kernel_rfl)) (fun _ _ _ h => h) (Or.inl ⟨rfl, ?_⟩) ?_ ?_
            rotate_left
            ·intro w'
             go_simp
             with_reducible rfl
            rotate_left
            ·simp only [Act.put, List.setIfInBounds_toArray, List.set_cons_zero, List.set_cons_succ, i64_w, i32_w]
             rfl)
           | (
            refine pure_ (i := 32) (N := some 53) (v := undef) (a' := ?_) (bm 47 8589934591) rfl rfl (any_of HT_.out (by kernel_rfl)) (fun _ _ _ h => h) (Or.inr ⟨rfl, rfl⟩) ?_ ?_
            rotate_left
            ·simp only [Act.put, List.setIfInBounds_toArray, List.set_cons_zero, List.set_cons_succ, i64_w, i32_w]
             rfl)
          refine pure_ (i := 33) (N := some 54) (v := ?_) (a' := ?_) (bm 47 17179869183) rfl rfl (any_of HT_.out (by kernel_rfl)) (fun _ _ _ h => h) (Or.inl ⟨(by rfl), ?_⟩) ?_ ?_; rotate_left; intro w'; go_simp; with_reducible rfl; rotate_left; simp only [Act.put, List.setIfInBounds_toArray, List.set_cons_zero, List.set_cons_succ, i64_w, i32_w]; rfl
          refine pure_ (i := 34) (N := some 55) (v := ?_) (a' := ?_) (bm 47 34359738367) rfl rfl (any_of HT_.out (by kernel_rfl)) (fun _ _ _ h => h) (Or.inl ⟨(by rfl), ?_⟩) ?_ ?_; rotate_left; intro w'; go_simp; with_reducible rfl; rotate_left; simp only [Act.put, List.setIfInBounds_toArray, List.set_cons_zero, List.set_cons_succ, i64_w, i32_w]; rfl
          first
           | (
            refine pure_ (i := 36) (N := some 57) (v := ?_) (a' := ?_) (bm 47 103079215103) rfl rfl (any_of HT_.out (by kernel_rfl)) (fun _ _ _ h => h) (Or.inl ⟨rfl, ?_⟩) ?_ ?_
            rotate_left
            ·intro w'
             go_simp
             with_reducible rfl
            rotate_left
            ·simp only [Act.put, List.setIfInBounds_toArray, List.set_cons_zero, List.set_cons_succ, i64_w, i32_w]
             rfl)
           | (
            refine pure_ (i := 36) (N := some 57) (v := undef) (a' := ?_) (bm 47 103079215103) rfl rfl (any_of HT_.out (by kernel_rfl)) (fun _ _ _ h => h) (Or.inr ⟨rfl, rfl⟩) ?_ ?_
            rotate_left
            ·simp only [Act.put, List.setIfInBounds_toArray, List.set_cons_zero, List.set_cons_succ, i64_w, i32_w]
             rfl)
          first
           | (
            refine take_ (i := 35) (N := some 56) (v := ?_) (a' := ?_) (bm 47 137438953471) rfl rfl (take_ofW HT_.out HW_.out (by kernel_rfl)) (fun _ _ _ h => h) (Or.inl ⟨rfl, ?_⟩) hHeld ?_ ?_
            rotate_left
            ·rintro w' ⟨s0, s1, s2, s3, s4, s5, s6, s7⟩
             go_simp
             with_reducible rfl
            rotate_left
            ·simp only [Act.put, List.setIfInBounds_toArray, List.set_cons_zero, List.set_cons_succ, i64_w, i32_w]
             rfl)
           | (
            refine pure_ (i := 35) (N := some 56) (v := undef) (a' := ?_) (bm 47 137438953471) rfl rfl (any_of HT_.out (by kernel_rfl)) (fun _ _ _ h => h) (Or.inr ⟨rfl, rfl⟩) ?_ ?_
            rotate_left
            ·simp only [Act.put, List.setIfInBounds_toArray, List.set_cons_zero, List.set_cons_succ, i64_w, i32_w]
             rfl)
          first
           | (
            refine take_ (i := 37) (N := some 58) (v := ?_) (a' := ?_) (bm 47 274877906943) rfl rfl (take_ofW HT_.out HW_.out (by kernel_rfl)) (fun _ _ _ h => h) (Or.inl ⟨rfl, ?_⟩) hHeld ?_ ?_
            rotate_left
            ·rintro w' ⟨s0, s1, s2, s3, s4, s5, s6, s7⟩
             go_simp
             with_reducible rfl
            rotate_left
            ·simp only [Act.put, List.setIfInBounds_toArray, List.set_cons_zero, List.set_cons_succ, i64_w, i32_w]
             rfl)
           | (
            refine pure_ (i := 37) (N := some 58) (v := undef) (a' := ?_) (bm 47 274877906943) rfl rfl (any_of HT_.out (by kernel_rfl)) (fun _ _ _ h => h) (Or.inr ⟨rfl, rfl⟩) ?_ ?_
            rotate_left
            ·simp only [Act.put, List.setIfInBounds_toArray, List.set_cons_zero, List.set_cons_succ, i64_w, i32_w]
             rfl)
          first
           | (
            refine one_ (i := 38) (N := some 59) (bm 47 549755813887) rfl rfl (one_of HT_.out (by kernel_rfl)) (by decide) (fun K hK => ?_)
            refine goes_ Try.func94 (by kernel_rfl) rfl #[.agg #[.slice A0_0 l0_0.length c0_0, .slice A0_1 l0_1.length c0_1, .slice A0_2 l0_2.length c0_2, .slice (some ad143) l0_3.length c0_3], .string ((rd_T108 l0_3 x3_1).f2)] rfl rfl rfl m3_ ?_
            with_reducible refine (spec_l2Place.calls k1 _ _ l0_0 _ _ l0_1 _ _ l0_2 _ _ l0_3 ((rd_T108 l0_3 x3_1).f2) _ _ ?side1 ?side2 ?side3 ?side4 ?side5 ?side6 ?side7 ?side8 (Aside0.out (by assumption))).mono ?_
            (case side1 => exact m7_)
            (case side2 => exact HC0_0.out)
            (case side3 => exact m21_)
            (case side4 => exact HC0_1.out)
            (case side5 => exact m13_)
            (case side6 => exact HC0_2.out)
            (case side7 => exact m19_)
            (case side8 => exact HC0_3.out)
            rintro e w58 ⟨rfl, hb⟩
            refine ⟨_, rfl, ?_⟩
            have n0_ := Aside0.mk (blk_below (g := gb142) (o := .cells #[.slice A0_0 l0_0.length c0_0, .slice A0_1 l0_1.length c0_1, .slice A0_2 l0_2.length c0_2, .slice (some ad143) l0_3.length c0_3] 34 (0, 0)) m50_ hb)
            have n1_ := Aside0.mk (blk_below (g := gb144) (o := .cells #[.string ((rd_T108 l0_3 x3_1).f0), .string ((rd_T108 l0_3 x3_1).f1), .string ((rd_T108 l0_3 x3_1).f2), .string ((rd_T108 l0_3 x3_1).f3)] 108 (0, 0)) m84_ hb)
            have n2_ := Aside0.mk (below_step m14_ hb)
            clear BK142
            clear BK144
            clear HB
            have BK142 := n0_
            have BK144 := n1_
            have HB := n2_
            clear n0_ n1_ n2_
            (try clear hb)
            (try clear hb2)
            (try clear hk)
            (try clear hi)
            refine hK.out _ _ ⟨(blk_cell BK144.out 0).trans rfl, (blk_cell BK144.out 1).trans rfl, (blk_cell BK144.out 2).trans rfl, (blk_cell BK144.out 3).trans rfl, (blk_cell BK142.out 0).trans rfl, (blk_cell BK142.out 1).trans rfl, (blk_cell BK142.out 2).trans rfl, (blk_cell BK142.out 3).trans rfl⟩ (fun hHeld => ?_)
            clear hK K
            refine norm_ (a' := ?_) ?_ ?_
            rotate_left
            ·show Act.put _ (some 59) _ = _
             simp only [Act.put, List.setIfInBounds_toArray, List.set_cons_zero, List.set_cons_succ, i64_w, i32_w]
             rfl)
           | (
            refine pure_ (i := 38) (N := some 59) (v := undef) (a' := ?_) (bm 47 549755813887) rfl rfl (any_of HT_.out (by kernel_rfl)) (fun _ _ _ h => h) (Or.inr ⟨rfl, rfl⟩) ?_ ?_
            rotate_left
            ·simp only [Act.put, List.setIfInBounds_toArray, List.set_cons_zero, List.set_cons_succ, i64_w, i32_w]
             rfl)
          first
           | (
            refine pure_ (i := 39) (N := some 60) (v := ?_) (a' := ?_) (bm 47 1099511627775) rfl rfl (any_of HT_.out (by kernel_rfl)) (fun _ _ _ h => h) (Or.inl ⟨rfl, ?_⟩) ?_ ?_
            rotate_left
            ·intro w'
             go_simp
             with_reducible rfl
            rotate_left
            ·simp only [Act.put, List.setIfInBounds_toArray, List.set_cons_zero, List.set_cons_succ, i64_w, i32_w]
             rfl)
           | (
            refine pure_ (i := 39) (N := some 60) (v := undef) (a' := ?_) (bm 47 1099511627775) rfl rfl (any_of HT_.out (by kernel_rfl)) (fun _ _ _ h => h) (Or.inr ⟨rfl, rfl⟩) ?_ ?_
            rotate_left
            ·simp only [Act.put, List.setIfInBounds_toArray, List.set_cons_zero, List.set_cons_succ, i64_w, i32_w]
             rfl)
          refine pure_ (i := 40) (N := some 61) (v := ?_) (a' := ?_) (bm 47 2199023255551) rfl rfl (any_of HT_.out (by kernel_rfl)) (fun _ _ _ h => h) (Or.inl ⟨(by rfl), ?_⟩) ?_ ?_; rotate_left; intro w'; go_simp; with_reducible rfl; rotate_left; simp only [Act.put, List.setIfInBounds_toArray, List.set_cons_zero, List.set_cons_succ, i64_w, i32_w]; rfl
          refine pure_ (i := 41) (N := some 62) (v := ?_) (a' := ?_) (bm 47 4398046511103) rfl rfl (any_of HT_.out (by kernel_rfl)) (fun _ _ _ h => h) (Or.inl ⟨(by rfl), ?_⟩) ?_ ?_; rotate_left; intro w'; go_simp; with_reducible rfl; rotate_left; simp only [Act.put, List.setIfInBounds_toArray, List.set_cons_zero, List.set_cons_succ, i64_w, i32_w]; rfl
          first
           | (
            refine pure_ (i := 42) (N := some 63) (v := ?_) (a' := ?_) (bm 47 8796093022207) rfl rfl (any_of HT_.out (by kernel_rfl)) (fun _ _ _ h => h) (Or.inl ⟨rfl, ?_⟩) ?_ ?_
            rotate_left
            ·intro w'
             go_simp
             with_reducible rfl
            rotate_left
            ·simp only [Act.put, List.setIfInBounds_toArray, List.set_cons_zero, List.set_cons_succ, i64_w, i32_w]
             rfl)
           | (
            refine pure_ (i := 42) (N := some 63) (v := undef) (a' := ?_) (bm 47 8796093022207) rfl rfl (any_of HT_.out (by kernel_rfl)) (fun _ _ _ h => h) (Or.inr ⟨rfl, rfl⟩) ?_ ?_
            rotate_left
            ·simp only [Act.put, List.setIfInBounds_toArray, List.set_cons_zero, List.set_cons_succ, i64_w, i32_w]
             rfl)
          first
           | (
            refine take_ (i := 43) (N := some 64) (v := ?_) (a' := ?_) (bm 47 17592186044415) rfl rfl (take_ofW HT_.out HW_.out (by kernel_rfl)) (fun _ _ _ h => h) (Or.inl ⟨rfl, ?_⟩) hHeld ?_ ?_
            rotate_left
            ·rintro w' ⟨s0, s1, s2, s3, s4, s5, s6, s7⟩
             go_simp
             with_reducible rfl
            rotate_left
            ·simp only [Act.put, List.setIfInBounds_toArray, List.set_cons_zero, List.set_cons_succ, i64_w, i32_w]
             rfl)
           | (
            refine pure_ (i := 43) (N := some 64) (v := undef) (a' := ?_) (bm 47 17592186044415) rfl rfl (any_of HT_.out (by kernel_rfl)) (fun _ _ _ h => h) (Or.inr ⟨rfl, rfl⟩) ?_ ?_
            rotate_left
            ·simp only [Act.put, List.setIfInBounds_toArray, List.set_cons_zero, List.set_cons_succ, i64_w, i32_w]
             rfl)
          first
           | (
            refine one_ (i := 44) (N := some 65) (bm 47 35184372088831) rfl rfl (one_of HT_.out (by kernel_rfl)) (by decide) (fun K hK => ?_)
            refine goes_ Try.func119 (by kernel_rfl) rfl #[.string ((rd_T108 l0_3 x3_1).f3)] rfl rfl rfl m3_ ?_
            with_reducible refine (spec_l2NameOk.calls k1 ((rd_T108 l0_3 x3_1).f3) _ _ (Aside0.out (by assumption))).mono ?_
            rintro e w' ⟨rfl, ⟨nd, rfl⟩⟩
            refine ⟨_, rfl, ?_⟩
            refine hK.out _ _ ⟨(blk_cell BK144.out 0).trans rfl, (blk_cell BK144.out 1).trans rfl, (blk_cell BK144.out 2).trans rfl, (blk_cell BK144.out 3).trans rfl, (blk_cell BK142.out 0).trans rfl, (blk_cell BK142.out 1).trans rfl, (blk_cell BK142.out 2).trans rfl, (blk_cell BK142.out 3).trans rfl⟩ (fun hHeld => ?_)
            clear hK K
            refine norm_ (a' := ?_) ?_ ?_
            rotate_left
            ·show Act.put _ (some 65) _ = _
             simp only [Act.put, List.setIfInBounds_toArray, List.set_cons_zero, List.set_cons_succ, i64_w, i32_w]
             rfl)
           | (
            refine pure_ (i := 44) (N := some 65) (v := undef) (a' := ?_) (bm 47 35184372088831) rfl rfl (any_of HT_.out (by kernel_rfl)) (fun _ _ _ h => h) (Or.inr ⟨rfl, rfl⟩) ?_ ?_
            rotate_left
            ·simp only [Act.put, List.setIfInBounds_toArray, List.set_cons_zero, List.set_cons_succ, i64_w, i32_w]
             rfl)
          first
           | (
            refine pure_ (i := 45) (N := some 66) (v := ?_) (a' := ?_) (bm 47 70368744177663) rfl rfl (any_of HT_.out (by kernel_rfl)) (fun _ _ _ h => h) (Or.inl ⟨rfl, ?_⟩) ?_ ?_
            rotate_left
            ·intro w'
             go_simp
             with_reducible rfl
            rotate_left
            ·simp only [Act.put, List.setIfInBounds_toArray, List.set_cons_zero, List.set_cons_succ, i64_w, i32_w]
             rfl)
           | (
            refine pure_ (i := 45) (N := some 66) (v := undef) (a' := ?_) (bm 47 70368744177663) rfl rfl (any_of HT_.out (by kernel_rfl)) (fun _ _ _ h => h) (Or.inr ⟨rfl, rfl⟩) ?_ ?_
            rotate_left
            ·simp only [Act.put, List.setIfInBounds_toArray, List.set_cons_zero, List.set_cons_succ, i64_w, i32_w]
             rfl)
          refine pure_ (i := 46) (N := some 67) (v := ?_) (a' := ?_) (bm 47 140737488355327) rfl rfl (any_of HT_.out (by kernel_rfl)) (fun _ _ _ h => h) (Or.inl ⟨(by rfl), ?_⟩) ?_ ?_; rotate_left; intro w'; go_simp; with_reducible rfl; rotate_left; simp only [Act.put, List.setIfInBounds_toArray, List.set_cons_zero, List.set_cons_succ, i64_w, i32_w]; rfl
          refine done_ (done_of HT_.out (by kernel_rfl)) ?_
          try go_wp2
          go_meet
          case rel => exact ⟨_, _, m8_, H', ⟨m82_⟩, ⟨m50_⟩, ⟨m84_⟩, ⟨m14_⟩⟩)
      case rest =>
       clear HC9
       try clear c1
       try clear p2
       try clear c11
       try clear c15
       obtain ⟨kq, x67_8, rfl, HA, HJ8, BK142, BK144, HB⟩ := hcut
       cases kq with
       | zero => exact absurd HA.out (by simp [spec_l2ValvesOk.j1])
       | succ kj8 =>
        have H := HA.out
        clear HA
        simp only [spec_l2ValvesOk.j1] at H
        by_cases c63 : x67_8 = true
        ·subst c63
         have H1 : (some false) = some r := by rw [if_pos rfl] at H; exact H
         clear H
         have H := H1
         clear H1
         obtain rfl := Option.some.inj H
         go_wp2
         go_ret
         exact ⟨m6_, m14_⟩
        ·replace c63 := Bool.eq_false_iff.mpr c63
         subst c63
         have H1 : (spec_l2ValvesOk.l0 kj8 (wrap64 (x3_1 + 1)) l0_0 l0_1 l0_2 l0_3) = some r := by rw [if_neg (show ¬ (false = true) by decide)] at H; exact H
         clear H
         have H := H1
         clear H1
         have H' := Aside0.mk H
         clear H
         go_wp2
         go_roundg kj8
         case measure => have := HK1.out; have := HJ8.out; omega
         case rel => exact ⟨(wrap64 (x3_1 + 1)), m8_, H', ⟨(by have := HK1.out; have := HJ8.out; omega)⟩, ⟨m50_⟩, ⟨m14_⟩⟩
     ·rw [if_neg c8] at H
      exact absurd H (by simp)
    ·rw [if_neg c7] at H
     have c7b0 : decide (x3_1 < (l0_3.length : Int)) = false := decide_eq_false c7
     clear c7
     obtain rfl := Option.some.inj H
     obtain ⟨hcz64_0, hcz64_1, hcz64_2, hcz64_3⟩ := cz4_ BK142.out
     obtain ⟨hfz64_0, hfz64_1, hfz64_2, hfz64_3⟩ := fz4_ BK142.out
     go_wp2
     go_ret
     exact ⟨m6_, m73_⟩

end Go.Proofs.Ytpildfacenlceaa.QFnExactPlantValid
