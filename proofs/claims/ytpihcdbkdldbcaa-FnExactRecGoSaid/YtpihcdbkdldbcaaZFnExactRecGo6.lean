/- Laid by a program of this session: the texts of one law, joined, without what it does not come to. -/
import Derived.Test.YtpihcdbkdldbcaaZFnExactRecGo5
namespace Go.Proofs.Ytpihcdbkdldbcaa.QFnExactRecGo
open Go.RowKit Go.Proofs.YtpihcdbkdldbcaaW.PrintWords Go.Proofs.YtpihcdbkdldbcaaW.PrintLast Go.Proofs.YtpihcdbkdldbcaaW.PrintMore
attribute [local go_sem] str_geq str_gtr str_leq max2_int min2_int max_two min_two max_three min_three max_four min_four   -- for this text's walks alone
set_option linter.unusedVariables false
set_option linter.unusedSimpArgs false
mutual
def impl_RecGo.j0 : Nat → List (S44) → Bool → ByteArray → Int → Int → Int → Bool → Option (ByteArray × Int × Int × Bool)
 | 0, _, _, _, _, _, _, _ => none
 | k + 1, x0, x31, x224000, x224001, x224002, x225000, x225001 => if x31 = true then (some (x224000, x224001, x224002, false)) else ((impl_phase.f k x0 x224000).bind fun t228 => (if 0 ≤ t228 then (if t228 < (x0.length : Int) then (if x225001 = true then (impl_RecGo.j1 k x0 (mx 0 x225000) x225001 (((rd_T44 x0 t228).f1) == 3) x224000 x224001 x224002 ((rd_T44 x0 t228).f0) ((rd_T44 x0 t228).f1) ((rd_T44 x0 t228).f2) ((rd_T44 x0 t228).f3) ((rd_T44 x0 t228).f4) ((rd_T44 x0 t228).f5) ((rd_T44 x0 t228).f6) ((rd_T44 x0 t228).f7)) else (impl_RecGo.j1 k x0 (mx 0 x225000) x225001 false x224000 x224001 x224002 ((rd_T44 x0 t228).f0) ((rd_T44 x0 t228).f1) ((rd_T44 x0 t228).f2) ((rd_T44 x0 t228).f3) ((rd_T44 x0 t228).f4) ((rd_T44 x0 t228).f5) ((rd_T44 x0 t228).f6) ((rd_T44 x0 t228).f7))) else (none)) else (none)))
def impl_RecGo.j1 : Nat → List (S44) → Int → Bool → Bool → ByteArray → Int → Int → ByteArray → Int → ByteArray → ByteArray → Int → Int → ByteArray → ByteArray → Option (ByteArray × Int × Int × Bool)
 | 0, _, _, _, _, _, _, _, _, _, _, _, _, _, _, _ => none
 | k + 1, x0, x9, x10, x50, x224000, x224001, x224002, x231000, x231001, x231002, x231003, x231004, x231005, x231006, x231007 => if x50 = true then (impl_RecGo.j2 k x0 (mx x9 x231004) x10 x224000 x224001 x224002 x231000 x231001 x231002 x231003 x231004 x231005 x231006 x231007) else (impl_RecGo.j2 k x0 x9 x10 x224000 x224001 x224002 x231000 x231001 x231002 x231003 x231004 x231005 x231006 x231007)
def impl_RecGo.j2 : Nat → List (S44) → Int → Bool → ByteArray → Int → Int → ByteArray → Int → ByteArray → ByteArray → Int → Int → ByteArray → ByteArray → Option (ByteArray × Int × Int × Bool)
 | 0, _, _, _, _, _, _, _, _, _, _, _, _, _, _ => none
 | k + 1, x0, x9, x10, x224000, x224001, x224002, x231000, x231001, x231002, x231003, x231004, x231005, x231006, x231007 => if x9 > x231005 then ((impl_bound.f k x0 x231007).bind fun t231 => (some (x231007, wrap64 (x224001 + x231005), t231, true))) else (if x10 = true then ((impl_bound.f k x0 x231006).bind fun t232 => (some (x231006, wrap64 (x224001 + x9), t232, true))) else ((impl_bound.f k x0 x231007).bind fun t233 => (some (x231007, wrap64 (x224001 + x9), t233, true))))
end
def impl_RecGo.f (k : Nat) (l0 : List (S44)) (a1_0 : ByteArray) (a1_1 : Int) (a1_2 : Int) (a2_0 : Int) (a2_1 : Bool) : Option (ByteArray × Int × Int × Bool) := (impl_RecOk.f k l0).bind fun t226 => (if t226 = true then ((impl_phase.f k l0 a1_0).bind fun t227 => (if t227 < 0 then (impl_RecGo.j0 k l0 true a1_0 a1_1 a1_2 a2_0 a2_1) else (if a1_1 < 0 then (impl_RecGo.j0 k l0 true a1_0 a1_1 a1_2 a2_0 a2_1) else (impl_RecGo.j0 k l0 (decide (a1_1 > 12000)) a1_0 a1_1 a1_2 a2_0 a2_1)))) else (impl_RecGo.j0 k l0 true a1_0 a1_1 a1_2 a2_0 a2_1))
theorem impl_RecGo.mono_l : ∀ k, (∀ y0 y1 y2 y3 y4 y5 y6, LeO (impl_RecGo.j0 k y0 y1 y2 y3 y4 y5 y6) (impl_RecGo.j0 (k + 1) y0 y1 y2 y3 y4 y5 y6)) ∧ (∀ y0 y1 y2 y3 y4 y5 y6 y7 y8 y9 y10 y11 y12 y13 y14, LeO (impl_RecGo.j1 k y0 y1 y2 y3 y4 y5 y6 y7 y8 y9 y10 y11 y12 y13 y14) (impl_RecGo.j1 (k + 1) y0 y1 y2 y3 y4 y5 y6 y7 y8 y9 y10 y11 y12 y13 y14)) ∧ (∀ y0 y1 y2 y3 y4 y5 y6 y7 y8 y9 y10 y11 y12 y13, LeO (impl_RecGo.j2 k y0 y1 y2 y3 y4 y5 y6 y7 y8 y9 y10 y11 y12 y13) (impl_RecGo.j2 (k + 1) y0 y1 y2 y3 y4 y5 y6 y7 y8 y9 y10 y11 y12 y13))
 | 0 => ⟨fun _ _ _ _ _ _ _ r h => by simp [impl_RecGo.j0] at h, fun _ _ _ _ _ _ _ _ _ _ _ _ _ _ _ r h => by simp [impl_RecGo.j1] at h, fun _ _ _ _ _ _ _ _ _ _ _ _ _ _ r h => by simp [impl_RecGo.j2] at h⟩
 | k + 1 => by
  obtain ⟨ih0, ih1, ih2⟩ := impl_RecGo.mono_l k
  refine ⟨?_, ?_, ?_⟩
  ·intro y0 y1 y2 y3 y4 y5 y6
   unfold impl_RecGo.j0
   repeat' first
   | (with_reducible exact ih0 _ _ _ _ _ _ _)
   | (with_reducible exact ih1 _ _ _ _ _ _ _ _ _ _ _ _ _ _ _)
   | (with_reducible exact ih2 _ _ _ _ _ _ _ _ _ _ _ _ _ _)
   | (with_reducible exact impl_RecOk.mono _ _)
   | (with_reducible exact impl_bound.mono _ _ _)
   | (with_reducible exact impl_phase.mono _ _ _)
   | (with_reducible exact LeO.refl _)
   | (with_reducible exact LeO.none _)
   | (with_reducible refine LeO.ite ?_ ?_)
   | (with_reducible refine LeO.bind ?_ (fun _ => ?_))
   | exact ih0 _ _ _ _ _ _ _
   | exact ih1 _ _ _ _ _ _ _ _ _ _ _ _ _ _ _
   | exact ih2 _ _ _ _ _ _ _ _ _ _ _ _ _ _
   | exact impl_RecOk.mono _ _
   | exact impl_bound.mono _ _ _
   | exact impl_phase.mono _ _ _
   | exact LeO.none _
   | refine LeO.ite ?_ ?_
   | refine LeO.bind ?_ (fun _ => ?_)
  ·intro y0 y1 y2 y3 y4 y5 y6 y7 y8 y9 y10 y11 y12 y13 y14
   unfold impl_RecGo.j1
   repeat' first
   | (with_reducible exact ih0 _ _ _ _ _ _ _)
   | (with_reducible exact ih1 _ _ _ _ _ _ _ _ _ _ _ _ _ _ _)
   | (with_reducible exact ih2 _ _ _ _ _ _ _ _ _ _ _ _ _ _)
   | (with_reducible exact impl_RecOk.mono _ _)
   | (with_reducible exact impl_bound.mono _ _ _)
   | (with_reducible exact impl_phase.mono _ _ _)
   | (with_reducible exact LeO.refl _)
   | (with_reducible exact LeO.none _)
   | (with_reducible refine LeO.ite ?_ ?_)
   | (with_reducible refine LeO.bind ?_ (fun _ => ?_))
   | exact ih0 _ _ _ _ _ _ _
   | exact ih1 _ _ _ _ _ _ _ _ _ _ _ _ _ _ _
   | exact ih2 _ _ _ _ _ _ _ _ _ _ _ _ _ _
   | exact impl_RecOk.mono _ _
   | exact impl_bound.mono _ _ _
   | exact impl_phase.mono _ _ _
   | exact LeO.none _
   | refine LeO.ite ?_ ?_
   | refine LeO.bind ?_ (fun _ => ?_)
  ·intro y0 y1 y2 y3 y4 y5 y6 y7 y8 y9 y10 y11 y12 y13
   unfold impl_RecGo.j2
   repeat' first
   | (with_reducible exact ih0 _ _ _ _ _ _ _)
   | (with_reducible exact ih1 _ _ _ _ _ _ _ _ _ _ _ _ _ _ _)
   | (with_reducible exact ih2 _ _ _ _ _ _ _ _ _ _ _ _ _ _)
   | (with_reducible exact impl_RecOk.mono _ _)
   | (with_reducible exact impl_bound.mono _ _ _)
   | (with_reducible exact impl_phase.mono _ _ _)
   | (with_reducible exact LeO.refl _)
   | (with_reducible exact LeO.none _)
   | (with_reducible refine LeO.ite ?_ ?_)
   | (with_reducible refine LeO.bind ?_ (fun _ => ?_))
   | exact ih0 _ _ _ _ _ _ _
   | exact ih1 _ _ _ _ _ _ _ _ _ _ _ _ _ _ _
   | exact ih2 _ _ _ _ _ _ _ _ _ _ _ _ _ _
   | exact impl_RecOk.mono _ _
   | exact impl_bound.mono _ _ _
   | exact impl_phase.mono _ _ _
   | exact LeO.none _
   | refine LeO.ite ?_ ?_
   | refine LeO.bind ?_ (fun _ => ?_)
theorem impl_RecGo.mono : ∀ a0 a1 a2 a3 a4 a5 k, LeO (impl_RecGo.f k a0 a1 a2 a3 a4 a5) (impl_RecGo.f (k + 1) a0 a1 a2 a3 a4 a5) := by
 intro a0 a1 a2 a3 a4 a5 k
 obtain ⟨ih0, ih1, ih2⟩ := impl_RecGo.mono_l k
 unfold impl_RecGo.f
 repeat' first
   | (with_reducible exact ih0 _ _ _ _ _ _ _)
   | (with_reducible exact ih1 _ _ _ _ _ _ _ _ _ _ _ _ _ _ _)
   | (with_reducible exact ih2 _ _ _ _ _ _ _ _ _ _ _ _ _ _)
   | (with_reducible exact impl_RecOk.mono _ _)
   | (with_reducible exact impl_bound.mono _ _ _)
   | (with_reducible exact impl_phase.mono _ _ _)
   | (with_reducible exact LeO.refl _)
   | (with_reducible exact LeO.none _)
   | (with_reducible refine LeO.ite ?_ ?_)
   | (with_reducible refine LeO.bind ?_ (fun _ => ?_))
   | exact ih0 _ _ _ _ _ _ _
   | exact ih1 _ _ _ _ _ _ _ _ _ _ _ _ _ _ _
   | exact ih2 _ _ _ _ _ _ _ _ _ _ _ _ _ _
   | exact impl_RecOk.mono _ _
   | exact impl_bound.mono _ _ _
   | exact impl_phase.mono _ _ _
   | exact LeO.none _
   | refine LeO.ite ?_ ?_
   | refine LeO.bind ?_ (fun _ => ?_)
def impl_RecGo.T12 : Bool × List (List Nat × List Nat) := (true, [([], []), ([], []), ([1], [1]), ([], []), ([2, 3], [2, 3]), ([], []), ([], []), ([5, 6], [5, 6]), ([0, 4, 7], [0, 4, 7]), ([8, 7, 0, 1, 2, 3, 4, 5, 6, 7, 8], [8]), ([9, 0, 1, 2, 3, 4, 5, 6, 7, 8, 9], [])])
def impl_RecGo.B12 : List Nat := [0, 0, 2, 0, 14, 0, 0, 96, 255, 511, 1023]
theorem impl_RecGo.tab12 : rtab .any (opsOf Try.f13 12) = impl_RecGo.T12 := by kernel_rfl
theorem impl_RecGo.bits12 : waitsOk impl_RecGo.T12.2 impl_RecGo.B12 = true := by kernel_rfl
set_option maxHeartbeats 8000000 in
set_option maxRecDepth 100000 in
theorem impl_RecGo.calls (k : Nat) (A0 : Option Addr) (c0 : Nat) (l0 : List (S44)) (a1_0 : ByteArray) (a1_1 : Int) (a1_2 : Int) (a2_0 : Int) (a2_1 : Bool) (r1 : ByteArray) (r2 : Int) (r3 : Int) (r4 : Bool) (w : World) (hr0 : Kd.C k44 w A0 l0.length l0) (hc0 : l0.length ≤ c0) (h : impl_RecGo.f k l0 a1_0 a1_1 a1_2 a2_0 a2_1 = some (r1, r2, r3, r4)) :
  Calls Try.prog 13 #[.slice A0 l0.length c0, .agg #[.string a1_0, .int .i64 a1_1, .int .i64 a1_2], .agg #[.int .i64 a2_0, .bool a2_1]] w fun e w' => e = .returned (.tuple #[.agg #[.string r1, .int .i64 r2, .int .i64 r3], .bool r4]) ∧ Below w.heap.size w w' := by
 have hu29 := Try.underlying29
 have hu35 := Try.underlying35
 have hu44 := Try.underlying44
 have HR0 := Aside0.mk hr0
 have HC0 := Aside0.mk hc0
 clear hr0 hc0
 have HB := Aside0.mk (Below.refl w.heap.size w)
 have H : ((impl_RecOk.f k l0).bind fun t226 => (if t226 = true then ((impl_phase.f k l0 a1_0).bind fun t227 => (if t227 < 0 then (impl_RecGo.j0 k l0 true a1_0 a1_1 a1_2 a2_0 a2_1) else (if a1_1 < 0 then (impl_RecGo.j0 k l0 true a1_0 a1_1 a1_2 a2_0 a2_1) else (impl_RecGo.j0 k l0 (decide (a1_1 > 12000)) a1_0 a1_1 a1_2 a2_0 a2_1)))) else (impl_RecGo.j0 k l0 true a1_0 a1_1 a1_2 a2_0 a2_1))) = some (r1, r2, r3, r4) := h
 clear h
 have HC4 := Aside0.mk H
 clear H
 go_enter Try.func13, Try.ntmps13
 go_upto_region 1 with (first | ((with_reducible refine gate_dst (N := 4) rfl ?_); refine box_event ?hg (N := 4) ?hd (cs := #[.string a1_0, .int .i64 a1_1, .int .i64 a1_2]) (t := 29) ?hr ?_; (case hd => rfl); (case hg => rfl); (case hr => first | (go_simp; done) | (go_simp; rfl)); intro gb223 hg w5 hbox hb; have n0_ := Aside0.mk (below_step m0_ hb); have n1_ := Aside0.mk (hbox); have n2_ := Aside0.mk ((by rw [hg]; exact (below_size m0_) : w.heap.size ≤ gb223)); have n3_ := Aside0.mk ((by rw [hg]; exact (below_size m0_) : w.heap.size ≤ gb223)); clear HB; have HB := n0_; have BK223 := n1_; have GW223 := n2_; have GE223 := n3_; clear n0_ n1_ n2_ n3_; clear hb hbox hg) | ((with_reducible refine gate_dst (N := 5) rfl ?_); refine box_event ?hg (N := 5) ?hd (cs := #[.int .i64 a2_0, .bool a2_1]) (t := 35) ?hr ?_; (case hd => rfl); (case hg => rfl); (case hr => first | (go_simp; done) | (go_simp; rfl)); intro gb224 hg w6 hbox hb; have n0_ := Aside0.mk (blk_below (g := gb223) (o := .cells #[.string a1_0, .int .i64 a1_1, .int .i64 a1_2] 29 (0, 0)) m16_ hb); have n1_ := Aside0.mk (below_step m71_ hb); have n2_ := Aside0.mk (hbox); have n3_ := Aside0.mk ((by rw [hg]; exact (below_size m71_) : w.heap.size ≤ gb224)); have n4_ := Aside0.mk ((by rw [hg]; exact (below_size m71_) : w.heap.size ≤ gb224)); have n5_ := Aside0.mk ((by rw [hg]; exact Nat.ne_of_lt (blk_lt (g := gb223) (o := .cells #[.string a1_0, .int .i64 a1_1, .int .i64 a1_2] 29 (0, 0)) m16_) : gb223 ≠ gb224)); have n6_ := Aside0.mk ((by rw [hg]; exact Nat.ne_of_gt (blk_lt (g := gb223) (o := .cells #[.string a1_0, .int .i64 a1_1, .int .i64 a1_2] 29 (0, 0)) m16_) : gb224 ≠ gb223)); clear BK223; clear HB; have BK223 := n0_; have HB := n1_; have BK224 := n2_; have GW224 := n3_; have GE224 := n4_; have NB223_224 := n5_; have NB224_223 := n6_; clear n0_ n1_ n2_ n3_ n4_ n5_ n6_; clear hb hbox hg) | ((with_reducible refine gate_dst (N := 6) rfl ?_); refine box_event ?hg (N := 6) ?hd (cs := #[.string (⟨#[]⟩ : ByteArray), .int .i64 0, .int .i64 0]) (t := 29) ?hr ?_; (case hd => rfl); (case hg => rfl); (case hr => first | (go_simp; done) | (go_simp; rfl)); intro gb225 hg w7 hbox hb; have n0_ := Aside0.mk (blk_below (g := gb223) (o := .cells #[.string a1_0, .int .i64 a1_1, .int .i64 a1_2] 29 (0, 0)) m16_ hb); have n1_ := Aside0.mk (blk_below (g := gb224) (o := .cells #[.int .i64 a2_0, .bool a2_1] 35 (0, 0)) m22_ hb); have n2_ := Aside0.mk (below_step m62_ hb); have n3_ := Aside0.mk (hbox); have n4_ := Aside0.mk ((by rw [hg]; exact (below_size m62_) : w.heap.size ≤ gb225)); have n5_ := Aside0.mk ((by rw [hg]; exact (below_size m62_) : w.heap.size ≤ gb225)); have n6_ := Aside0.mk ((by rw [hg]; exact Nat.ne_of_lt (blk_lt (g := gb223) (o := .cells #[.string a1_0, .int .i64 a1_1, .int .i64 a1_2] 29 (0, 0)) m16_) : gb223 ≠ gb225)); have n7_ := Aside0.mk ((by rw [hg]; exact Nat.ne_of_gt (blk_lt (g := gb223) (o := .cells #[.string a1_0, .int .i64 a1_1, .int .i64 a1_2] 29 (0, 0)) m16_) : gb225 ≠ gb223)); have n8_ := Aside0.mk ((by rw [hg]; exact Nat.ne_of_lt (blk_lt (g := gb224) (o := .cells #[.int .i64 a2_0, .bool a2_1] 35 (0, 0)) m22_) : gb224 ≠ gb225)); have n9_ := Aside0.mk ((by rw [hg]; exact Nat.ne_of_gt (blk_lt (g := gb224) (o := .cells #[.int .i64 a2_0, .bool a2_1] 35 (0, 0)) m22_) : gb225 ≠ gb224)); clear BK223; clear BK224; clear HB; have BK223 := n0_; have BK224 := n1_; have HB := n2_; have BK225 := n3_; have GW225 := n4_; have GE225 := n5_; have NB223_225 := n6_; have NB225_223 := n7_; have NB224_225 := n8_; have NB225_224 := n9_; clear n0_ n1_ n2_ n3_ n4_ n5_ n6_ n7_ n8_ n9_; clear hb hbox hg))
 (try simp only [Act.put, List.setIfInBounds_toArray, List.set_cons_zero, List.set_cons_succ])
 go_cut [31] (fun v31 wc => ∃ (kq : Nat) (x31_3 : Bool), v31 = .bool x31_3 ∧ Aside0 (impl_RecGo.j0 kq l0 x31_3 a1_0 a1_1 a1_2 a2_0 a2_1 = some (r1, r2, r3, r4)) ∧ Aside0 (kq ≤ k) ∧ Aside0 (wc.heap[gb223]? = some (.cells #[.string a1_0, .int .i64 a1_1, .int .i64 a1_2] 29 (0, 0))) ∧ Aside0 (wc.heap[gb224]? = some (.cells #[.int .i64 a2_0, .bool a2_1] 35 (0, 0))) ∧ Aside0 (wc.heap[gb225]? = some (.cells #[.string (⟨#[]⟩ : ByteArray), .int .i64 0, .int .i64 0] 29 (0, 0))) ∧ Aside0 (Below w.heap.size w wc))
 case first =>
  have H := HC4.out
  clear HC4
  replace H := Option.bind_eq_some_iff.mp H
  obtain ⟨t226, A80, H⟩ := H
  replace H : (if t226 = true then ((impl_phase.f k l0 a1_0).bind fun t227 => (if t227 < 0 then (impl_RecGo.j0 k l0 true a1_0 a1_1 a1_2 a2_0 a2_1) else (if a1_1 < 0 then (impl_RecGo.j0 k l0 true a1_0 a1_1 a1_2 a2_0 a2_1) else (impl_RecGo.j0 k l0 (decide (a1_1 > 12000)) a1_0 a1_1 a1_2 a2_0 a2_1)))) else (impl_RecGo.j0 k l0 true a1_0 a1_1 a1_2 a2_0 a2_1)) = some (r1, r2, r3, r4) := H
  have A8 := Aside0.mk A80
  clear A80
  refine (Classical.em (t226 = true)).elim (fun c9 => ?yes94) (fun c9 => ?no94)
  case' yes94 =>
   subst c9
   have H1 : ((impl_phase.f k l0 a1_0).bind fun t227 => (if t227 < 0 then (impl_RecGo.j0 k l0 true a1_0 a1_1 a1_2 a2_0 a2_1) else (if a1_1 < 0 then (impl_RecGo.j0 k l0 true a1_0 a1_1 a1_2 a2_0 a2_1) else (impl_RecGo.j0 k l0 (decide (a1_1 > 12000)) a1_0 a1_1 a1_2 a2_0 a2_1)))) = some (r1, r2, r3, r4) := by rw [if_pos rfl] at H; exact H
   clear H
   have H := H1
   clear H1
   replace H := Option.bind_eq_some_iff.mp H
   obtain ⟨t227, A100, H⟩ := H
   replace H : (if t227 < 0 then (impl_RecGo.j0 k l0 true a1_0 a1_1 a1_2 a2_0 a2_1) else (if a1_1 < 0 then (impl_RecGo.j0 k l0 true a1_0 a1_1 a1_2 a2_0 a2_1) else (impl_RecGo.j0 k l0 (decide (a1_1 > 12000)) a1_0 a1_1 a1_2 a2_0 a2_1))) = some (r1, r2, r3, r4) := H
   have A10 := Aside0.mk A100
   clear A100
   refine (Classical.em (t227 < 0)).elim (fun c11 => ?yes95) (fun c11 => ?no95)
   case' yes95 =>
    rw [if_pos c11] at H
    have c11b0 : decide (t227 < 0) = true := decide_eq_true c11
    clear c11
    (first | rw [c11b0] | (simp only [i64_w, i32_w]; rw [c11b0]) | skip)
    have H' := Aside0.mk H
    clear H
   case' no95 =>
    rw [if_neg c11] at H
    have c11b0 : decide (t227 < 0) = false := decide_eq_false c11
    clear c11
    (first | rw [c11b0] | (simp only [i64_w, i32_w]; rw [c11b0]) | skip)
    refine (Classical.em (a1_1 < 0)).elim (fun c17 => ?yes96) (fun c17 => ?no96)
    case' yes96 =>
     rw [if_pos c17] at H
     have c17b0 : decide (a1_1 < 0) = true := decide_eq_true c17
     clear c17
     have H' := Aside0.mk H
     clear H
    case' no96 =>
     rw [if_neg c17] at H
     have c17b0 : decide (a1_1 < 0) = false := decide_eq_false c17
     clear c17
     have H' := Aside0.mk H
     clear H
  case' no94 =>
   replace c9 := Bool.eq_false_iff.mpr c9
   subst c9
   have H1 : (impl_RecGo.j0 k l0 true a1_0 a1_1 a1_2 a2_0 a2_1) = some (r1, r2, r3, r4) := by rw [if_neg (show ¬ (false = true) by decide)] at H; exact H
   clear H
   have H := H1
   clear H1
   have H' := Aside0.mk H
   clear H
  all_goals
   first
    | (
     go_wp2_with (first | ((with_reducible refine gate_callee (f := 35) rfl ?_); refine goesL_ (some 13) rfl rfl Try.func35 (by kernel_rfl) rfl #[.slice A0 l0.length c0] rfl m1_ ?_; (with_reducible refine (impl_RecOk.calls k _ _ l0 _ _ ?side1 ?side2 (Aside0.out (by assumption))).mono ?_); (case side1 => exact m9_); (case side2 => exact HC0.out); rintro e w12 ⟨rfl, hb⟩; refine ⟨_, rfl, ?_⟩; have n0_ := Aside0.mk (blk_below (g := gb223) (o := .cells #[.string a1_0, .int .i64 a1_1, .int .i64 a1_2] 29 (0, 0)) m16_ hb); have n1_ := Aside0.mk (blk_below (g := gb224) (o := .cells #[.int .i64 a2_0, .bool a2_1] 35 (0, 0)) m22_ hb); have n2_ := Aside0.mk (blk_below (g := gb225) (o := .cells #[.string (⟨#[]⟩ : ByteArray), .int .i64 0, .int .i64 0] 29 (0, 0)) m25_ hb); have n3_ := Aside0.mk (below_step m17_ hb); clear BK223; clear BK224; clear BK225; clear HB; have BK223 := n0_; have BK224 := n1_; have BK225 := n2_; have HB := n3_; clear n0_ n1_ n2_ n3_; (try clear hb); (try clear hb2); (try clear hk); (try clear hi); have hnb13 := NB223_224.out; have hnc13 := NB224_223.out; have hnb14 := NB223_225.out; have hnc14 := NB225_223.out; obtain ⟨hcz15_0, hcz15_1, hcz15_2⟩ := cz3_ BK223.out; obtain ⟨hfz15_0, hfz15_1, hfz15_2⟩ := fz3_ BK223.out) | (go_at_call 36; (with_reducible refine (impl_phase.calls k _ _ l0 a1_0 _ _ ?side1 ?side2 (Aside0.out (by assumption))).mono ?_); (case side1 => exact m9_); (case side2 => exact HC0.out); rintro e w16 ⟨rfl, hb⟩; have n0_ := Aside0.mk (blk_below (g := gb223) (o := .cells #[.string a1_0, .int .i64 a1_1, .int .i64 a1_2] 29 (0, 0)) m16_ hb); have n1_ := Aside0.mk (blk_below (g := gb224) (o := .cells #[.int .i64 a2_0, .bool a2_1] 35 (0, 0)) m22_ hb); have n2_ := Aside0.mk (blk_below (g := gb225) (o := .cells #[.string (⟨#[]⟩ : ByteArray), .int .i64 0, .int .i64 0] 29 (0, 0)) m25_ hb); have n3_ := Aside0.mk (below_step m17_ hb); clear BK223; clear BK224; clear BK225; clear HB; have BK223 := n0_; have BK224 := n1_; have BK225 := n2_; have HB := n3_; clear n0_ n1_ n2_ n3_; (try clear hb); (try clear hb2); (try clear hk); (try clear hi)))
     go_meet
     case rel => exact ⟨_, _, m14_, H', ⟨m54_⟩, ⟨m16_⟩, ⟨m22_⟩, ⟨m25_⟩, ⟨m17_⟩⟩)
    | (
     go_wp2_with (first | ((with_reducible refine gate_callee (f := 35) rfl ?_); refine goesL_ (some 13) rfl rfl Try.func35 (by kernel_rfl) rfl #[.slice A0 l0.length c0] rfl m1_ ?_; (with_reducible refine (impl_RecOk.calls k _ _ l0 _ _ ?side1 ?side2 (Aside0.out (by assumption))).mono ?_); (case side1 => exact m9_); (case side2 => exact HC0.out); rintro e w18 ⟨rfl, hb⟩; refine ⟨_, rfl, ?_⟩; have n0_ := Aside0.mk (blk_below (g := gb223) (o := .cells #[.string a1_0, .int .i64 a1_1, .int .i64 a1_2] 29 (0, 0)) m16_ hb); have n1_ := Aside0.mk (blk_below (g := gb224) (o := .cells #[.int .i64 a2_0, .bool a2_1] 35 (0, 0)) m22_ hb); have n2_ := Aside0.mk (blk_below (g := gb225) (o := .cells #[.string (⟨#[]⟩ : ByteArray), .int .i64 0, .int .i64 0] 29 (0, 0)) m25_ hb); have n3_ := Aside0.mk (below_step m17_ hb); clear BK223; clear BK224; clear BK225; clear HB; have BK223 := n0_; have BK224 := n1_; have BK225 := n2_; have HB := n3_; clear n0_ n1_ n2_ n3_; (try clear hb); (try clear hb2); (try clear hk); (try clear hi); have hnb19 := NB223_224.out; have hnc19 := NB224_223.out; have hnb20 := NB223_225.out; have hnc20 := NB225_223.out; obtain ⟨hcz21_0, hcz21_1, hcz21_2⟩ := cz3_ BK223.out; obtain ⟨hfz21_0, hfz21_1, hfz21_2⟩ := fz3_ BK223.out) | (go_at_call 36; (with_reducible refine (impl_phase.calls k _ _ l0 a1_0 _ _ ?side1 ?side2 (Aside0.out (by assumption))).mono ?_); (case side1 => exact m9_); (case side2 => exact HC0.out); rintro e w22 ⟨rfl, hb⟩; have n0_ := Aside0.mk (blk_below (g := gb223) (o := .cells #[.string a1_0, .int .i64 a1_1, .int .i64 a1_2] 29 (0, 0)) m16_ hb); have n1_ := Aside0.mk (blk_below (g := gb224) (o := .cells #[.int .i64 a2_0, .bool a2_1] 35 (0, 0)) m22_ hb); have n2_ := Aside0.mk (blk_below (g := gb225) (o := .cells #[.string (⟨#[]⟩ : ByteArray), .int .i64 0, .int .i64 0] 29 (0, 0)) m25_ hb); have n3_ := Aside0.mk (below_step m17_ hb); clear BK223; clear BK224; clear BK225; clear HB; have BK223 := n0_; have BK224 := n1_; have BK225 := n2_; have HB := n3_; clear n0_ n1_ n2_ n3_; (try clear hb); (try clear hb2); (try clear hk); (try clear hi); obtain ⟨hcz23_0, hcz23_1, hcz23_2⟩ := cz3_ BK223.out; obtain ⟨hfz23_0, hfz23_1, hfz23_2⟩ := fz3_ BK223.out))
     go_meet
     case rel => exact ⟨_, _, m14_, H', ⟨m54_⟩, ⟨m16_⟩, ⟨m22_⟩, ⟨m25_⟩, ⟨m17_⟩⟩)
    | (
     go_wp2_with (first | ((with_reducible refine gate_callee (f := 35) rfl ?_); refine goesL_ (some 13) rfl rfl Try.func35 (by kernel_rfl) rfl #[.slice A0 l0.length c0] rfl m1_ ?_; (with_reducible refine (impl_RecOk.calls k _ _ l0 _ _ ?side1 ?side2 (Aside0.out (by assumption))).mono ?_); (case side1 => exact m9_); (case side2 => exact HC0.out); rintro e w30 ⟨rfl, hb⟩; refine ⟨_, rfl, ?_⟩; have n0_ := Aside0.mk (blk_below (g := gb223) (o := .cells #[.string a1_0, .int .i64 a1_1, .int .i64 a1_2] 29 (0, 0)) m16_ hb); have n1_ := Aside0.mk (blk_below (g := gb224) (o := .cells #[.int .i64 a2_0, .bool a2_1] 35 (0, 0)) m22_ hb); have n2_ := Aside0.mk (blk_below (g := gb225) (o := .cells #[.string (⟨#[]⟩ : ByteArray), .int .i64 0, .int .i64 0] 29 (0, 0)) m25_ hb); have n3_ := Aside0.mk (below_step m17_ hb); clear BK223; clear BK224; clear BK225; clear HB; have BK223 := n0_; have BK224 := n1_; have BK225 := n2_; have HB := n3_; clear n0_ n1_ n2_ n3_; (try clear hb); (try clear hb2); (try clear hk); (try clear hi)))
     go_meet
     case rel => exact ⟨_, _, m14_, H', ⟨m54_⟩, ⟨m16_⟩, ⟨m22_⟩, ⟨m25_⟩, ⟨m17_⟩⟩)
 case rest =>
  clear HC4
  try clear c1
  try clear c2
  try clear p2
  try clear c3
  try clear c9
  try clear c11
  try clear c11b0
  try clear c13
  try clear c14
  try clear c17
  try clear c17b0
  try clear c19
  try clear c20
  try clear c25
  try clear c26
  try clear hcz15_0
  try clear hcz15_1
  try clear hcz15_2
  try clear hcz21_0
  try clear hcz21_1
  try clear hcz21_2
  try clear hcz23_0
  try clear hcz23_1
  try clear hcz23_2
  try clear hcz27_0
  try clear hcz27_1
  try clear hcz27_2
  try clear hcz29_0
  try clear hcz29_1
  try clear hcz29_2
  try clear hfz15_0
  try clear hfz15_1
  try clear hfz15_2
  try clear hfz21_0
  try clear hfz21_1
  try clear hfz21_2
  try clear hfz23_0
  try clear hfz23_1
  try clear hfz23_2
  try clear hfz27_0
  try clear hfz27_1
  try clear hfz27_2
  try clear hfz29_0
  try clear hfz29_1
  try clear hfz29_2
  obtain ⟨kq, x31_3, rfl, HA, HJ3, BK223, BK224, BK225, HB⟩ := hcut
  cases kq with
  | zero => exact absurd HA.out (by simp [impl_RecGo.j0])
  | succ kj3 =>
   have H := HA.out
   clear HA
   simp only [impl_RecGo.j0] at H
   by_cases c31 : x31_3 = true
   ·subst c31
    have H1 : (some (a1_0, a1_1, a1_2, false)) = some (r1, r2, r3, r4) := by rw [if_pos rfl] at H; exact H
    clear H
    have H := H1
    clear H1
    simp only [Option.some.injEq, Prod.mk.injEq] at H
    obtain ⟨rfl, rfl, rfl, rfl⟩ := H
    have hnb32 := NB223_224.out
    have hnc32 := NB224_223.out
    have hnb33 := NB223_225.out
    have hnc33 := NB225_223.out
    obtain ⟨hcz34_0, hcz34_1, hcz34_2⟩ := cz3_ BK223.out
    obtain ⟨hfz34_0, hfz34_1, hfz34_2⟩ := fz3_ BK223.out
    have hnb35 := NB225_224.out
    have hnc35 := NB224_225.out
    obtain ⟨hcz36_0, hcz36_1, hcz36_2⟩ := cz3_ BK225.out
    obtain ⟨hfz36_0, hfz36_1, hfz36_2⟩ := fz3_ BK225.out
    go_wp2
    refine bodyPost_ret (results_ct rfl _ _ gb225 29 #[.string a1_0, .int .i64 a1_1, .int .i64 a1_2] (0, 0) _ rfl (by (with_reducible repeat (first | refine blk_drewN ?_ _ | refine blk_drew ?_ | refine blk_alloc ?_ _)); refine blk_put (cs := #[.string a1_0, .int .i64 a1_1, .int .i64 0]) ?_ 2 _ rfl; (with_reducible repeat (first | refine blk_drewN ?_ _ | refine blk_drew ?_ | refine blk_alloc ?_ _)); refine blk_put (cs := #[.string a1_0, .int .i64 0, .int .i64 0]) ?_ 1 _ rfl; (with_reducible repeat (first | refine blk_drewN ?_ _ | refine blk_drew ?_ | refine blk_alloc ?_ _)); refine blk_put (cs := #[.string (⟨#[]⟩ : ByteArray), .int .i64 0, .int .i64 0]) ?_ 0 _ rfl; (with_reducible repeat (first | refine blk_drewN ?_ _ | refine blk_drew ?_ | refine blk_alloc ?_ _)); exact BK225.out) Try.underlying29 rfl (by kernel_rfl)) rfl ?_
    exact ⟨m5_, m17_⟩
   ·replace c31 := Bool.eq_false_iff.mpr c31
    subst c31
    have H1 : ((impl_phase.f kj3 l0 a1_0).bind fun t228 => (if 0 ≤ t228 then (if t228 < (l0.length : Int) then (if a2_1 = true then (impl_RecGo.j1 kj3 l0 (mx 0 a2_0) a2_1 (((rd_T44 l0 t228).f1) == 3) a1_0 a1_1 a1_2 ((rd_T44 l0 t228).f0) ((rd_T44 l0 t228).f1) ((rd_T44 l0 t228).f2) ((rd_T44 l0 t228).f3) ((rd_T44 l0 t228).f4) ((rd_T44 l0 t228).f5) ((rd_T44 l0 t228).f6) ((rd_T44 l0 t228).f7)) else (impl_RecGo.j1 kj3 l0 (mx 0 a2_0) a2_1 false a1_0 a1_1 a1_2 ((rd_T44 l0 t228).f0) ((rd_T44 l0 t228).f1) ((rd_T44 l0 t228).f2) ((rd_T44 l0 t228).f3) ((rd_T44 l0 t228).f4) ((rd_T44 l0 t228).f5) ((rd_T44 l0 t228).f6) ((rd_T44 l0 t228).f7))) else (none)) else (none))) = some (r1, r2, r3, r4) := by rw [if_neg (show ¬ (false = true) by decide)] at H; exact H
    clear H
    have H := H1
    clear H1
    replace H := Option.bind_eq_some_iff.mp H
    obtain ⟨t228, A370, H⟩ := H
    replace H : (if 0 ≤ t228 then (if t228 < (l0.length : Int) then (if a2_1 = true then (impl_RecGo.j1 kj3 l0 (mx 0 a2_0) a2_1 (((rd_T44 l0 t228).f1) == 3) a1_0 a1_1 a1_2 ((rd_T44 l0 t228).f0) ((rd_T44 l0 t228).f1) ((rd_T44 l0 t228).f2) ((rd_T44 l0 t228).f3) ((rd_T44 l0 t228).f4) ((rd_T44 l0 t228).f5) ((rd_T44 l0 t228).f6) ((rd_T44 l0 t228).f7)) else (impl_RecGo.j1 kj3 l0 (mx 0 a2_0) a2_1 false a1_0 a1_1 a1_2 ((rd_T44 l0 t228).f0) ((rd_T44 l0 t228).f1) ((rd_T44 l0 t228).f2) ((rd_T44 l0 t228).f3) ((rd_T44 l0 t228).f4) ((rd_T44 l0 t228).f5) ((rd_T44 l0 t228).f6) ((rd_T44 l0 t228).f7))) else (none)) else (none)) = some (r1, r2, r3, r4) := H
    have A37 := Aside0.mk A370
    clear A370
    by_cases c38 : 0 ≤ t228
    ·rw [if_pos c38] at H
     have c38b0 : decide (0 ≤ t228) = true := decide_eq_true c38
     clear c38
     by_cases c39 : t228 < (l0.length : Int)
     ·rw [if_pos c39] at H
      have c39b0 : decide (t228 < (l0.length : Int)) = true := decide_eq_true c39
      clear c39
      obtain ⟨ji40, hji40⟩ : ∃ j_ : Int, (mx 0 a2_0) = j_ := ⟨_, rfl⟩
      replace H : (if a2_1 = true then (impl_RecGo.j1 kj3 l0 ji40 a2_1 (((rd_T44 l0 t228).f1) == 3) a1_0 a1_1 a1_2 ((rd_T44 l0 t228).f0) ((rd_T44 l0 t228).f1) ((rd_T44 l0 t228).f2) ((rd_T44 l0 t228).f3) ((rd_T44 l0 t228).f4) ((rd_T44 l0 t228).f5) ((rd_T44 l0 t228).f6) ((rd_T44 l0 t228).f7)) else (impl_RecGo.j1 kj3 l0 ji40 a2_1 false a1_0 a1_1 a1_2 ((rd_T44 l0 t228).f0) ((rd_T44 l0 t228).f1) ((rd_T44 l0 t228).f2) ((rd_T44 l0 t228).f3) ((rd_T44 l0 t228).f4) ((rd_T44 l0 t228).f5) ((rd_T44 l0 t228).f6) ((rd_T44 l0 t228).f7))) = some (r1, r2, r3, r4) := by first | (rw [hji40] at H; exact H) | (simp only [hji40] at H ⊢; exact H)
      (try rw [hji40] at A37)
      have hji40_ : (if 0 < a2_0 then a2_0 else 0) = ji40 := hji40
      have HC41 := Aside0.mk H
      clear H
      have hnb42 := NB223_224.out
      have hnc42 := NB224_223.out
      have hnb43 := NB223_225.out
      have hnc43 := NB225_223.out
      obtain ⟨hcz44_0, hcz44_1, hcz44_2⟩ := cz3_ BK223.out
      obtain ⟨hfz44_0, hfz44_1, hfz44_2⟩ := fz3_ BK223.out
      try go_wp2_with (first | ((with_reducible refine gate_callee (f := 36) rfl ?_); refine goesL_ (some 37) rfl rfl Try.func36 (by kernel_rfl) rfl #[.slice A0 l0.length c0, .string a1_0] rfl m1_ ?_; (with_reducible refine (impl_phase.calls kj3 _ _ l0 a1_0 t228 _ ?side1 ?side2 A37.out).mono ?_); (case side1 => exact m9_); (case side2 => exact HC0.out); rintro e w45 ⟨rfl, hb⟩; refine ⟨_, rfl, ?_⟩; have n0_ := Aside0.mk (blk_below (g := gb223) (o := .cells #[.string a1_0, .int .i64 a1_1, .int .i64 a1_2] 29 (0, 0)) m16_ hb); have n1_ := Aside0.mk (blk_below (g := gb224) (o := .cells #[.int .i64 a2_0, .bool a2_1] 35 (0, 0)) m22_ hb); have n2_ := Aside0.mk (blk_below (g := gb225) (o := .cells #[.string (⟨#[]⟩ : ByteArray), .int .i64 0, .int .i64 0] 29 (0, 0)) m25_ hb); have n3_ := Aside0.mk (below_step m17_ hb); clear BK223; clear BK224; clear BK225; clear HB; have BK223 := n0_; have BK224 := n1_; have BK225 := n2_; have HB := n3_; clear n0_ n1_ n2_ n3_; (try clear hb); (try clear hb2); (try clear hk); (try clear hi); have p229 : 0 ≤ (t228 : Int) := of_decide_eq_true m6_; have q229 : t228 < (l0.length : Int) := of_decide_eq_true m6_; obtain ⟨ad229, e229, hx229_0, hx229_1, hx229_2, hx229_3, hx229_4, hx229_5, hx229_6, hx229_7⟩ := at_T44 HR0.out t228 p229 q229; cases e229; replace hx229_0 := (HB.out.cell (World.block_lt_of_cell? w _ hx229_0)).trans hx229_0; replace hx229_1 := (HB.out.cell (World.block_lt_of_cell? w _ hx229_1)).trans hx229_1; replace hx229_2 := (HB.out.cell (World.block_lt_of_cell? w _ hx229_2)).trans hx229_2; replace hx229_3 := (HB.out.cell (World.block_lt_of_cell? w _ hx229_3)).trans hx229_3; replace hx229_4 := (HB.out.cell (World.block_lt_of_cell? w _ hx229_4)).trans hx229_4; replace hx229_5 := (HB.out.cell (World.block_lt_of_cell? w _ hx229_5)).trans hx229_5; replace hx229_6 := (HB.out.cell (World.block_lt_of_cell? w _ hx229_6)).trans hx229_6; replace hx229_7 := (HB.out.cell (World.block_lt_of_cell? w _ hx229_7)).trans hx229_7; replace p229 := eq_true p229; replace q229 := eq_true q229) | ((with_reducible refine gate_dst (N := 8) rfl ?_); refine box_event ?hg (N := 8) ?hd (cs := #[.string (⟨#[]⟩ : ByteArray), .int .i64 0, .string (⟨#[]⟩ : ByteArray), .string (⟨#[]⟩ : ByteArray), .int .i64 0, .int .i64 0, .string (⟨#[]⟩ : ByteArray), .string (⟨#[]⟩ : ByteArray)]) (t := 44) ?hr ?_; (case hd => rfl); (case hg => rfl); (case hr => first | (go_simp; done) | (go_simp; rfl)); intro gb230 hg w46 hbox hb; have n0_ := Aside0.mk (blk_below (g := gb223) (o := .cells #[.string a1_0, .int .i64 a1_1, .int .i64 a1_2] 29 (0, 0)) m16_ hb); have n1_ := Aside0.mk (blk_below (g := gb224) (o := .cells #[.int .i64 a2_0, .bool a2_1] 35 (0, 0)) m22_ hb); have n2_ := Aside0.mk (blk_below (g := gb225) (o := .cells #[.string (⟨#[]⟩ : ByteArray), .int .i64 0, .int .i64 0] 29 (0, 0)) m25_ hb); have n3_ := Aside0.mk (below_step m17_ hb); have n4_ := Aside0.mk (hbox); have n5_ := Aside0.mk ((by rw [hg]; exact (below_size m17_) : w.heap.size ≤ gb230)); have n6_ := Aside0.mk ((by rw [hg]; exact (below_size m17_) : w.heap.size ≤ gb230)); have n7_ := Aside0.mk ((by rw [hg]; exact Nat.ne_of_lt (blk_lt (g := gb223) (o := .cells #[.string a1_0, .int .i64 a1_1, .int .i64 a1_2] 29 (0, 0)) m16_) : gb223 ≠ gb230)); have n8_ := Aside0.mk ((by rw [hg]; exact Nat.ne_of_gt (blk_lt (g := gb223) (o := .cells #[.string a1_0, .int .i64 a1_1, .int .i64 a1_2] 29 (0, 0)) m16_) : gb230 ≠ gb223)); have n9_ := Aside0.mk ((by rw [hg]; exact Nat.ne_of_lt (blk_lt (g := gb224) (o := .cells #[.int .i64 a2_0, .bool a2_1] 35 (0, 0)) m22_) : gb224 ≠ gb230)); have n10_ := Aside0.mk ((by rw [hg]; exact Nat.ne_of_gt (blk_lt (g := gb224) (o := .cells #[.int .i64 a2_0, .bool a2_1] 35 (0, 0)) m22_) : gb230 ≠ gb224)); have n11_ := Aside0.mk ((by rw [hg]; exact Nat.ne_of_lt (blk_lt (g := gb225) (o := .cells #[.string (⟨#[]⟩ : ByteArray), .int .i64 0, .int .i64 0] 29 (0, 0)) m25_) : gb225 ≠ gb230)); have n12_ := Aside0.mk ((by rw [hg]; exact Nat.ne_of_gt (blk_lt (g := gb225) (o := .cells #[.string (⟨#[]⟩ : ByteArray), .int .i64 0, .int .i64 0] 29 (0, 0)) m25_) : gb230 ≠ gb225)); clear BK223; clear BK224; clear BK225; clear HB; have BK223 := n0_; have BK224 := n1_; have BK225 := n2_; have HB := n3_; have BK230 := n4_; have GW230 := n5_; have GE230 := n6_; have NB223_230 := n7_; have NB230_223 := n8_; have NB224_230 := n9_; have NB230_224 := n10_; have NB225_230 := n11_; have NB230_225 := n12_; clear n0_ n1_ n2_ n3_ n4_ n5_ n6_ n7_ n8_ n9_ n10_ n11_ n12_; clear hb hbox hg; have hnb47 := NB230_223.out; have hnc47 := NB223_230.out; have hnb48 := NB230_224.out; have hnc48 := NB224_230.out; have hnb49 := NB230_225.out; have hnc49 := NB225_230.out; obtain ⟨hcz50_0, hcz50_1, hcz50_2, hcz50_3, hcz50_4, hcz50_5, hcz50_6, hcz50_7⟩ := cz8_ BK230.out; obtain ⟨hfz50_0, hfz50_1, hfz50_2, hfz50_3, hfz50_4, hfz50_5, hfz50_6, hfz50_7⟩ := fz8_ BK230.out))
      have n0_ : Aside0 (((((((((w46.setCell ⟨gb230, 0, none⟩ (.string ((rd_T44 l0 t228).f0))).setCell ⟨gb230, 1, none⟩ (.int .i64 ((rd_T44 l0 t228).f1))).setCell ⟨gb230, 2, none⟩ (.string ((rd_T44 l0 t228).f2))).setCell ⟨gb230, 3, none⟩ (.string ((rd_T44 l0 t228).f3))).setCell ⟨gb230, 4, none⟩ (.int .i64 ((rd_T44 l0 t228).f4))).setCell ⟨gb230, 5, none⟩ (.int .i64 ((rd_T44 l0 t228).f5))).setCell ⟨gb230, 6, none⟩ (.string ((rd_T44 l0 t228).f6))).setCell ⟨gb230, 7, none⟩ (.string ((rd_T44 l0 t228).f7))).heap[gb223]? = some (.cells #[.string a1_0, .int .i64 a1_1, .int .i64 a1_2] 29 (0, 0))) := ⟨(by (with_reducible repeat (first | refine blk_drewN ?_ _ | refine blk_drew ?_ | refine blk_alloc ?_ _)); refine blk_far ?_ NB223_230.out _; (with_reducible repeat (first | refine blk_drewN ?_ _ | refine blk_drew ?_ | refine blk_alloc ?_ _)); refine blk_far ?_ NB223_230.out _; (with_reducible repeat (first | refine blk_drewN ?_ _ | refine blk_drew ?_ | refine blk_alloc ?_ _)); refine blk_far ?_ NB223_230.out _; (with_reducible repeat (first | refine blk_drewN ?_ _ | refine blk_drew ?_ | refine blk_alloc ?_ _)); refine blk_far ?_ NB223_230.out _; (with_reducible repeat (first | refine blk_drewN ?_ _ | refine blk_drew ?_ | refine blk_alloc ?_ _)); refine blk_far ?_ NB223_230.out _; (with_reducible repeat (first | refine blk_drewN ?_ _ | refine blk_drew ?_ | refine blk_alloc ?_ _)); refine blk_far ?_ NB223_230.out _; (with_reducible repeat (first | refine blk_drewN ?_ _ | refine blk_drew ?_ | refine blk_alloc ?_ _)); refine blk_far ?_ NB223_230.out _; (with_reducible repeat (first | refine blk_drewN ?_ _ | refine blk_drew ?_ | refine blk_alloc ?_ _)); refine blk_far ?_ NB223_230.out _; (with_reducible repeat (first | refine blk_drewN ?_ _ | refine blk_drew ?_ | refine blk_alloc ?_ _)); exact BK223.out)⟩
      have n1_ : Aside0 (((((((((w46.setCell ⟨gb230, 0, none⟩ (.string ((rd_T44 l0 t228).f0))).setCell ⟨gb230, 1, none⟩ (.int .i64 ((rd_T44 l0 t228).f1))).setCell ⟨gb230, 2, none⟩ (.string ((rd_T44 l0 t228).f2))).setCell ⟨gb230, 3, none⟩ (.string ((rd_T44 l0 t228).f3))).setCell ⟨gb230, 4, none⟩ (.int .i64 ((rd_T44 l0 t228).f4))).setCell ⟨gb230, 5, none⟩ (.int .i64 ((rd_T44 l0 t228).f5))).setCell ⟨gb230, 6, none⟩ (.string ((rd_T44 l0 t228).f6))).setCell ⟨gb230, 7, none⟩ (.string ((rd_T44 l0 t228).f7))).heap[gb224]? = some (.cells #[.int .i64 a2_0, .bool a2_1] 35 (0, 0))) := ⟨(by (with_reducible repeat (first | refine blk_drewN ?_ _ | refine blk_drew ?_ | refine blk_alloc ?_ _)); refine blk_far ?_ NB224_230.out _; (with_reducible repeat (first | refine blk_drewN ?_ _ | refine blk_drew ?_ | refine blk_alloc ?_ _)); refine blk_far ?_ NB224_230.out _; (with_reducible repeat (first | refine blk_drewN ?_ _ | refine blk_drew ?_ | refine blk_alloc ?_ _)); refine blk_far ?_ NB224_230.out _; (with_reducible repeat (first | refine blk_drewN ?_ _ | refine blk_drew ?_ | refine blk_alloc ?_ _)); refine blk_far ?_ NB224_230.out _; (with_reducible repeat (first | refine blk_drewN ?_ _ | refine blk_drew ?_ | refine blk_alloc ?_ _)); refine blk_far ?_ NB224_230.out _; (with_reducible repeat (first | refine blk_drewN ?_ _ | refine blk_drew ?_ | refine blk_alloc ?_ _)); refine blk_far ?_ NB224_230.out _; (with_reducible repeat (first | refine blk_drewN ?_ _ | refine blk_drew ?_ | refine blk_alloc ?_ _)); refine blk_far ?_ NB224_230.out _; (with_reducible repeat (first | refine blk_drewN ?_ _ | refine blk_drew ?_ | refine blk_alloc ?_ _)); refine blk_far ?_ NB224_230.out _; (with_reducible repeat (first | refine blk_drewN ?_ _ | refine blk_drew ?_ | refine blk_alloc ?_ _)); exact BK224.out)⟩
      have n2_ : Aside0 (((((((((w46.setCell ⟨gb230, 0, none⟩ (.string ((rd_T44 l0 t228).f0))).setCell ⟨gb230, 1, none⟩ (.int .i64 ((rd_T44 l0 t228).f1))).setCell ⟨gb230, 2, none⟩ (.string ((rd_T44 l0 t228).f2))).setCell ⟨gb230, 3, none⟩ (.string ((rd_T44 l0 t228).f3))).setCell ⟨gb230, 4, none⟩ (.int .i64 ((rd_T44 l0 t228).f4))).setCell ⟨gb230, 5, none⟩ (.int .i64 ((rd_T44 l0 t228).f5))).setCell ⟨gb230, 6, none⟩ (.string ((rd_T44 l0 t228).f6))).setCell ⟨gb230, 7, none⟩ (.string ((rd_T44 l0 t228).f7))).heap[gb225]? = some (.cells #[.string (⟨#[]⟩ : ByteArray), .int .i64 0, .int .i64 0] 29 (0, 0))) := ⟨(by (with_reducible repeat (first | refine blk_drewN ?_ _ | refine blk_drew ?_ | refine blk_alloc ?_ _)); refine blk_far ?_ NB225_230.out _; (with_reducible repeat (first | refine blk_drewN ?_ _ | refine blk_drew ?_ | refine blk_alloc ?_ _)); refine blk_far ?_ NB225_230.out _; (with_reducible repeat (first | refine blk_drewN ?_ _ | refine blk_drew ?_ | refine blk_alloc ?_ _)); refine blk_far ?_ NB225_230.out _; (with_reducible repeat (first | refine blk_drewN ?_ _ | refine blk_drew ?_ | refine blk_alloc ?_ _)); refine blk_far ?_ NB225_230.out _; (with_reducible repeat (first | refine blk_drewN ?_ _ | refine blk_drew ?_ | refine blk_alloc ?_ _)); refine blk_far ?_ NB225_230.out _; (with_reducible repeat (first | refine blk_drewN ?_ _ | refine blk_drew ?_ | refine blk_alloc ?_ _)); refine blk_far ?_ NB225_230.out _; (with_reducible repeat (first | refine blk_drewN ?_ _ | refine blk_drew ?_ | refine blk_alloc ?_ _)); refine blk_far ?_ NB225_230.out _; (with_reducible repeat (first | refine blk_drewN ?_ _ | refine blk_drew ?_ | refine blk_alloc ?_ _)); refine blk_far ?_ NB225_230.out _; (with_reducible repeat (first | refine blk_drewN ?_ _ | refine blk_drew ?_ | refine blk_alloc ?_ _)); exact BK225.out)⟩
      have n3_ : Aside0 (((((((((w46.setCell ⟨gb230, 0, none⟩ (.string ((rd_T44 l0 t228).f0))).setCell ⟨gb230, 1, none⟩ (.int .i64 ((rd_T44 l0 t228).f1))).setCell ⟨gb230, 2, none⟩ (.string ((rd_T44 l0 t228).f2))).setCell ⟨gb230, 3, none⟩ (.string ((rd_T44 l0 t228).f3))).setCell ⟨gb230, 4, none⟩ (.int .i64 ((rd_T44 l0 t228).f4))).setCell ⟨gb230, 5, none⟩ (.int .i64 ((rd_T44 l0 t228).f5))).setCell ⟨gb230, 6, none⟩ (.string ((rd_T44 l0 t228).f6))).setCell ⟨gb230, 7, none⟩ (.string ((rd_T44 l0 t228).f7))).heap[gb230]? = some (.cells #[.string ((rd_T44 l0 t228).f0), .int .i64 ((rd_T44 l0 t228).f1), .string ((rd_T44 l0 t228).f2), .string ((rd_T44 l0 t228).f3), .int .i64 ((rd_T44 l0 t228).f4), .int .i64 ((rd_T44 l0 t228).f5), .string ((rd_T44 l0 t228).f6), .string ((rd_T44 l0 t228).f7)] 44 (0, 0))) := ⟨(by (with_reducible repeat (first | refine blk_drewN ?_ _ | refine blk_drew ?_ | refine blk_alloc ?_ _)); refine blk_put (cs := #[.string ((rd_T44 l0 t228).f0), .int .i64 ((rd_T44 l0 t228).f1), .string ((rd_T44 l0 t228).f2), .string ((rd_T44 l0 t228).f3), .int .i64 ((rd_T44 l0 t228).f4), .int .i64 ((rd_T44 l0 t228).f5), .string ((rd_T44 l0 t228).f6), .string (⟨#[]⟩ : ByteArray)]) ?_ 7 _ rfl; (with_reducible repeat (first | refine blk_drewN ?_ _ | refine blk_drew ?_ | refine blk_alloc ?_ _)); refine blk_put (cs := #[.string ((rd_T44 l0 t228).f0), .int .i64 ((rd_T44 l0 t228).f1), .string ((rd_T44 l0 t228).f2), .string ((rd_T44 l0 t228).f3), .int .i64 ((rd_T44 l0 t228).f4), .int .i64 ((rd_T44 l0 t228).f5), .string (⟨#[]⟩ : ByteArray), .string (⟨#[]⟩ : ByteArray)]) ?_ 6 _ rfl; (with_reducible repeat (first | refine blk_drewN ?_ _ | refine blk_drew ?_ | refine blk_alloc ?_ _)); refine blk_put (cs := #[.string ((rd_T44 l0 t228).f0), .int .i64 ((rd_T44 l0 t228).f1), .string ((rd_T44 l0 t228).f2), .string ((rd_T44 l0 t228).f3), .int .i64 ((rd_T44 l0 t228).f4), .int .i64 0, .string (⟨#[]⟩ : ByteArray), .string (⟨#[]⟩ : ByteArray)]) ?_ 5 _ rfl; (with_reducible repeat (first | refine blk_drewN ?_ _ | refine blk_drew ?_ | refine blk_alloc ?_ _)); refine blk_put (cs := #[.string ((rd_T44 l0 t228).f0), .int .i64 ((rd_T44 l0 t228).f1), .string ((rd_T44 l0 t228).f2), .string ((rd_T44 l0 t228).f3), .int .i64 0, .int .i64 0, .string (⟨#[]⟩ : ByteArray), .string (⟨#[]⟩ : ByteArray)]) ?_ 4 _ rfl; (with_reducible repeat (first | refine blk_drewN ?_ _ | refine blk_drew ?_ | refine blk_alloc ?_ _)); refine blk_put (cs := #[.string ((rd_T44 l0 t228).f0), .int .i64 ((rd_T44 l0 t228).f1), .string ((rd_T44 l0 t228).f2), .string (⟨#[]⟩ : ByteArray), .int .i64 0, .int .i64 0, .string (⟨#[]⟩ : ByteArray), .string (⟨#[]⟩ : ByteArray)]) ?_ 3 _ rfl; (with_reducible repeat (first | refine blk_drewN ?_ _ | refine blk_drew ?_ | refine blk_alloc ?_ _)); refine blk_put (cs := #[.string ((rd_T44 l0 t228).f0), .int .i64 ((rd_T44 l0 t228).f1), .string (⟨#[]⟩ : ByteArray), .string (⟨#[]⟩ : ByteArray), .int .i64 0, .int .i64 0, .string (⟨#[]⟩ : ByteArray), .string (⟨#[]⟩ : ByteArray)]) ?_ 2 _ rfl; (with_reducible repeat (first | refine blk_drewN ?_ _ | refine blk_drew ?_ | refine blk_alloc ?_ _)); refine blk_put (cs := #[.string ((rd_T44 l0 t228).f0), .int .i64 0, .string (⟨#[]⟩ : ByteArray), .string (⟨#[]⟩ : ByteArray), .int .i64 0, .int .i64 0, .string (⟨#[]⟩ : ByteArray), .string (⟨#[]⟩ : ByteArray)]) ?_ 1 _ rfl; (with_reducible repeat (first | refine blk_drewN ?_ _ | refine blk_drew ?_ | refine blk_alloc ?_ _)); refine blk_put (cs := #[.string (⟨#[]⟩ : ByteArray), .int .i64 0, .string (⟨#[]⟩ : ByteArray), .string (⟨#[]⟩ : ByteArray), .int .i64 0, .int .i64 0, .string (⟨#[]⟩ : ByteArray), .string (⟨#[]⟩ : ByteArray)]) ?_ 0 _ rfl; (with_reducible repeat (first | refine blk_drewN ?_ _ | refine blk_drew ?_ | refine blk_alloc ?_ _)); exact BK230.out)⟩
      have n4_ : Aside0 (Below w.heap.size w ((((((((w46.setCell ⟨gb230, 0, none⟩ (.string ((rd_T44 l0 t228).f0))).setCell ⟨gb230, 1, none⟩ (.int .i64 ((rd_T44 l0 t228).f1))).setCell ⟨gb230, 2, none⟩ (.string ((rd_T44 l0 t228).f2))).setCell ⟨gb230, 3, none⟩ (.string ((rd_T44 l0 t228).f3))).setCell ⟨gb230, 4, none⟩ (.int .i64 ((rd_T44 l0 t228).f4))).setCell ⟨gb230, 5, none⟩ (.int .i64 ((rd_T44 l0 t228).f5))).setCell ⟨gb230, 6, none⟩ (.string ((rd_T44 l0 t228).f6))).setCell ⟨gb230, 7, none⟩ (.string ((rd_T44 l0 t228).f7)))) := ⟨m21_⟩
      (try clear BK223)
      (try clear BK224)
      (try clear BK225)
      (try clear BK230)
      (try clear HB)
      generalize ((((((((w46.setCell ⟨gb230, 0, none⟩ (.string ((rd_T44 l0 t228).f0))).setCell ⟨gb230, 1, none⟩ (.int .i64 ((rd_T44 l0 t228).f1))).setCell ⟨gb230, 2, none⟩ (.string ((rd_T44 l0 t228).f2))).setCell ⟨gb230, 3, none⟩ (.string ((rd_T44 l0 t228).f3))).setCell ⟨gb230, 4, none⟩ (.int .i64 ((rd_T44 l0 t228).f4))).setCell ⟨gb230, 5, none⟩ (.int .i64 ((rd_T44 l0 t228).f5))).setCell ⟨gb230, 6, none⟩ (.string ((rd_T44 l0 t228).f6))).setCell ⟨gb230, 7, none⟩ (.string ((rd_T44 l0 t228).f7))) = w51 at n0_ n1_ n2_ n3_ n4_ ⊢
      have BK223 := n0_
      have BK224 := n1_
      have BK225 := n2_
      have BK230 := n3_
      have HB := n4_
      clear n0_ n1_ n2_ n3_ n4_
      have n0_ := Aside0.mk (blk_drew BK223.out)
      have n1_ := Aside0.mk (blk_drew BK224.out)
      have n2_ := Aside0.mk (blk_drew BK225.out)
      have n3_ := Aside0.mk (blk_drew BK230.out)
      have n4_ := Aside0.mk (below_drew1 HB.out)
      clear BK223
      clear BK224
      clear BK225
      clear BK230
      clear HB
      have BK223 := n0_
      have BK224 := n1_
      have BK225 := n2_
      have BK230 := n3_
      have HB := n4_
      clear n0_ n1_ n2_ n3_ n4_
      refine start_ (n := 7) (S := fun w' => w'.cell? ⟨gb224, 0, none⟩ = some (.int .i64 a2_0) ∧ w'.cell? ⟨gb224, 1, none⟩ = some (.bool a2_1)) (ds := []) #[false, false, false, false, false, false, false] (by kernel_rfl) rfl rfl ⟨(blk_cell BK224.out 0).trans rfl, (blk_cell BK224.out 1).trans rfl⟩ (fun hHeld => ?_)
      generalize w51.drew = w52 at BK223 BK224 BK225 BK230 HB hHeld ⊢
      refine pure_ (i := 0) (N := some 40) (v := ?_) (a' := ?_) #[true, false, false, false, false, false, false] rfl rfl (by kernel_rfl) (fun _ _ _ h => h) (Or.inl ⟨(by rfl), ?_⟩) ?_ ?_; rotate_left; intro w'; go_simp; with_reducible rfl; rotate_left; simp only [Act.put, List.setIfInBounds_toArray, List.set_cons_zero, List.set_cons_succ, i64_w, i32_w]; rfl
      refine pure_ (i := 3) (N := some 43) (v := ?_) (a' := ?_) #[true, false, false, true, false, false, false] rfl rfl (by kernel_rfl) (fun _ _ _ h => h) (Or.inl ⟨(by rfl), ?_⟩) ?_ ?_; rotate_left; intro w'; go_simp; with_reducible rfl; rotate_left; simp only [Act.put, List.setIfInBounds_toArray, List.set_cons_zero, List.set_cons_succ, i64_w, i32_w]; rfl
      refine take_ (i := 1) (N := some 41) (v := ?_) (a' := ?_) #[true, true, false, true, false, false, false] rfl rfl (by kernel_rfl) (fun _ _ _ h => h) (Or.inl ⟨(by rfl), ?_⟩) hHeld ?_ ?_; rotate_left; rintro w' ⟨s0, s1⟩; go_simp; with_reducible rfl; rotate_left; simp only [Act.put, List.setIfInBounds_toArray, List.set_cons_zero, List.set_cons_succ, i64_w, i32_w]; rfl
      refine pure_ (i := 2) (N := some 42) (v := ?_) (a' := ?_) #[true, true, true, true, false, false, false] rfl rfl (by kernel_rfl) (fun _ _ _ h => h) (Or.inl ⟨(by rfl), ?_⟩) ?_ ?_; rotate_left; intro w'; go_simp; with_reducible rfl; rotate_left; simp only [Act.put, List.setIfInBounds_toArray, List.set_cons_zero, List.set_cons_succ, i64_w, i32_w]; rfl
      refine pure_ (i := 5) (N := some 9) (v := ?_) (a' := ?_) #[true, true, true, true, false, true, false] rfl rfl (by kernel_rfl) (fun _ _ _ h => h) (Or.inl ⟨(by rfl), ?_⟩) ?_ ?_; rotate_left; intro w'; go_simp; with_reducible rfl; rotate_left; simp only [Act.put, List.setIfInBounds_toArray, List.set_cons_zero, List.set_cons_succ, i64_w, i32_w]; rfl
      refine take_ (i := 4) (N := some 44) (v := ?_) (a' := ?_) #[true, true, true, true, true, true, false] rfl rfl (by kernel_rfl) (fun _ _ _ h => h) (Or.inl ⟨(by rfl), ?_⟩) hHeld ?_ ?_; rotate_left; rintro w' ⟨s0, s1⟩; go_simp; with_reducible rfl; rotate_left; simp only [Act.put, List.setIfInBounds_toArray, List.set_cons_zero, List.set_cons_succ, i64_w, i32_w]; rfl
      refine pure_ (i := 6) (N := some 10) (v := ?_) (a' := ?_) #[true, true, true, true, true, true, true] rfl rfl (by kernel_rfl) (fun _ _ _ h => h) (Or.inl ⟨(by rfl), ?_⟩) ?_ ?_; rotate_left; intro w'; go_simp; with_reducible rfl; rotate_left; simp only [Act.put, List.setIfInBounds_toArray, List.set_cons_zero, List.set_cons_succ, i64_w, i32_w]; rfl
      refine done_ (by kernel_rfl) ?_
      go_upto_region 5 with (fail)
      go_cut [50] (fun v50 wc => ∃ (kq : Nat) (x50_40 : Bool), v50 = .bool x50_40 ∧ Aside0 (impl_RecGo.j1 kq l0 ji40 a2_1 x50_40 a1_0 a1_1 a1_2 ((rd_T44 l0 t228).f0) ((rd_T44 l0 t228).f1) ((rd_T44 l0 t228).f2) ((rd_T44 l0 t228).f3) ((rd_T44 l0 t228).f4) ((rd_T44 l0 t228).f5) ((rd_T44 l0 t228).f6) ((rd_T44 l0 t228).f7) = some (r1, r2, r3, r4)) ∧ Aside0 (kq ≤ kj3) ∧ Aside0 (wc.heap[gb223]? = some (.cells #[.string a1_0, .int .i64 a1_1, .int .i64 a1_2] 29 (0, 0))) ∧ Aside0 (wc.heap[gb224]? = some (.cells #[.int .i64 a2_0, .bool a2_1] 35 (0, 0))) ∧ Aside0 (wc.heap[gb225]? = some (.cells #[.string (⟨#[]⟩ : ByteArray), .int .i64 0, .int .i64 0] 29 (0, 0))) ∧ Aside0 (wc.heap[gb230]? = some (.cells #[.string ((rd_T44 l0 t228).f0), .int .i64 ((rd_T44 l0 t228).f1), .string ((rd_T44 l0 t228).f2), .string ((rd_T44 l0 t228).f3), .int .i64 ((rd_T44 l0 t228).f4), .int .i64 ((rd_T44 l0 t228).f5), .string ((rd_T44 l0 t228).f6), .string ((rd_T44 l0 t228).f7)] 44 (0, 0))) ∧ Aside0 (Below w.heap.size w wc))
      case first =>
       have H := HC41.out
       clear HC41
       by_cases c53 : a2_1 = true
       ·subst c53
        have H1 : (impl_RecGo.j1 kj3 l0 ji40 true (((rd_T44 l0 t228).f1) == 3) a1_0 a1_1 a1_2 ((rd_T44 l0 t228).f0) ((rd_T44 l0 t228).f1) ((rd_T44 l0 t228).f2) ((rd_T44 l0 t228).f3) ((rd_T44 l0 t228).f4) ((rd_T44 l0 t228).f5) ((rd_T44 l0 t228).f6) ((rd_T44 l0 t228).f7)) = some (r1, r2, r3, r4) := by rw [if_pos rfl] at H; exact H
        clear H
        have H := H1
        clear H1
        have H' := Aside0.mk H
        clear H
        have hnb54 := NB230_223.out
        have hnc54 := NB223_230.out
        have hnb55 := NB230_224.out
        have hnc55 := NB224_230.out
        have hnb56 := NB230_225.out
        have hnc56 := NB225_230.out
        obtain ⟨hcz57_0, hcz57_1, hcz57_2, hcz57_3, hcz57_4, hcz57_5, hcz57_6, hcz57_7⟩ := cz8_ BK230.out
        obtain ⟨hfz57_0, hfz57_1, hfz57_2, hfz57_3, hfz57_4, hfz57_5, hfz57_6, hfz57_7⟩ := fz8_ BK230.out
        go_wp2
        go_meet
        case rel => exact ⟨_, ((((rd_T44 l0 t228).f1) == 3)), m14_, H', ⟨(by have := HJ3.out; first | omega | exact Nat.le_refl _)⟩, ⟨m16_⟩, ⟨m22_⟩, ⟨m25_⟩, ⟨m44_⟩, ⟨m21_⟩⟩
       ·replace c53 := Bool.eq_false_iff.mpr c53
        subst c53
        have H1 : (impl_RecGo.j1 kj3 l0 ji40 false false a1_0 a1_1 a1_2 ((rd_T44 l0 t228).f0) ((rd_T44 l0 t228).f1) ((rd_T44 l0 t228).f2) ((rd_T44 l0 t228).f3) ((rd_T44 l0 t228).f4) ((rd_T44 l0 t228).f5) ((rd_T44 l0 t228).f6) ((rd_T44 l0 t228).f7)) = some (r1, r2, r3, r4) := by rw [if_neg (show ¬ (false = true) by decide)] at H; exact H
        clear H
        have H := H1
        clear H1
        have H' := Aside0.mk H
        clear H
        go_wp2
        go_meet
        case rel => exact ⟨_, (false), m14_, H', ⟨(by have := HJ3.out; first | omega | exact Nat.le_refl _)⟩, ⟨m16_⟩, ⟨m22_⟩, ⟨m25_⟩, ⟨m44_⟩, ⟨m21_⟩⟩
      case rest =>
       clear HC41
       try clear c1
       try clear c2
       try clear p2
       try clear q2
       try clear hx2
       try clear c3
       try clear c4
       try clear c5
       try clear c9
       try clear c11
       try clear c11b0
       try clear c13
       try clear c14
       try clear c17
       try clear c17b0
       try clear c19
       try clear c20
       try clear p22
       try clear q22
       try clear hx22
       try clear c25
       try clear c26
       try clear c31
       try clear c32
       try clear c33
       try clear c35
       try clear c36
       try clear c38
       try clear c38b0
       try clear c39
       try clear c39b0
       try clear c42
       try clear c43
       try clear c47
       try clear c48
       try clear c49
       try clear c53
       try clear c54
       try clear c55
       try clear c56
       try clear hcz15_0
       try clear hcz15_1
       try clear hcz15_2
       try clear hcz21_0
       try clear hcz21_1
       try clear hcz21_2
       try clear hcz23_0
       try clear hcz23_1
       try clear hcz23_2
       try clear hcz27_0
       try clear hcz27_1
       try clear hcz27_2
       try clear hcz29_0
       try clear hcz29_1
       try clear hcz29_2
       try clear hcz34_0
       try clear hcz34_1
       try clear hcz34_2
       try clear hcz36_0
       try clear hcz36_1
       try clear hcz36_2
       try clear hcz44_0
       try clear hcz44_1
       try clear hcz44_2
       try clear hcz50_0
       try clear hcz50_1
       try clear hcz50_2
       try clear hcz50_3
       try clear hcz50_4
       try clear hcz50_5
       try clear hcz50_6
       try clear hcz50_7
       try clear hcz57_0
       try clear hcz57_1
       try clear hcz57_2
       try clear hcz57_3
       try clear hcz57_4
       try clear hcz57_5
       try clear hcz57_6
       try clear hcz57_7
       try clear hfz15_0
       try clear hfz15_1
       try clear hfz15_2
       try clear hfz21_0
       try clear hfz21_1
       try clear hfz21_2
       try clear hfz23_0
       try clear hfz23_1
       try clear hfz23_2
       try clear hfz27_0
       try clear hfz27_1
       try clear hfz27_2
       try clear hfz29_0
       try clear hfz29_1
       try clear hfz29_2
       try clear hfz34_0
       try clear hfz34_1
       try clear hfz34_2
       try clear hfz36_0
       try clear hfz36_1
       try clear hfz36_2
       try clear hfz44_0
       try clear hfz44_1
       try clear hfz44_2
       try clear hfz50_0
       try clear hfz50_1
       try clear hfz50_2
       try clear hfz50_3
       try clear hfz50_4
       try clear hfz50_5
       try clear hfz50_6
       try clear hfz50_7
       try clear hfz57_0
       try clear hfz57_1
       try clear hfz57_2
       try clear hfz57_3
       try clear hfz57_4
       try clear hfz57_5
       try clear hfz57_6
       try clear hfz57_7
       try clear hx229_0
       try clear hx229_1
       try clear hx229_2
       try clear hx229_3
       try clear hx229_4
       try clear hx229_5
       try clear hx229_6
       try clear hx229_7
       try clear p2
       try clear p229
       try clear q229
       obtain ⟨kq, x50_40, rfl, HA, HJ40, BK223, BK224, BK225, BK230, HB⟩ := hcut
       cases kq with
       | zero => exact absurd HA.out (by simp [impl_RecGo.j1])
       | succ kj40 =>
        have H := HA.out
        clear HA
        simp only [impl_RecGo.j1] at H
        have HC58 := Aside0.mk H
        clear H
        go_upto_if 50 with (fail)
        go_cut [9] (fun v9 wc => ∃ (kq : Nat) (x9_57 : Int), v9 = .int .i64 x9_57 ∧ Aside0 (impl_RecGo.j2 kq l0 x9_57 a2_1 a1_0 a1_1 a1_2 ((rd_T44 l0 t228).f0) ((rd_T44 l0 t228).f1) ((rd_T44 l0 t228).f2) ((rd_T44 l0 t228).f3) ((rd_T44 l0 t228).f4) ((rd_T44 l0 t228).f5) ((rd_T44 l0 t228).f6) ((rd_T44 l0 t228).f7) = some (r1, r2, r3, r4)) ∧ Aside0 (kq ≤ kj40) ∧ Aside0 (wc.heap[gb223]? = some (.cells #[.string a1_0, .int .i64 a1_1, .int .i64 a1_2] 29 (0, 0))) ∧ Aside0 (wc.heap[gb224]? = some (.cells #[.int .i64 a2_0, .bool a2_1] 35 (0, 0))) ∧ Aside0 (wc.heap[gb225]? = some (.cells #[.string (⟨#[]⟩ : ByteArray), .int .i64 0, .int .i64 0] 29 (0, 0))) ∧ Aside0 (wc.heap[gb230]? = some (.cells #[.string ((rd_T44 l0 t228).f0), .int .i64 ((rd_T44 l0 t228).f1), .string ((rd_T44 l0 t228).f2), .string ((rd_T44 l0 t228).f3), .int .i64 ((rd_T44 l0 t228).f4), .int .i64 ((rd_T44 l0 t228).f5), .string ((rd_T44 l0 t228).f6), .string ((rd_T44 l0 t228).f7)] 44 (0, 0))) ∧ Aside0 (Below w.heap.size w wc))
        case first =>
         have H := HC58.out
         clear HC58
         by_cases c59 : x50_40 = true
         ·subst c59
          have H1 : (impl_RecGo.j2 kj40 l0 (mx ji40 ((rd_T44 l0 t228).f4)) a2_1 a1_0 a1_1 a1_2 ((rd_T44 l0 t228).f0) ((rd_T44 l0 t228).f1) ((rd_T44 l0 t228).f2) ((rd_T44 l0 t228).f3) ((rd_T44 l0 t228).f4) ((rd_T44 l0 t228).f5) ((rd_T44 l0 t228).f6) ((rd_T44 l0 t228).f7)) = some (r1, r2, r3, r4) := by rw [if_pos rfl] at H; exact H
          clear H
          have H := H1
          clear H1
          obtain ⟨ji60, hji60⟩ : ∃ j_ : Int, (mx ji40 ((rd_T44 l0 t228).f4)) = j_ := ⟨_, rfl⟩
          replace H : (impl_RecGo.j2 kj40 l0 ji60 a2_1 a1_0 a1_1 a1_2 ((rd_T44 l0 t228).f0) ((rd_T44 l0 t228).f1) ((rd_T44 l0 t228).f2) ((rd_T44 l0 t228).f3) ((rd_T44 l0 t228).f4) ((rd_T44 l0 t228).f5) ((rd_T44 l0 t228).f6) ((rd_T44 l0 t228).f7)) = some (r1, r2, r3, r4) := by first | (rw [hji60] at H; exact H) | (simp only [hji60] at H ⊢; exact H)
          have hji60_ : (if ji40 < ((rd_T44 l0 t228).f4) then ((rd_T44 l0 t228).f4) else ji40) = ji60 := hji60
          have H' := Aside0.mk H
          clear H
          have hnb61 := NB230_223.out
          have hnc61 := NB223_230.out
          have hnb62 := NB230_224.out
          have hnc62 := NB224_230.out
          have hnb63 := NB230_225.out
          have hnc63 := NB225_230.out
          obtain ⟨hcz64_0, hcz64_1, hcz64_2, hcz64_3, hcz64_4, hcz64_5, hcz64_6, hcz64_7⟩ := cz8_ BK230.out
          obtain ⟨hfz64_0, hfz64_1, hfz64_2, hfz64_3, hfz64_4, hfz64_5, hfz64_6, hfz64_7⟩ := fz8_ BK230.out
          go_wp2
          go_meet
          case rel => exact ⟨_, (ji60), (by first | rfl | (simp; done) | (simp only [← hji60] <;> (first | rfl | simp)) | (simp [*]; done)), H', ⟨(by have := HJ3.out; have := HJ40.out; first | omega | exact Nat.le_refl _)⟩, ⟨m16_⟩, ⟨m22_⟩, ⟨m25_⟩, ⟨m44_⟩, ⟨m21_⟩⟩
         ·replace c59 := Bool.eq_false_iff.mpr c59
          subst c59
          have H1 : (impl_RecGo.j2 kj40 l0 ji40 a2_1 a1_0 a1_1 a1_2 ((rd_T44 l0 t228).f0) ((rd_T44 l0 t228).f1) ((rd_T44 l0 t228).f2) ((rd_T44 l0 t228).f3) ((rd_T44 l0 t228).f4) ((rd_T44 l0 t228).f5) ((rd_T44 l0 t228).f6) ((rd_T44 l0 t228).f7)) = some (r1, r2, r3, r4) := by rw [if_neg (show ¬ (false = true) by decide)] at H; exact H
          clear H
          have H := H1
          clear H1
          have H' := Aside0.mk H
          clear H
          go_wp2
          go_meet
          case rel => exact ⟨_, (ji40), (by first | rfl | (simp; done) | (simp only [← hji40] <;> (first | rfl | simp)) | (simp [*]; done)), H', ⟨(by have := HJ3.out; have := HJ40.out; first | omega | exact Nat.le_refl _)⟩, ⟨m16_⟩, ⟨m22_⟩, ⟨m25_⟩, ⟨m44_⟩, ⟨m21_⟩⟩
        case rest =>
         clear HC58
         try clear c1
         try clear c2
         try clear p2
         try clear q2
         try clear hx2
         try clear c3
         try clear c4
         try clear c5
         try clear c6
         try clear c9
         try clear c11
         try clear c11b0
         try clear c13
         try clear c14
         try clear c17
         try clear c17b0
         try clear c19
         try clear c20
         try clear p22
         try clear q22
         try clear hx22
         try clear c25
         try clear c26
         try clear c31
         try clear c32
         try clear c33
         try clear c35
         try clear c36
         try clear c38
         try clear c38b0
         try clear c39
         try clear c39b0
         try clear c42
         try clear c43
         try clear c47
         try clear c48
         try clear c49
         try clear c53
         try clear c54
         try clear c55
         try clear c56
         try clear c59
         try clear c61
         try clear c62
         try clear c63
         try clear hcz15_0
         try clear hcz15_1
         try clear hcz15_2
         try clear hcz21_0
         try clear hcz21_1
         try clear hcz21_2
         try clear hcz23_0
         try clear hcz23_1
         try clear hcz23_2
         try clear hcz27_0
         try clear hcz27_1
         try clear hcz27_2
         try clear hcz29_0
         try clear hcz29_1
         try clear hcz29_2
         try clear hcz34_0
         try clear hcz34_1
         try clear hcz34_2
         try clear hcz36_0
         try clear hcz36_1
         try clear hcz36_2
         try clear hcz44_0
         try clear hcz44_1
         try clear hcz44_2
         try clear hcz50_0
         try clear hcz50_1
         try clear hcz50_2
         try clear hcz50_3
         try clear hcz50_4
         try clear hcz50_5
         try clear hcz50_6
         try clear hcz50_7
         try clear hcz57_0
         try clear hcz57_1
         try clear hcz57_2
         try clear hcz57_3
         try clear hcz57_4
         try clear hcz57_5
         try clear hcz57_6
         try clear hcz57_7
         try clear hcz64_0
         try clear hcz64_1
         try clear hcz64_2
         try clear hcz64_3
         try clear hcz64_4
         try clear hcz64_5
         try clear hcz64_6
         try clear hcz64_7
         try clear hfz15_0
         try clear hfz15_1
         try clear hfz15_2
         try clear hfz21_0
         try clear hfz21_1
         try clear hfz21_2
         try clear hfz23_0
         try clear hfz23_1
         try clear hfz23_2
         try clear hfz27_0
         try clear hfz27_1
         try clear hfz27_2
         try clear hfz29_0
         try clear hfz29_1
         try clear hfz29_2
         try clear hfz34_0
         try clear hfz34_1
         try clear hfz34_2
         try clear hfz36_0
         try clear hfz36_1
         try clear hfz36_2
         try clear hfz44_0
         try clear hfz44_1
         try clear hfz44_2
         try clear hfz50_0
         try clear hfz50_1
         try clear hfz50_2
         try clear hfz50_3
         try clear hfz50_4
         try clear hfz50_5
         try clear hfz50_6
         try clear hfz50_7
         try clear hfz57_0
         try clear hfz57_1
         try clear hfz57_2
         try clear hfz57_3
         try clear hfz57_4
         try clear hfz57_5
         try clear hfz57_6
         try clear hfz57_7
         try clear hfz64_0
         try clear hfz64_1
         try clear hfz64_2
         try clear hfz64_3
         try clear hfz64_4
         try clear hfz64_5
         try clear hfz64_6
         try clear hfz64_7
         try clear hx229_0
         try clear hx229_1
         try clear hx229_2
         try clear hx229_3
         try clear hx229_4
         try clear hx229_5
         try clear hx229_6
         try clear hx229_7
         try clear p2
         try clear p22
         try clear p229
         try clear q2
         try clear q22
         try clear q229
         obtain ⟨kq, x9_57, rfl, HA, HJ57, BK223, BK224, BK225, BK230, HB⟩ := hcut
         cases kq with
         | zero => exact absurd HA.out (by simp [impl_RecGo.j2])
         | succ kj57 =>
          have H := HA.out
          clear HA
          simp only [impl_RecGo.j2] at H
          by_cases c65 : x9_57 > ((rd_T44 l0 t228).f5)
          ·rw [if_pos c65] at H
           have c65b0 : decide (((rd_T44 l0 t228).f5) < x9_57) = true := decide_eq_true c65
           clear c65
           replace H := Option.bind_eq_some_iff.mp H
           obtain ⟨t231, A660, H⟩ := H
           replace H : (some (((rd_T44 l0 t228).f7), wrap64 (a1_1 + ((rd_T44 l0 t228).f5)), t231, true)) = some (r1, r2, r3, r4) := H
           have A66 := Aside0.mk A660
           clear A660
           simp only [Option.some.injEq, Prod.mk.injEq] at H
           obtain ⟨rfl, rfl, rfl, rfl⟩ := H
           have hnb67 := NB230_223.out
           have hnc67 := NB223_230.out
           have hnb68 := NB230_224.out
           have hnc68 := NB224_230.out
           have hnb69 := NB230_225.out
           have hnc69 := NB225_230.out
           obtain ⟨hcz70_0, hcz70_1, hcz70_2, hcz70_3, hcz70_4, hcz70_5, hcz70_6, hcz70_7⟩ := cz8_ BK230.out
           obtain ⟨hfz70_0, hfz70_1, hfz70_2, hfz70_3, hfz70_4, hfz70_5, hfz70_6, hfz70_7⟩ := fz8_ BK230.out
           try go_wp2
           have n0_ := Aside0.mk (blk_drew BK223.out)
           have n1_ := Aside0.mk (blk_drew BK224.out)
           have n2_ := Aside0.mk (blk_drew BK225.out)
           have n3_ := Aside0.mk (blk_drew BK230.out)
           have n4_ := Aside0.mk (below_drew1 HB.out)
           clear BK223
           clear BK224
           clear BK225
           clear BK230
           clear HB
           have BK223 := n0_
           have BK224 := n1_
           have BK225 := n2_
           have BK230 := n3_
           have HB := n4_
           clear n0_ n1_ n2_ n3_ n4_
           refine start_ (n := 11) (S := fun w' => w'.cell? ⟨gb223, 0, none⟩ = some (.string a1_0) ∧ w'.cell? ⟨gb223, 1, none⟩ = some (.int .i64 a1_1) ∧ w'.cell? ⟨gb223, 2, none⟩ = some (.int .i64 a1_2)) (ds := []) (bm 11 0) (by kernel_rfl) rfl rfl ⟨(blk_cell BK223.out 0).trans rfl, (blk_cell BK223.out 1).trans rfl, (blk_cell BK223.out 2).trans rfl⟩ (fun hHeld => ?_); refine with_tabW impl_RecGo.tab12 impl_RecGo.bits12 (fun HT_ HW_ => ?_)
           generalize wc.drew = w71 at BK223 BK224 BK225 BK230 HB hHeld ⊢
           refine pure_ (i := 0) (N := some 66) (v := ?_) (a' := ?_) (bm 11 1) rfl rfl (any_of HT_.out (by kernel_rfl)) (fun _ _ _ h => h) (Or.inl ⟨(by rfl), ?_⟩) ?_ ?_; rotate_left; intro w'; go_simp; with_reducible rfl; rotate_left; simp only [Act.put, List.setIfInBounds_toArray, List.set_cons_zero, List.set_cons_succ, i64_w, i32_w]; rfl
           refine pure_ (i := 1) (N := some 67) (v := ?_) (a' := ?_) (bm 11 3) rfl rfl (any_of HT_.out (by kernel_rfl)) (fun _ _ _ h => h) (Or.inl ⟨(by rfl), ?_⟩) ?_ ?_; rotate_left; intro w'; go_simp; with_reducible rfl; rotate_left; simp only [Act.put, List.setIfInBounds_toArray, List.set_cons_zero, List.set_cons_succ, i64_w, i32_w]; rfl
           refine pure_ (i := 3) (N := some 69) (v := ?_) (a' := ?_) (bm 11 11) rfl rfl (any_of HT_.out (by kernel_rfl)) (fun _ _ _ h => h) (Or.inl ⟨(by rfl), ?_⟩) ?_ ?_; rotate_left; intro w'; go_simp; with_reducible rfl; rotate_left; simp only [Act.put, List.setIfInBounds_toArray, List.set_cons_zero, List.set_cons_succ, i64_w, i32_w]; rfl
           refine pure_ (i := 5) (N := some 71) (v := ?_) (a' := ?_) (bm 11 43) rfl rfl (any_of HT_.out (by kernel_rfl)) (fun _ _ _ h => h) (Or.inl ⟨(by rfl), ?_⟩) ?_ ?_; rotate_left; intro w'; go_simp; with_reducible rfl; rotate_left; simp only [Act.put, List.setIfInBounds_toArray, List.set_cons_zero, List.set_cons_succ, i64_w, i32_w]; rfl
           refine pure_ (i := 6) (N := some 72) (v := ?_) (a' := ?_) (bm 11 107) rfl rfl (any_of HT_.out (by kernel_rfl)) (fun _ _ _ h => h) (Or.inl ⟨(by rfl), ?_⟩) ?_ ?_; rotate_left; intro w'; go_simp; with_reducible rfl; rotate_left; simp only [Act.put, List.setIfInBounds_toArray, List.set_cons_zero, List.set_cons_succ, i64_w, i32_w]; rfl
           refine take_ (i := 2) (N := some 68) (v := ?_) (a' := ?_) (bm 11 111) rfl rfl (take_ofW HT_.out HW_.out (by kernel_rfl)) (fun _ _ _ h => h) (Or.inl ⟨(by rfl), ?_⟩) hHeld ?_ ?_; rotate_left; rintro w' ⟨s0, s1, s2⟩; go_simp; with_reducible rfl; rotate_left; simp only [Act.put, List.setIfInBounds_toArray, List.set_cons_zero, List.set_cons_succ, i64_w, i32_w]; rfl
           refine pure_ (i := 4) (N := some 70) (v := ?_) (a' := ?_) (bm 11 127) rfl rfl (any_of HT_.out (by kernel_rfl)) (fun _ _ _ h => h) (Or.inl ⟨(by rfl), ?_⟩) ?_ ?_; rotate_left; intro w'; go_simp; with_reducible rfl; rotate_left; simp only [Act.put, List.setIfInBounds_toArray, List.set_cons_zero, List.set_cons_succ, i64_w, i32_w]; rfl
           refine one_ (i := 7) (N := some 73) (bm 11 255) rfl rfl (one_of HT_.out (by kernel_rfl)) (by decide) (fun K hK => ?_)
           refine goes_ Try.func37 (by kernel_rfl) rfl #[.slice (some ad229) l0.length c0, .string ((rd_T44 l0 t228).f7)] (by rfl) rfl rfl m1_ ?_
           with_reducible refine (impl_bound.calls kj57 _ _ l0 ((rd_T44 l0 t228).f7) t231 _ ?side1 ?side2 A66.out).mono ?_
           (case side1 => exact m9_)
           (case side2 => exact HC0.out)
           rintro e w72 ⟨rfl, hb⟩
           refine ⟨_, rfl, ?_⟩
           have n0_ := Aside0.mk (blk_below (g := gb223) (o := .cells #[.string a1_0, .int .i64 a1_1, .int .i64 a1_2] 29 (0, 0)) m16_ hb)
           have n1_ := Aside0.mk (blk_below (g := gb224) (o := .cells #[.int .i64 a2_0, .bool a2_1] 35 (0, 0)) m22_ hb)
           have n2_ := Aside0.mk (blk_below (g := gb225) (o := .cells #[.string (⟨#[]⟩ : ByteArray), .int .i64 0, .int .i64 0] 29 (0, 0)) m25_ hb)
           have n3_ := Aside0.mk (blk_below (g := gb230) (o := .cells #[.string ((rd_T44 l0 t228).f0), .int .i64 ((rd_T44 l0 t228).f1), .string ((rd_T44 l0 t228).f2), .string ((rd_T44 l0 t228).f3), .int .i64 ((rd_T44 l0 t228).f4), .int .i64 ((rd_T44 l0 t228).f5), .string ((rd_T44 l0 t228).f6), .string ((rd_T44 l0 t228).f7)] 44 (0, 0)) m44_ hb)
           have n4_ := Aside0.mk (below_step m21_ hb)
           clear BK223
           clear BK224
           clear BK225
           clear BK230
           clear HB
           have BK223 := n0_
           have BK224 := n1_
           have BK225 := n2_
           have BK230 := n3_
           have HB := n4_
           clear n0_ n1_ n2_ n3_ n4_
           (try clear hb)
           (try clear hb2)
           (try clear hk)
           (try clear hi)
           refine hK.out _ _ ⟨(blk_cell BK223.out 0).trans rfl, (blk_cell BK223.out 1).trans rfl, (blk_cell BK223.out 2).trans rfl⟩ (fun hHeld => ?_)
           clear hK K
           refine no_ ?_
           refine pure_ (i := 8) (N := some 74) (v := ?_) (a' := ?_) (bm 11 511) rfl rfl (any_of HT_.out (by kernel_rfl)) (fun _ _ _ h => h) (Or.inl ⟨(by rfl), ?_⟩) ?_ ?_; rotate_left; intro w'; go_simp; with_reducible rfl; rotate_left; simp only [Act.put, List.setIfInBounds_toArray, List.set_cons_zero, List.set_cons_succ, i64_w, i32_w]; rfl
           refine one_ (i := 9) (N := none) (bm 11 1023) rfl rfl (one_of HT_.out (by kernel_rfl)) (by decide) (fun K hK => ?_)
           have hs73 : w72.cell? ⟨gb225, 0, none⟩ = some (.string (⟨#[]⟩ : ByteArray)) := (blk_cell BK225.out 0).trans rfl
           have hfs73 := blk_frozen BK225.out 0
           have hns73_0 := NB223_225.out
           have hns73_1 := NB224_225.out
           have hns73_3 := NB230_225.out
           have hms73_0 := NB225_223.out
           have hms73_1 := NB225_224.out
           have hms73_3 := NB225_230.out
           have hs74 : w72.cell? ⟨gb225, 1, none⟩ = some (.int .i64 0) := (blk_cell BK225.out 1).trans rfl
           have hfs74 := blk_frozen BK225.out 1
           have hns74_0 := NB223_225.out
           have hns74_1 := NB224_225.out
           have hns74_3 := NB230_225.out
           have hms74_0 := NB225_223.out
           have hms74_1 := NB225_224.out
           have hms74_3 := NB225_230.out
           have hs75 : w72.cell? ⟨gb225, 2, none⟩ = some (.int .i64 0) := (blk_cell BK225.out 2).trans rfl
           have hfs75 := blk_frozen BK225.out 2
           have hns75_0 := NB223_225.out
           have hns75_1 := NB224_225.out
           have hns75_3 := NB230_225.out
           have hms75_0 := NB225_223.out
           have hms75_1 := NB225_224.out
           have hms75_3 := NB225_230.out
           refine skip_ (w1 := ?_) (by rfl) rfl ?_ ?_
           rotate_left
           ·go_simp
            rfl
           refine hK.out _ _ ⟨((cell_far (p := ⟨gb225, _, none⟩) NB223_225.out _).trans (((cell_far (p := ⟨gb225, _, none⟩) NB223_225.out _).trans (((cell_far (p := ⟨gb225, _, none⟩) NB223_225.out _).trans (hHeld.1)))))), ((cell_far (p := ⟨gb225, _, none⟩) NB223_225.out _).trans (((cell_far (p := ⟨gb225, _, none⟩) NB223_225.out _).trans (((cell_far (p := ⟨gb225, _, none⟩) NB223_225.out _).trans (hHeld.2.1)))))), ((cell_far (p := ⟨gb225, _, none⟩) NB223_225.out _).trans (((cell_far (p := ⟨gb225, _, none⟩) NB223_225.out _).trans (((cell_far (p := ⟨gb225, _, none⟩) NB223_225.out _).trans (hHeld.2.2))))))⟩ (fun hHeld => ?_)
           clear hK K
           refine pure_ (i := 10) (N := some 7) (v := ?_) (a' := ?_) (bm 11 2047) rfl rfl (any_of HT_.out (by kernel_rfl)) (fun _ _ _ h => h) (Or.inl ⟨(by rfl), ?_⟩) ?_ ?_; rotate_left; intro w'; go_simp; with_reducible rfl; rotate_left; simp only [Act.put, List.setIfInBounds_toArray, List.set_cons_zero, List.set_cons_succ, i64_w, i32_w]; rfl
           refine done_ (done_of HT_.out (by kernel_rfl)) ?_
           try go_wp2
           refine bodyPost_ret (results_ct rfl _ _ gb225 29 #[.string ((rd_T44 l0 t228).f7), .int .i64 (wrap64 (a1_1 + ((rd_T44 l0 t228).f5))), .int .i64 t231] (0, 0) _ rfl (by (with_reducible repeat (first | refine blk_drewN ?_ _ | refine blk_drew ?_ | refine blk_alloc ?_ _)); refine blk_put (cs := #[.string ((rd_T44 l0 t228).f7), .int .i64 (wrap64 (a1_1 + ((rd_T44 l0 t228).f5))), .int .i64 0]) ?_ 2 _ rfl; (with_reducible repeat (first | refine blk_drewN ?_ _ | refine blk_drew ?_ | refine blk_alloc ?_ _)); refine blk_put (cs := #[.string ((rd_T44 l0 t228).f7), .int .i64 0, .int .i64 0]) ?_ 1 _ rfl; (with_reducible repeat (first | refine blk_drewN ?_ _ | refine blk_drew ?_ | refine blk_alloc ?_ _)); refine blk_put (cs := #[.string (⟨#[]⟩ : ByteArray), .int .i64 0, .int .i64 0]) ?_ 0 _ rfl; (with_reducible repeat (first | refine blk_drewN ?_ _ | refine blk_drew ?_ | refine blk_alloc ?_ _)); exact BK225.out) Try.underlying29 rfl (by kernel_rfl)) rfl ?_
           exact ⟨m66_, m21_⟩
          ·rw [if_neg c65] at H
           have c65b0 : decide (((rd_T44 l0 t228).f5) < x9_57) = false := decide_eq_false c65
           clear c65
           by_cases c76 : a2_1 = true
           ·subst c76
            have H1 : ((impl_bound.f kj57 l0 ((rd_T44 l0 t228).f6)).bind fun t232 => (some (((rd_T44 l0 t228).f6), wrap64 (a1_1 + x9_57), t232, true))) = some (r1, r2, r3, r4) := by rw [if_pos rfl] at H; exact H
            clear H
            have H := H1
            clear H1
            replace H := Option.bind_eq_some_iff.mp H
            obtain ⟨t232, A770, H⟩ := H
            replace H : (some (((rd_T44 l0 t228).f6), wrap64 (a1_1 + x9_57), t232, true)) = some (r1, r2, r3, r4) := H
            have A77 := Aside0.mk A770
            clear A770
            simp only [Option.some.injEq, Prod.mk.injEq] at H
            obtain ⟨rfl, rfl, rfl, rfl⟩ := H
            have hnb78 := NB230_223.out
            have hnc78 := NB223_230.out
            have hnb79 := NB230_224.out
            have hnc79 := NB224_230.out
            have hnb80 := NB230_225.out
            have hnc80 := NB225_230.out
            obtain ⟨hcz81_0, hcz81_1, hcz81_2, hcz81_3, hcz81_4, hcz81_5, hcz81_6, hcz81_7⟩ := cz8_ BK230.out
            obtain ⟨hfz81_0, hfz81_1, hfz81_2, hfz81_3, hfz81_4, hfz81_5, hfz81_6, hfz81_7⟩ := fz8_ BK230.out
            try go_wp2
            have n0_ := Aside0.mk (blk_drew BK223.out)
            have n1_ := Aside0.mk (blk_drew BK224.out)
            have n2_ := Aside0.mk (blk_drew BK225.out)
            have n3_ := Aside0.mk (blk_drew BK230.out)
            have n4_ := Aside0.mk (below_drew1 HB.out)
            clear BK223
            clear BK224
            clear BK225
            clear BK230
            clear HB
            have BK223 := n0_
            have BK224 := n1_
            have BK225 := n2_
            have BK230 := n3_
            have HB := n4_
            clear n0_ n1_ n2_ n3_ n4_
            refine start_ (n := 11) (S := fun w' => w'.cell? ⟨gb223, 0, none⟩ = some (.string a1_0) ∧ w'.cell? ⟨gb223, 1, none⟩ = some (.int .i64 a1_1) ∧ w'.cell? ⟨gb223, 2, none⟩ = some (.int .i64 a1_2)) (ds := []) (bm 11 0) (by kernel_rfl) rfl rfl ⟨(blk_cell BK223.out 0).trans rfl, (blk_cell BK223.out 1).trans rfl, (blk_cell BK223.out 2).trans rfl⟩ (fun hHeld => ?_); refine with_tabW impl_RecGo.tab12 impl_RecGo.bits12 (fun HT_ HW_ => ?_)
            generalize wc.drew = w82 at BK223 BK224 BK225 BK230 HB hHeld ⊢
            refine pure_ (i := 0) (N := some 66) (v := ?_) (a' := ?_) (bm 11 1) rfl rfl (any_of HT_.out (by kernel_rfl)) (fun _ _ _ h => h) (Or.inl ⟨(by rfl), ?_⟩) ?_ ?_; rotate_left; intro w'; go_simp; with_reducible rfl; rotate_left; simp only [Act.put, List.setIfInBounds_toArray, List.set_cons_zero, List.set_cons_succ, i64_w, i32_w]; rfl
            refine pure_ (i := 1) (N := some 67) (v := ?_) (a' := ?_) (bm 11 3) rfl rfl (any_of HT_.out (by kernel_rfl)) (fun _ _ _ h => h) (Or.inl ⟨(by rfl), ?_⟩) ?_ ?_; rotate_left; intro w'; go_simp; with_reducible rfl; rotate_left; simp only [Act.put, List.setIfInBounds_toArray, List.set_cons_zero, List.set_cons_succ, i64_w, i32_w]; rfl
            refine pure_ (i := 3) (N := some 69) (v := ?_) (a' := ?_) (bm 11 11) rfl rfl (any_of HT_.out (by kernel_rfl)) (fun _ _ _ h => h) (Or.inl ⟨(by rfl), ?_⟩) ?_ ?_; rotate_left; intro w'; go_simp; with_reducible rfl; rotate_left; simp only [Act.put, List.setIfInBounds_toArray, List.set_cons_zero, List.set_cons_succ, i64_w, i32_w]; rfl
            refine pure_ (i := 5) (N := some 71) (v := ?_) (a' := ?_) (bm 11 43) rfl rfl (any_of HT_.out (by kernel_rfl)) (fun _ _ _ h => h) (Or.inl ⟨(by rfl), ?_⟩) ?_ ?_; rotate_left; intro w'; go_simp; with_reducible rfl; rotate_left; simp only [Act.put, List.setIfInBounds_toArray, List.set_cons_zero, List.set_cons_succ, i64_w, i32_w]; rfl
            refine pure_ (i := 6) (N := some 72) (v := ?_) (a' := ?_) (bm 11 107) rfl rfl (any_of HT_.out (by kernel_rfl)) (fun _ _ _ h => h) (Or.inl ⟨(by rfl), ?_⟩) ?_ ?_; rotate_left; intro w'; go_simp; with_reducible rfl; rotate_left; simp only [Act.put, List.setIfInBounds_toArray, List.set_cons_zero, List.set_cons_succ, i64_w, i32_w]; rfl
            refine take_ (i := 2) (N := some 68) (v := ?_) (a' := ?_) (bm 11 111) rfl rfl (take_ofW HT_.out HW_.out (by kernel_rfl)) (fun _ _ _ h => h) (Or.inl ⟨(by rfl), ?_⟩) hHeld ?_ ?_; rotate_left; rintro w' ⟨s0, s1, s2⟩; go_simp; with_reducible rfl; rotate_left; simp only [Act.put, List.setIfInBounds_toArray, List.set_cons_zero, List.set_cons_succ, i64_w, i32_w]; rfl
            refine pure_ (i := 4) (N := some 70) (v := ?_) (a' := ?_) (bm 11 127) rfl rfl (any_of HT_.out (by kernel_rfl)) (fun _ _ _ h => h) (Or.inl ⟨(by rfl), ?_⟩) ?_ ?_; rotate_left; intro w'; go_simp; with_reducible rfl; rotate_left; simp only [Act.put, List.setIfInBounds_toArray, List.set_cons_zero, List.set_cons_succ, i64_w, i32_w]; rfl
            refine one_ (i := 7) (N := some 73) (bm 11 255) rfl rfl (one_of HT_.out (by kernel_rfl)) (by decide) (fun K hK => ?_)
            refine goes_ Try.func37 (by kernel_rfl) rfl #[.slice (some ad229) l0.length c0, .string ((rd_T44 l0 t228).f6)] (by rfl) rfl rfl m1_ ?_
            with_reducible refine (impl_bound.calls kj57 _ _ l0 ((rd_T44 l0 t228).f6) t232 _ ?side1 ?side2 A77.out).mono ?_
            (case side1 => exact m9_)
            (case side2 => exact HC0.out)
            rintro e w83 ⟨rfl, hb⟩
            refine ⟨_, rfl, ?_⟩
            have n0_ := Aside0.mk (blk_below (g := gb223) (o := .cells #[.string a1_0, .int .i64 a1_1, .int .i64 a1_2] 29 (0, 0)) m16_ hb)
            have n1_ := Aside0.mk (blk_below (g := gb224) (o := .cells #[.int .i64 a2_0, .bool true] 35 (0, 0)) m22_ hb)
            have n2_ := Aside0.mk (blk_below (g := gb225) (o := .cells #[.string (⟨#[]⟩ : ByteArray), .int .i64 0, .int .i64 0] 29 (0, 0)) m25_ hb)
            have n3_ := Aside0.mk (blk_below (g := gb230) (o := .cells #[.string ((rd_T44 l0 t228).f0), .int .i64 ((rd_T44 l0 t228).f1), .string ((rd_T44 l0 t228).f2), .string ((rd_T44 l0 t228).f3), .int .i64 ((rd_T44 l0 t228).f4), .int .i64 ((rd_T44 l0 t228).f5), .string ((rd_T44 l0 t228).f6), .string ((rd_T44 l0 t228).f7)] 44 (0, 0)) m44_ hb)
            have n4_ := Aside0.mk (below_step m21_ hb)
            clear BK223
            clear BK224
            clear BK225
            clear BK230
            clear HB
            have BK223 := n0_
            have BK224 := n1_
            have BK225 := n2_
            have BK230 := n3_
            have HB := n4_
            clear n0_ n1_ n2_ n3_ n4_
            (try clear hb)
            (try clear hb2)
            (try clear hk)
            (try clear hi)
            refine hK.out _ _ ⟨(blk_cell BK223.out 0).trans rfl, (blk_cell BK223.out 1).trans rfl, (blk_cell BK223.out 2).trans rfl⟩ (fun hHeld => ?_)
            clear hK K
            refine no_ ?_
            refine pure_ (i := 8) (N := some 74) (v := ?_) (a' := ?_) (bm 11 511) rfl rfl (any_of HT_.out (by kernel_rfl)) (fun _ _ _ h => h) (Or.inl ⟨(by rfl), ?_⟩) ?_ ?_; rotate_left; intro w'; go_simp; with_reducible rfl; rotate_left; simp only [Act.put, List.setIfInBounds_toArray, List.set_cons_zero, List.set_cons_succ, i64_w, i32_w]; rfl
            refine one_ (i := 9) (N := none) (bm 11 1023) rfl rfl (one_of HT_.out (by kernel_rfl)) (by decide) (fun K hK => ?_)
            have hs84 : w83.cell? ⟨gb225, 0, none⟩ = some (.string (⟨#[]⟩ : ByteArray)) := (blk_cell BK225.out 0).trans rfl
            have hfs84 := blk_frozen BK225.out 0
            have hns84_0 := NB223_225.out
            have hns84_1 := NB224_225.out
            have hns84_3 := NB230_225.out
            have hms84_0 := NB225_223.out
            have hms84_1 := NB225_224.out
            have hms84_3 := NB225_230.out
            have hs85 : w83.cell? ⟨gb225, 1, none⟩ = some (.int .i64 0) := (blk_cell BK225.out 1).trans rfl
            have hfs85 := blk_frozen BK225.out 1
            have hns85_0 := NB223_225.out
            have hns85_1 := NB224_225.out
            have hns85_3 := NB230_225.out
            have hms85_0 := NB225_223.out
            have hms85_1 := NB225_224.out
            have hms85_3 := NB225_230.out
            have hs86 : w83.cell? ⟨gb225, 2, none⟩ = some (.int .i64 0) := (blk_cell BK225.out 2).trans rfl
            have hfs86 := blk_frozen BK225.out 2
            have hns86_0 := NB223_225.out
            have hns86_1 := NB224_225.out
            have hns86_3 := NB230_225.out
            have hms86_0 := NB225_223.out
            have hms86_1 := NB225_224.out
            have hms86_3 := NB225_230.out
            refine skip_ (w1 := ?_) (by rfl) rfl ?_ ?_
            rotate_left
            ·go_simp
             rfl
            refine hK.out _ _ ⟨((cell_far (p := ⟨gb225, _, none⟩) NB223_225.out _).trans (((cell_far (p := ⟨gb225, _, none⟩) NB223_225.out _).trans (((cell_far (p := ⟨gb225, _, none⟩) NB223_225.out _).trans (hHeld.1)))))), ((cell_far (p := ⟨gb225, _, none⟩) NB223_225.out _).trans (((cell_far (p := ⟨gb225, _, none⟩) NB223_225.out _).trans (((cell_far (p := ⟨gb225, _, none⟩) NB223_225.out _).trans (hHeld.2.1)))))), ((cell_far (p := ⟨gb225, _, none⟩) NB223_225.out _).trans (((cell_far (p := ⟨gb225, _, none⟩) NB223_225.out _).trans (((cell_far (p := ⟨gb225, _, none⟩) NB223_225.out _).trans (hHeld.2.2))))))⟩ (fun hHeld => ?_)
            clear hK K
            refine pure_ (i := 10) (N := some 7) (v := ?_) (a' := ?_) (bm 11 2047) rfl rfl (any_of HT_.out (by kernel_rfl)) (fun _ _ _ h => h) (Or.inl ⟨(by rfl), ?_⟩) ?_ ?_; rotate_left; intro w'; go_simp; with_reducible rfl; rotate_left; simp only [Act.put, List.setIfInBounds_toArray, List.set_cons_zero, List.set_cons_succ, i64_w, i32_w]; rfl
            refine done_ (done_of HT_.out (by kernel_rfl)) ?_
            try go_wp2
            refine bodyPost_ret (results_ct rfl _ _ gb225 29 #[.string ((rd_T44 l0 t228).f6), .int .i64 (wrap64 (a1_1 + x9_57)), .int .i64 t232] (0, 0) _ rfl (by (with_reducible repeat (first | refine blk_drewN ?_ _ | refine blk_drew ?_ | refine blk_alloc ?_ _)); refine blk_put (cs := #[.string ((rd_T44 l0 t228).f6), .int .i64 (wrap64 (a1_1 + x9_57)), .int .i64 0]) ?_ 2 _ rfl; (with_reducible repeat (first | refine blk_drewN ?_ _ | refine blk_drew ?_ | refine blk_alloc ?_ _)); refine blk_put (cs := #[.string ((rd_T44 l0 t228).f6), .int .i64 0, .int .i64 0]) ?_ 1 _ rfl; (with_reducible repeat (first | refine blk_drewN ?_ _ | refine blk_drew ?_ | refine blk_alloc ?_ _)); refine blk_put (cs := #[.string (⟨#[]⟩ : ByteArray), .int .i64 0, .int .i64 0]) ?_ 0 _ rfl; (with_reducible repeat (first | refine blk_drewN ?_ _ | refine blk_drew ?_ | refine blk_alloc ?_ _)); exact BK225.out) Try.underlying29 rfl (by kernel_rfl)) rfl ?_
            exact ⟨m66_, m21_⟩
           ·replace c76 := Bool.eq_false_iff.mpr c76
            subst c76
            have H1 : ((impl_bound.f kj57 l0 ((rd_T44 l0 t228).f7)).bind fun t233 => (some (((rd_T44 l0 t228).f7), wrap64 (a1_1 + x9_57), t233, true))) = some (r1, r2, r3, r4) := by rw [if_neg (show ¬ (false = true) by decide)] at H; exact H
            clear H
            have H := H1
            clear H1
            replace H := Option.bind_eq_some_iff.mp H
            obtain ⟨t233, A870, H⟩ := H
            replace H : (some (((rd_T44 l0 t228).f7), wrap64 (a1_1 + x9_57), t233, true)) = some (r1, r2, r3, r4) := H
            have A87 := Aside0.mk A870
            clear A870
            simp only [Option.some.injEq, Prod.mk.injEq] at H
            obtain ⟨rfl, rfl, rfl, rfl⟩ := H
            have hnb88 := NB230_223.out
            have hnc88 := NB223_230.out
            have hnb89 := NB230_224.out
            have hnc89 := NB224_230.out
            have hnb90 := NB230_225.out
            have hnc90 := NB225_230.out
            obtain ⟨hcz91_0, hcz91_1, hcz91_2, hcz91_3, hcz91_4, hcz91_5, hcz91_6, hcz91_7⟩ := cz8_ BK230.out
            obtain ⟨hfz91_0, hfz91_1, hfz91_2, hfz91_3, hfz91_4, hfz91_5, hfz91_6, hfz91_7⟩ := fz8_ BK230.out
            try go_wp2
            have n0_ := Aside0.mk (blk_drew BK223.out)
            have n1_ := Aside0.mk (blk_drew BK224.out)
            have n2_ := Aside0.mk (blk_drew BK225.out)
            have n3_ := Aside0.mk (blk_drew BK230.out)
            have n4_ := Aside0.mk (below_drew1 HB.out)
            clear BK223
            clear BK224
            clear BK225
            clear BK230
            clear HB
            have BK223 := n0_
            have BK224 := n1_
            have BK225 := n2_
            have BK230 := n3_
            have HB := n4_
            clear n0_ n1_ n2_ n3_ n4_
            refine start_ (n := 11) (S := fun w' => w'.cell? ⟨gb223, 0, none⟩ = some (.string a1_0) ∧ w'.cell? ⟨gb223, 1, none⟩ = some (.int .i64 a1_1) ∧ w'.cell? ⟨gb223, 2, none⟩ = some (.int .i64 a1_2)) (ds := []) (bm 11 0) (by kernel_rfl) rfl rfl ⟨(blk_cell BK223.out 0).trans rfl, (blk_cell BK223.out 1).trans rfl, (blk_cell BK223.out 2).trans rfl⟩ (fun hHeld => ?_); refine with_tabW impl_RecGo.tab12 impl_RecGo.bits12 (fun HT_ HW_ => ?_)
            generalize wc.drew = w92 at BK223 BK224 BK225 BK230 HB hHeld ⊢
            refine pure_ (i := 0) (N := some 66) (v := ?_) (a' := ?_) (bm 11 1) rfl rfl (any_of HT_.out (by kernel_rfl)) (fun _ _ _ h => h) (Or.inl ⟨(by rfl), ?_⟩) ?_ ?_; rotate_left; intro w'; go_simp; with_reducible rfl; rotate_left; simp only [Act.put, List.setIfInBounds_toArray, List.set_cons_zero, List.set_cons_succ, i64_w, i32_w]; rfl
            refine pure_ (i := 1) (N := some 67) (v := ?_) (a' := ?_) (bm 11 3) rfl rfl (any_of HT_.out (by kernel_rfl)) (fun _ _ _ h => h) (Or.inl ⟨(by rfl), ?_⟩) ?_ ?_; rotate_left; intro w'; go_simp; with_reducible rfl; rotate_left; simp only [Act.put, List.setIfInBounds_toArray, List.set_cons_zero, List.set_cons_succ, i64_w, i32_w]; rfl
            refine pure_ (i := 3) (N := some 69) (v := ?_) (a' := ?_) (bm 11 11) rfl rfl (any_of HT_.out (by kernel_rfl)) (fun _ _ _ h => h) (Or.inl ⟨(by rfl), ?_⟩) ?_ ?_; rotate_left; intro w'; go_simp; with_reducible rfl; rotate_left; simp only [Act.put, List.setIfInBounds_toArray, List.set_cons_zero, List.set_cons_succ, i64_w, i32_w]; rfl
            refine pure_ (i := 5) (N := some 71) (v := ?_) (a' := ?_) (bm 11 43) rfl rfl (any_of HT_.out (by kernel_rfl)) (fun _ _ _ h => h) (Or.inl ⟨(by rfl), ?_⟩) ?_ ?_; rotate_left; intro w'; go_simp; with_reducible rfl; rotate_left; simp only [Act.put, List.setIfInBounds_toArray, List.set_cons_zero, List.set_cons_succ, i64_w, i32_w]; rfl
            refine pure_ (i := 6) (N := some 72) (v := ?_) (a' := ?_) (bm 11 107) rfl rfl (any_of HT_.out (by kernel_rfl)) (fun _ _ _ h => h) (Or.inl ⟨(by rfl), ?_⟩) ?_ ?_; rotate_left; intro w'; go_simp; with_reducible rfl; rotate_left; simp only [Act.put, List.setIfInBounds_toArray, List.set_cons_zero, List.set_cons_succ, i64_w, i32_w]; rfl
            refine take_ (i := 2) (N := some 68) (v := ?_) (a' := ?_) (bm 11 111) rfl rfl (take_ofW HT_.out HW_.out (by kernel_rfl)) (fun _ _ _ h => h) (Or.inl ⟨(by rfl), ?_⟩) hHeld ?_ ?_; rotate_left; rintro w' ⟨s0, s1, s2⟩; go_simp; with_reducible rfl; rotate_left; simp only [Act.put, List.setIfInBounds_toArray, List.set_cons_zero, List.set_cons_succ, i64_w, i32_w]; rfl
            refine pure_ (i := 4) (N := some 70) (v := ?_) (a' := ?_) (bm 11 127) rfl rfl (any_of HT_.out (by kernel_rfl)) (fun _ _ _ h => h) (Or.inl ⟨(by rfl), ?_⟩) ?_ ?_; rotate_left; intro w'; go_simp; with_reducible rfl; rotate_left; simp only [Act.put, List.setIfInBounds_toArray, List.set_cons_zero, List.set_cons_succ, i64_w, i32_w]; rfl
            refine one_ (i := 7) (N := some 73) (bm 11 255) rfl rfl (one_of HT_.out (by kernel_rfl)) (by decide) (fun K hK => ?_)
            refine goes_ Try.func37 (by kernel_rfl) rfl #[.slice (some ad229) l0.length c0, .string ((rd_T44 l0 t228).f7)] (by rfl) rfl rfl m1_ ?_
            with_reducible refine (impl_bound.calls kj57 _ _ l0 ((rd_T44 l0 t228).f7) t233 _ ?side1 ?side2 A87.out).mono ?_
            (case side1 => exact m9_)
            (case side2 => exact HC0.out)
            rintro e w93 ⟨rfl, hb⟩
            refine ⟨_, rfl, ?_⟩
            have n0_ := Aside0.mk (blk_below (g := gb223) (o := .cells #[.string a1_0, .int .i64 a1_1, .int .i64 a1_2] 29 (0, 0)) m16_ hb)
            have n1_ := Aside0.mk (blk_below (g := gb224) (o := .cells #[.int .i64 a2_0, .bool false] 35 (0, 0)) m22_ hb)
            have n2_ := Aside0.mk (blk_below (g := gb225) (o := .cells #[.string (⟨#[]⟩ : ByteArray), .int .i64 0, .int .i64 0] 29 (0, 0)) m25_ hb)
            have n3_ := Aside0.mk (blk_below (g := gb230) (o := .cells #[.string ((rd_T44 l0 t228).f0), .int .i64 ((rd_T44 l0 t228).f1), .string ((rd_T44 l0 t228).f2), .string ((rd_T44 l0 t228).f3), .int .i64 ((rd_T44 l0 t228).f4), .int .i64 ((rd_T44 l0 t228).f5), .string ((rd_T44 l0 t228).f6), .string ((rd_T44 l0 t228).f7)] 44 (0, 0)) m44_ hb)
            have n4_ := Aside0.mk (below_step m21_ hb)
            clear BK223
            clear BK224
            clear BK225
            clear BK230
            clear HB
            have BK223 := n0_
            have BK224 := n1_
            have BK225 := n2_
            have BK230 := n3_
            have HB := n4_
            clear n0_ n1_ n2_ n3_ n4_
            (try clear hb)
            (try clear hb2)
            (try clear hk)
            (try clear hi)
            refine hK.out _ _ ⟨(blk_cell BK223.out 0).trans rfl, (blk_cell BK223.out 1).trans rfl, (blk_cell BK223.out 2).trans rfl⟩ (fun hHeld => ?_)
            clear hK K
            refine no_ ?_
            refine pure_ (i := 8) (N := some 74) (v := ?_) (a' := ?_) (bm 11 511) rfl rfl (any_of HT_.out (by kernel_rfl)) (fun _ _ _ h => h) (Or.inl ⟨(by rfl), ?_⟩) ?_ ?_; rotate_left; intro w'; go_simp; with_reducible rfl; rotate_left; simp only [Act.put, List.setIfInBounds_toArray, List.set_cons_zero, List.set_cons_succ, i64_w, i32_w]; rfl
            refine one_ (i := 9) (N := none) (bm 11 1023) rfl rfl (one_of HT_.out (by kernel_rfl)) (by decide) (fun K hK => ?_)
            have hs94 : w93.cell? ⟨gb225, 0, none⟩ = some (.string (⟨#[]⟩ : ByteArray)) := (blk_cell BK225.out 0).trans rfl
            have hfs94 := blk_frozen BK225.out 0
            have hns94_0 := NB223_225.out
            have hns94_1 := NB224_225.out
            have hns94_3 := NB230_225.out
            have hms94_0 := NB225_223.out
            have hms94_1 := NB225_224.out
            have hms94_3 := NB225_230.out
            have hs95 : w93.cell? ⟨gb225, 1, none⟩ = some (.int .i64 0) := (blk_cell BK225.out 1).trans rfl
            have hfs95 := blk_frozen BK225.out 1
            have hns95_0 := NB223_225.out
            have hns95_1 := NB224_225.out
            have hns95_3 := NB230_225.out
            have hms95_0 := NB225_223.out
            have hms95_1 := NB225_224.out
            have hms95_3 := NB225_230.out
            have hs96 : w93.cell? ⟨gb225, 2, none⟩ = some (.int .i64 0) := (blk_cell BK225.out 2).trans rfl
            have hfs96 := blk_frozen BK225.out 2
            have hns96_0 := NB223_225.out
            have hns96_1 := NB224_225.out
            have hns96_3 := NB230_225.out
            have hms96_0 := NB225_223.out
            have hms96_1 := NB225_224.out
            have hms96_3 := NB225_230.out
            refine skip_ (w1 := ?_) (by rfl) rfl ?_ ?_
            rotate_left
            ·go_simp
             rfl
            refine hK.out _ _ ⟨((cell_far (p := ⟨gb225, _, none⟩) NB223_225.out _).trans (((cell_far (p := ⟨gb225, _, none⟩) NB223_225.out _).trans (((cell_far (p := ⟨gb225, _, none⟩) NB223_225.out _).trans (hHeld.1)))))), ((cell_far (p := ⟨gb225, _, none⟩) NB223_225.out _).trans (((cell_far (p := ⟨gb225, _, none⟩) NB223_225.out _).trans (((cell_far (p := ⟨gb225, _, none⟩) NB223_225.out _).trans (hHeld.2.1)))))), ((cell_far (p := ⟨gb225, _, none⟩) NB223_225.out _).trans (((cell_far (p := ⟨gb225, _, none⟩) NB223_225.out _).trans (((cell_far (p := ⟨gb225, _, none⟩) NB223_225.out _).trans (hHeld.2.2))))))⟩ (fun hHeld => ?_)
            clear hK K
            refine pure_ (i := 10) (N := some 7) (v := ?_) (a' := ?_) (bm 11 2047) rfl rfl (any_of HT_.out (by kernel_rfl)) (fun _ _ _ h => h) (Or.inl ⟨(by rfl), ?_⟩) ?_ ?_; rotate_left; intro w'; go_simp; with_reducible rfl; rotate_left; simp only [Act.put, List.setIfInBounds_toArray, List.set_cons_zero, List.set_cons_succ, i64_w, i32_w]; rfl
            refine done_ (done_of HT_.out (by kernel_rfl)) ?_
            try go_wp2
            refine bodyPost_ret (results_ct rfl _ _ gb225 29 #[.string ((rd_T44 l0 t228).f7), .int .i64 (wrap64 (a1_1 + x9_57)), .int .i64 t233] (0, 0) _ rfl (by (with_reducible repeat (first | refine blk_drewN ?_ _ | refine blk_drew ?_ | refine blk_alloc ?_ _)); refine blk_put (cs := #[.string ((rd_T44 l0 t228).f7), .int .i64 (wrap64 (a1_1 + x9_57)), .int .i64 0]) ?_ 2 _ rfl; (with_reducible repeat (first | refine blk_drewN ?_ _ | refine blk_drew ?_ | refine blk_alloc ?_ _)); refine blk_put (cs := #[.string ((rd_T44 l0 t228).f7), .int .i64 0, .int .i64 0]) ?_ 1 _ rfl; (with_reducible repeat (first | refine blk_drewN ?_ _ | refine blk_drew ?_ | refine blk_alloc ?_ _)); refine blk_put (cs := #[.string (⟨#[]⟩ : ByteArray), .int .i64 0, .int .i64 0]) ?_ 0 _ rfl; (with_reducible repeat (first | refine blk_drewN ?_ _ | refine blk_drew ?_ | refine blk_alloc ?_ _)); exact BK225.out) Try.underlying29 rfl (by kernel_rfl)) rfl ?_
            exact ⟨m66_, m21_⟩
     ·rw [if_neg c39] at H
      exact absurd H (by simp)
    ·rw [if_neg c38] at H
     exact absurd H (by simp)

end Go.Proofs.Ytpihcdbkdldbcaa.QFnExactRecGo
namespace Go.Proofs.Ytpihcdbkdldbcaa.QFnExactRecGo
open Go.RowKit Go.Proofs.YtpihcdbkdldbcaaW.PrintWords Go.Proofs.YtpihcdbkdldbcaaW.PrintLast Go.Proofs.YtpihcdbkdldbcaaW.PrintMore
attribute [local go_sem] str_geq str_gtr str_leq max2_int min2_int max_two min_two max_three min_three max_four min_four   -- for this text's walks alone
set_option linter.unusedVariables false
set_option linter.unusedSimpArgs false
/-! ### laws_eqRecState: function 14 -/
def laws_eqRecState.f (a0_0 : ByteArray) (a0_1 : Int) (a0_2 : Int) (a1_0 : ByteArray) (a1_1 : Int) (a1_2 : Int) : Option (Bool) := if a0_0.toList = a1_0.toList then (if a0_1 = a1_1 then (if a0_2 = a1_2 then (some true) else (some false)) else (some false)) else (some false)
set_option maxHeartbeats 8000000 in
set_option maxRecDepth 100000 in
theorem laws_eqRecState.calls (a0_0 : ByteArray) (a0_1 : Int) (a0_2 : Int) (a1_0 : ByteArray) (a1_1 : Int) (a1_2 : Int) (r : Bool) (w : World) (h : laws_eqRecState.f a0_0 a0_1 a0_2 a1_0 a1_1 a1_2 = some r) :
  Calls Try.prog 14 #[.agg #[.string a0_0, .int .i64 a0_1, .int .i64 a0_2], .agg #[.string a1_0, .int .i64 a1_1, .int .i64 a1_2]] w fun e w' => e = .returned (.bool r) ∧ Below w.heap.size w w' := by
 have hu29 := Try.underlying29
 have HB := Aside0.mk (Below.refl w.heap.size w)
 have H : (if a0_0.toList = a1_0.toList then (if a0_1 = a1_1 then (if a0_2 = a1_2 then (some true) else (some false)) else (some false)) else (some false)) = some r := h
 clear h
 refine (Classical.em (a0_0.toList = a1_0.toList)).elim (fun c3 => ?yes21) (fun c3 => ?no21)
 case' yes21 =>
  rw [if_pos c3] at H
  have c3b0 : (a0_0.toList == a1_0.toList) = true := beq_iff_eq.mpr c3
  have c3b1 : (a0_0.toList != a1_0.toList) = false := bne_eq_false_iff_eq.mpr c3
  clear c3
  refine (Classical.em (a0_1 = a1_1)).elim (fun c4 => ?yes22) (fun c4 => ?no22)
  case' yes22 =>
   rw [if_pos c4] at H
   have c4b0 : (a0_1 == a1_1) = true := beq_iff_eq.mpr c4
   have c4b1 : (a0_1 != a1_1) = false := bne_eq_false_iff_eq.mpr c4
   clear c4
   refine (Classical.em (a0_2 = a1_2)).elim (fun c5 => ?yes23) (fun c5 => ?no23)
   case' yes23 =>
    rw [if_pos c5] at H
    have c5b0 : (a0_2 == a1_2) = true := beq_iff_eq.mpr c5
    have c5b1 : (a0_2 != a1_2) = false := bne_eq_false_iff_eq.mpr c5
    clear c5
    obtain rfl := Option.some.inj H
   case' no23 =>
    rw [if_neg c5] at H
    have c5b0 : (a0_2 == a1_2) = false := beq_eq_false_iff_ne.mpr c5
    have c5b1 : (a0_2 != a1_2) = true := bne_iff_ne.mpr c5
    obtain rfl := Option.some.inj H
  case' no22 =>
   rw [if_neg c4] at H
   have c4b0 : (a0_1 == a1_1) = false := beq_eq_false_iff_ne.mpr c4
   have c4b1 : (a0_1 != a1_1) = true := bne_iff_ne.mpr c4
   obtain rfl := Option.some.inj H
 case' no21 =>
  rw [if_neg c3] at H
  have c3b0 : (a0_0.toList == a1_0.toList) = false := beq_eq_false_iff_ne.mpr c3
  have c3b1 : (a0_0.toList != a1_0.toList) = true := bne_iff_ne.mpr c3
  obtain rfl := Option.some.inj H
 all_goals
  go_enter Try.func14, Try.ntmps14
  go_wp2_with (first | ((with_reducible refine gate_dst (N := 2) rfl ?_); refine box_event ?hg (N := 2) ?hd (cs := #[.string a0_0, .int .i64 a0_1, .int .i64 a0_2]) (t := 29) ?hr ?_; (case hd => rfl); (case hg => rfl); (case hr => first | (go_simp; done) | (go_simp; rfl)); intro gb234 hg w6 hbox hb; have n0_ := Aside0.mk (below_step m0_ hb); have n1_ := Aside0.mk (hbox); have n2_ := Aside0.mk ((by rw [hg]; exact (below_size m0_) : w.heap.size ≤ gb234)); have n3_ := Aside0.mk ((by rw [hg]; exact (below_size m0_) : w.heap.size ≤ gb234)); clear HB; have HB := n0_; have BK234 := n1_; have GW234 := n2_; have GE234 := n3_; clear n0_ n1_ n2_ n3_; clear hb hbox hg) | ((with_reducible refine gate_dst (N := 3) rfl ?_); refine box_event ?hg (N := 3) ?hd (cs := #[.string a1_0, .int .i64 a1_1, .int .i64 a1_2]) (t := 29) ?hr ?_; (case hd => rfl); (case hg => rfl); (case hr => first | (go_simp; done) | (go_simp; rfl)); intro gb235 hg w7 hbox hb; have n0_ := Aside0.mk (blk_below (g := gb234) (o := .cells #[.string a0_0, .int .i64 a0_1, .int .i64 a0_2] 29 (0, 0)) m81_ hb); have n1_ := Aside0.mk (below_step m72_ hb); have n2_ := Aside0.mk (hbox); have n3_ := Aside0.mk ((by rw [hg]; exact (below_size m72_) : w.heap.size ≤ gb235)); have n4_ := Aside0.mk ((by rw [hg]; exact (below_size m72_) : w.heap.size ≤ gb235)); have n5_ := Aside0.mk ((by rw [hg]; exact Nat.ne_of_lt (blk_lt (g := gb234) (o := .cells #[.string a0_0, .int .i64 a0_1, .int .i64 a0_2] 29 (0, 0)) m81_) : gb234 ≠ gb235)); have n6_ := Aside0.mk ((by rw [hg]; exact Nat.ne_of_gt (blk_lt (g := gb234) (o := .cells #[.string a0_0, .int .i64 a0_1, .int .i64 a0_2] 29 (0, 0)) m81_) : gb235 ≠ gb234)); clear BK234; clear HB; have BK234 := n0_; have HB := n1_; have BK235 := n2_; have GW235 := n3_; have GE235 := n4_; have NB234_235 := n5_; have NB235_234 := n6_; clear n0_ n1_ n2_ n3_ n4_ n5_ n6_; clear hb hbox hg; have hnb8 := NB234_235.out; have hnc8 := NB235_234.out; obtain ⟨hcz9_0, hcz9_1, hcz9_2⟩ := cz3_ BK234.out; obtain ⟨hfz9_0, hfz9_1, hfz9_2⟩ := fz3_ BK234.out; obtain ⟨hcz10_0, hcz10_1, hcz10_2⟩ := cz3_ BK235.out; obtain ⟨hfz10_0, hfz10_1, hfz10_2⟩ := fz3_ BK235.out))
  go_ret
  exact ⟨m5_, (by repeat (first | (with_reducible first | exact HB.out | apply below_alloc | apply pw_below_drewN | apply below_drew1 | refine below_set ?_ GE234.out | refine below_set ?_ GE235.out) | exact HB.out))⟩

/-! ### laws_eqRecPhase: function 38 -/
def laws_eqRecPhase.f (a0_0 : ByteArray) (a0_1 : Int) (a0_2 : ByteArray) (a0_3 : ByteArray) (a0_4 : Int) (a0_5 : Int) (a0_6 : ByteArray) (a0_7 : ByteArray) (a1_0 : ByteArray) (a1_1 : Int) (a1_2 : ByteArray) (a1_3 : ByteArray) (a1_4 : Int) (a1_5 : Int) (a1_6 : ByteArray) (a1_7 : ByteArray) : Option (Bool) := if a0_0.toList = a1_0.toList then (if a0_1 = a1_1 then (if a0_2.toList = a1_2.toList then (if a0_3.toList = a1_3.toList then (if a0_4 = a1_4 then (if a0_5 = a1_5 then (if a0_6.toList = a1_6.toList then (if a0_7.toList = a1_7.toList then (some true) else (some false)) else (some false)) else (some false)) else (some false)) else (some false)) else (some false)) else (some false)) else (some false)
set_option maxHeartbeats 8000000 in
set_option maxRecDepth 100000 in
theorem laws_eqRecPhase.calls (a0_0 : ByteArray) (a0_1 : Int) (a0_2 : ByteArray) (a0_3 : ByteArray) (a0_4 : Int) (a0_5 : Int) (a0_6 : ByteArray) (a0_7 : ByteArray) (a1_0 : ByteArray) (a1_1 : Int) (a1_2 : ByteArray) (a1_3 : ByteArray) (a1_4 : Int) (a1_5 : Int) (a1_6 : ByteArray) (a1_7 : ByteArray) (r : Bool) (w : World) (h : laws_eqRecPhase.f a0_0 a0_1 a0_2 a0_3 a0_4 a0_5 a0_6 a0_7 a1_0 a1_1 a1_2 a1_3 a1_4 a1_5 a1_6 a1_7 = some r) :
  Calls Try.prog 38 #[.agg #[.string a0_0, .int .i64 a0_1, .string a0_2, .string a0_3, .int .i64 a0_4, .int .i64 a0_5, .string a0_6, .string a0_7], .agg #[.string a1_0, .int .i64 a1_1, .string a1_2, .string a1_3, .int .i64 a1_4, .int .i64 a1_5, .string a1_6, .string a1_7]] w fun e w' => e = .returned (.bool r) ∧ Below w.heap.size w w' := by
 have hu44 := Try.underlying44
 have HB := Aside0.mk (Below.refl w.heap.size w)
 have H : (if a0_0.toList = a1_0.toList then (if a0_1 = a1_1 then (if a0_2.toList = a1_2.toList then (if a0_3.toList = a1_3.toList then (if a0_4 = a1_4 then (if a0_5 = a1_5 then (if a0_6.toList = a1_6.toList then (if a0_7.toList = a1_7.toList then (some true) else (some false)) else (some false)) else (some false)) else (some false)) else (some false)) else (some false)) else (some false)) else (some false)) = some r := h
 clear h
 refine (Classical.em (a0_0.toList = a1_0.toList)).elim (fun c3 => ?yes24) (fun c3 => ?no24)
 case' yes24 =>
  rw [if_pos c3] at H
  have c3b0 : (a0_0.toList == a1_0.toList) = true := beq_iff_eq.mpr c3
  have c3b1 : (a0_0.toList != a1_0.toList) = false := bne_eq_false_iff_eq.mpr c3
  clear c3
  refine (Classical.em (a0_1 = a1_1)).elim (fun c4 => ?yes25) (fun c4 => ?no25)
  case' yes25 =>
   rw [if_pos c4] at H
   have c4b0 : (a0_1 == a1_1) = true := beq_iff_eq.mpr c4
   have c4b1 : (a0_1 != a1_1) = false := bne_eq_false_iff_eq.mpr c4
   clear c4
   refine (Classical.em (a0_2.toList = a1_2.toList)).elim (fun c5 => ?yes26) (fun c5 => ?no26)
   case' yes26 =>
    rw [if_pos c5] at H
    have c5b0 : (a0_2.toList == a1_2.toList) = true := beq_iff_eq.mpr c5
    have c5b1 : (a0_2.toList != a1_2.toList) = false := bne_eq_false_iff_eq.mpr c5
    clear c5
    refine (Classical.em (a0_3.toList = a1_3.toList)).elim (fun c6 => ?yes27) (fun c6 => ?no27)
    case' yes27 =>
     rw [if_pos c6] at H
     have c6b0 : (a0_3.toList == a1_3.toList) = true := beq_iff_eq.mpr c6
     have c6b1 : (a0_3.toList != a1_3.toList) = false := bne_eq_false_iff_eq.mpr c6
     clear c6
     refine (Classical.em (a0_4 = a1_4)).elim (fun c7 => ?yes28) (fun c7 => ?no28)
     case' yes28 =>
      rw [if_pos c7] at H
      have c7b0 : (a0_4 == a1_4) = true := beq_iff_eq.mpr c7
      have c7b1 : (a0_4 != a1_4) = false := bne_eq_false_iff_eq.mpr c7
      clear c7
      refine (Classical.em (a0_5 = a1_5)).elim (fun c8 => ?yes29) (fun c8 => ?no29)
      case' yes29 =>
       rw [if_pos c8] at H
       have c8b0 : (a0_5 == a1_5) = true := beq_iff_eq.mpr c8
       have c8b1 : (a0_5 != a1_5) = false := bne_eq_false_iff_eq.mpr c8
       clear c8
       refine (Classical.em (a0_6.toList = a1_6.toList)).elim (fun c9 => ?yes30) (fun c9 => ?no30)
       case' yes30 =>
        rw [if_pos c9] at H
        have c9b0 : (a0_6.toList == a1_6.toList) = true := beq_iff_eq.mpr c9
        have c9b1 : (a0_6.toList != a1_6.toList) = false := bne_eq_false_iff_eq.mpr c9
        clear c9
        refine (Classical.em (a0_7.toList = a1_7.toList)).elim (fun c10 => ?yes31) (fun c10 => ?no31)
        case' yes31 =>
         rw [if_pos c10] at H
         have c10b0 : (a0_7.toList == a1_7.toList) = true := beq_iff_eq.mpr c10
         have c10b1 : (a0_7.toList != a1_7.toList) = false := bne_eq_false_iff_eq.mpr c10
         clear c10
         obtain rfl := Option.some.inj H
        case' no31 =>
         rw [if_neg c10] at H
         have c10b0 : (a0_7.toList == a1_7.toList) = false := beq_eq_false_iff_ne.mpr c10
         have c10b1 : (a0_7.toList != a1_7.toList) = true := bne_iff_ne.mpr c10
         obtain rfl := Option.some.inj H
       case' no30 =>
        rw [if_neg c9] at H
        have c9b0 : (a0_6.toList == a1_6.toList) = false := beq_eq_false_iff_ne.mpr c9
        have c9b1 : (a0_6.toList != a1_6.toList) = true := bne_iff_ne.mpr c9
        obtain rfl := Option.some.inj H
      case' no29 =>
       rw [if_neg c8] at H
       have c8b0 : (a0_5 == a1_5) = false := beq_eq_false_iff_ne.mpr c8
       have c8b1 : (a0_5 != a1_5) = true := bne_iff_ne.mpr c8
       obtain rfl := Option.some.inj H
     case' no28 =>
      rw [if_neg c7] at H
      have c7b0 : (a0_4 == a1_4) = false := beq_eq_false_iff_ne.mpr c7
      have c7b1 : (a0_4 != a1_4) = true := bne_iff_ne.mpr c7
      obtain rfl := Option.some.inj H
    case' no27 =>
     rw [if_neg c6] at H
     have c6b0 : (a0_3.toList == a1_3.toList) = false := beq_eq_false_iff_ne.mpr c6
     have c6b1 : (a0_3.toList != a1_3.toList) = true := bne_iff_ne.mpr c6
     obtain rfl := Option.some.inj H
   case' no26 =>
    rw [if_neg c5] at H
    have c5b0 : (a0_2.toList == a1_2.toList) = false := beq_eq_false_iff_ne.mpr c5
    have c5b1 : (a0_2.toList != a1_2.toList) = true := bne_iff_ne.mpr c5
    obtain rfl := Option.some.inj H
  case' no25 =>
   rw [if_neg c4] at H
   have c4b0 : (a0_1 == a1_1) = false := beq_eq_false_iff_ne.mpr c4
   have c4b1 : (a0_1 != a1_1) = true := bne_iff_ne.mpr c4
   obtain rfl := Option.some.inj H
 case' no24 =>
  rw [if_neg c3] at H
  have c3b0 : (a0_0.toList == a1_0.toList) = false := beq_eq_false_iff_ne.mpr c3
  have c3b1 : (a0_0.toList != a1_0.toList) = true := bne_iff_ne.mpr c3
  obtain rfl := Option.some.inj H
 all_goals
  go_enter Try.func38, Try.ntmps38
  go_wp2_with (first | ((with_reducible refine gate_dst (N := 2) rfl ?_); refine box_event ?hg (N := 2) ?hd (cs := #[.string a0_0, .int .i64 a0_1, .string a0_2, .string a0_3, .int .i64 a0_4, .int .i64 a0_5, .string a0_6, .string a0_7]) (t := 44) ?hr ?_; (case hd => rfl); (case hg => rfl); (case hr => first | (go_simp; done) | (go_simp; rfl)); intro gb236 hg w11 hbox hb; have n0_ := Aside0.mk (below_step m0_ hb); have n1_ := Aside0.mk (hbox); have n2_ := Aside0.mk ((by rw [hg]; exact (below_size m0_) : w.heap.size ≤ gb236)); have n3_ := Aside0.mk ((by rw [hg]; exact (below_size m0_) : w.heap.size ≤ gb236)); clear HB; have HB := n0_; have BK236 := n1_; have GW236 := n2_; have GE236 := n3_; clear n0_ n1_ n2_ n3_; clear hb hbox hg) | ((with_reducible refine gate_dst (N := 3) rfl ?_); refine box_event ?hg (N := 3) ?hd (cs := #[.string a1_0, .int .i64 a1_1, .string a1_2, .string a1_3, .int .i64 a1_4, .int .i64 a1_5, .string a1_6, .string a1_7]) (t := 44) ?hr ?_; (case hd => rfl); (case hg => rfl); (case hr => first | (go_simp; done) | (go_simp; rfl)); intro gb237 hg w12 hbox hb; have n0_ := Aside0.mk (blk_below (g := gb236) (o := .cells #[.string a0_0, .int .i64 a0_1, .string a0_2, .string a0_3, .int .i64 a0_4, .int .i64 a0_5, .string a0_6, .string a0_7] 44 (0, 0)) m82_ hb); have n1_ := Aside0.mk (below_step m73_ hb); have n2_ := Aside0.mk (hbox); have n3_ := Aside0.mk ((by rw [hg]; exact (below_size m73_) : w.heap.size ≤ gb237)); have n4_ := Aside0.mk ((by rw [hg]; exact (below_size m73_) : w.heap.size ≤ gb237)); have n5_ := Aside0.mk ((by rw [hg]; exact Nat.ne_of_lt (blk_lt (g := gb236) (o := .cells #[.string a0_0, .int .i64 a0_1, .string a0_2, .string a0_3, .int .i64 a0_4, .int .i64 a0_5, .string a0_6, .string a0_7] 44 (0, 0)) m82_) : gb236 ≠ gb237)); have n6_ := Aside0.mk ((by rw [hg]; exact Nat.ne_of_gt (blk_lt (g := gb236) (o := .cells #[.string a0_0, .int .i64 a0_1, .string a0_2, .string a0_3, .int .i64 a0_4, .int .i64 a0_5, .string a0_6, .string a0_7] 44 (0, 0)) m82_) : gb237 ≠ gb236)); clear BK236; clear HB; have BK236 := n0_; have HB := n1_; have BK237 := n2_; have GW237 := n3_; have GE237 := n4_; have NB236_237 := n5_; have NB237_236 := n6_; clear n0_ n1_ n2_ n3_ n4_ n5_ n6_; clear hb hbox hg; have hnb13 := NB236_237.out; have hnc13 := NB237_236.out; obtain ⟨hcz14_0, hcz14_1, hcz14_2, hcz14_3, hcz14_4, hcz14_5, hcz14_6, hcz14_7⟩ := cz8_ BK236.out; obtain ⟨hfz14_0, hfz14_1, hfz14_2, hfz14_3, hfz14_4, hfz14_5, hfz14_6, hfz14_7⟩ := fz8_ BK236.out; obtain ⟨hcz15_0, hcz15_1, hcz15_2, hcz15_3, hcz15_4, hcz15_5, hcz15_6, hcz15_7⟩ := cz8_ BK237.out; obtain ⟨hfz15_0, hfz15_1, hfz15_2, hfz15_3, hfz15_4, hfz15_5, hfz15_6, hfz15_7⟩ := fz8_ BK237.out))
  go_ret
  exact ⟨m5_, (by repeat (first | (with_reducible first | exact HB.out | apply below_alloc | apply pw_below_drewN | apply below_drew1 | refine below_set ?_ GE236.out | refine below_set ?_ GE237.out) | exact HB.out))⟩

/-! ### laws_eqRecPhaseS: function 15 -/
def laws_eqRecPhaseS.l0 : Nat → List (S44) → List (S44) → Int → Option (Bool)
 | 0, _, _, _ => none
 | k + 1, x0, x1, x5 => if x5 < (x0.length : Int) then (if 0 ≤ x5 then (if x5 < (x1.length : Int) then ((laws_eqRecPhase.f ((rd_T44 x0 x5).f0) ((rd_T44 x0 x5).f1) ((rd_T44 x0 x5).f2) ((rd_T44 x0 x5).f3) ((rd_T44 x0 x5).f4) ((rd_T44 x0 x5).f5) ((rd_T44 x0 x5).f6) ((rd_T44 x0 x5).f7) ((rd_T44 x1 x5).f0) ((rd_T44 x1 x5).f1) ((rd_T44 x1 x5).f2) ((rd_T44 x1 x5).f3) ((rd_T44 x1 x5).f4) ((rd_T44 x1 x5).f5) ((rd_T44 x1 x5).f6) ((rd_T44 x1 x5).f7)).bind fun t240 => (if t240 = true then (laws_eqRecPhaseS.l0 k x0 x1 (wrap64 (x5 + 1))) else (some false))) else (none)) else (none)) else (some true)
def laws_eqRecPhaseS.f (k : Nat) (l0 : List (S44)) (l1 : List (S44)) : Option (Bool) := if (l0.length : Int) = (l1.length : Int) then (laws_eqRecPhaseS.l0 k l0 l1 0) else (some false)
theorem laws_eqRecPhaseS.mono_l : ∀ k, (∀ y0 y1 y2, LeO (laws_eqRecPhaseS.l0 k y0 y1 y2) (laws_eqRecPhaseS.l0 (k + 1) y0 y1 y2))
 | 0 => fun _ _ _ r h => by simp [laws_eqRecPhaseS.l0] at h
 | k + 1 => by
  have ih0 := laws_eqRecPhaseS.mono_l k
  ·intro y0 y1 y2
   unfold laws_eqRecPhaseS.l0
   repeat' first
   | (with_reducible exact ih0 _ _ _)
   | (with_reducible exact LeO.refl _)
   | (with_reducible exact LeO.none _)
   | (with_reducible refine LeO.ite ?_ ?_)
   | (with_reducible refine LeO.bind ?_ (fun _ => ?_))
   | exact ih0 _ _ _
   | exact LeO.none _
   | refine LeO.ite ?_ ?_
   | refine LeO.bind ?_ (fun _ => ?_)
theorem laws_eqRecPhaseS.mono : ∀ a0 a1 k, LeO (laws_eqRecPhaseS.f k a0 a1) (laws_eqRecPhaseS.f (k + 1) a0 a1) := by
 intro a0 a1 k
 have ih0 := laws_eqRecPhaseS.mono_l k
 unfold laws_eqRecPhaseS.f
 repeat' first
   | (with_reducible exact ih0 _ _ _)
   | (with_reducible exact LeO.refl _)
   | (with_reducible exact LeO.none _)
   | (with_reducible refine LeO.ite ?_ ?_)
   | (with_reducible refine LeO.bind ?_ (fun _ => ?_))
   | exact ih0 _ _ _
   | exact LeO.none _
   | refine LeO.ite ?_ ?_
   | refine LeO.bind ?_ (fun _ => ?_)
def laws_eqRecPhaseS.T6 : Bool × List (List Nat × List Nat) := (true, [([], []), ([], []), ([0, 1], [0, 1]), ([2], [2]), ([], []), ([], []), ([4, 5], [4, 5]), ([6], [6]), ([3, 7], [3, 7]), ([8], [8])])
def laws_eqRecPhaseS.B6 : List Nat := [0, 0, 3, 7, 0, 0, 48, 112, 255, 511]
theorem laws_eqRecPhaseS.tab6 : rtab .any (opsOf Try.f15 6) = laws_eqRecPhaseS.T6 := by kernel_rfl
theorem laws_eqRecPhaseS.bits6 : waitsOk laws_eqRecPhaseS.T6.2 laws_eqRecPhaseS.B6 = true := by kernel_rfl
set_option maxHeartbeats 8000000 in
set_option maxRecDepth 100000 in
theorem laws_eqRecPhaseS.calls (k : Nat) (A0 : Option Addr) (c0 : Nat) (l0 : List (S44)) (A1 : Option Addr) (c1 : Nat) (l1 : List (S44)) (r : Bool) (w : World) (hr0 : Kd.C k44 w A0 l0.length l0) (hc0 : l0.length ≤ c0) (hr1 : Kd.C k44 w A1 l1.length l1) (hc1 : l1.length ≤ c1) (h : laws_eqRecPhaseS.f k l0 l1 = some r) :
  Calls Try.prog 15 #[.slice A0 l0.length c0, .slice A1 l1.length c1] w fun e w' => e = .returned (.bool r) ∧ Below w.heap.size w w' := by
 have hu44 := Try.underlying44
 have HR0 := Aside0.mk hr0
 have HC0 := Aside0.mk hc0
 clear hr0 hc0
 have HR1 := Aside0.mk hr1
 have HC1 := Aside0.mk hc1
 clear hr1 hc1
 have HB := Aside0.mk (Below.refl w.heap.size w)
 have H : (if (l0.length : Int) = (l1.length : Int) then (laws_eqRecPhaseS.l0 k l0 l1 0) else (some false)) = some r := h
 clear h
 by_cases c3 : (l0.length : Int) = (l1.length : Int)
 ·rw [if_pos c3] at H
  have c3b0 : ((l0.length : Int) == (l1.length : Int)) = true := beq_iff_eq.mpr c3
  have c3b1 : ((l0.length : Int) != (l1.length : Int)) = false := bne_eq_false_iff_eq.mpr c3
  have c3b2 : (l0.length == l1.length) = true := by first | simpa using c3 | (simp at c3 ⊢; omega)
  clear c3
  have H' := Aside0.mk H
  clear H
  go_enter Try.func15, Try.ntmps15
  go_wp2
  go_loopg [5] k (fun kq v5 w' => ∃ (x5_1 : Int), v5 = .int .i64 x5_1 ∧ Aside0 (laws_eqRecPhaseS.l0 kq l0 l1 x5_1 = some r) ∧ Aside0 (kq ≤ k) ∧ Aside0 (Below w.heap.size w w'))
  case atStart => exact ⟨(0), m14_, H', ⟨Nat.le_refl _⟩, ⟨m0_⟩⟩
  case round =>
   clear H'
   try clear c1
   try clear p2
   try clear c3
   try clear c3b0
   try clear c3b1
   try clear c3b2
   obtain ⟨x5_1, rfl, HA, HK1, HB⟩ := hrel
   cases gk with
   | zero => exact absurd HA.out (by simp [laws_eqRecPhaseS.l0])
   | succ k1 =>
    have H := HA.out
    clear HA
    simp only [laws_eqRecPhaseS.l0] at H
    by_cases c4 : x5_1 < (l0.length : Int)
    ·rw [if_pos c4] at H
     have c4b0 : decide (x5_1 < (l0.length : Int)) = true := decide_eq_true c4
     clear c4
     by_cases c5 : 0 ≤ x5_1
     ·rw [if_pos c5] at H
      have c5b0 : decide (0 ≤ x5_1) = true := decide_eq_true c5
      clear c5
      by_cases c6 : x5_1 < (l1.length : Int)
      ·rw [if_pos c6] at H
       have c6b0 : decide (x5_1 < (l1.length : Int)) = true := decide_eq_true c6
       clear c6
       replace H := Option.bind_eq_some_iff.mp H
       obtain ⟨t240, A70, H⟩ := H
       replace H : (if t240 = true then (laws_eqRecPhaseS.l0 k1 l0 l1 (wrap64 (x5_1 + 1))) else (some false)) = some r := H
       have A7 := Aside0.mk A70
       clear A70
       by_cases c8 : t240 = true
       ·subst c8
        have H1 : (laws_eqRecPhaseS.l0 k1 l0 l1 (wrap64 (x5_1 + 1))) = some r := by rw [if_pos rfl] at H; exact H
        clear H
        have H := H1
        clear H1
        have H' := Aside0.mk H
        clear H
        try go_wp2
        have n0_ := Aside0.mk (below_drew1 HB.out)
        clear HB
        have HB := n0_
        clear n0_
        have p238 : 0 ≤ (x5_1 : Int) := of_decide_eq_true m6_
        have q238 : x5_1 < (l0.length : Int) := of_decide_eq_true m6_
        obtain ⟨ad238, e238, hx238_0, hx238_1, hx238_2, hx238_3, hx238_4, hx238_5, hx238_6, hx238_7⟩ := at_T44 HR0.out x5_1 p238 q238
        have hw238_7 := hx238_7
        have hw238_6 := hx238_6
        have hw238_5 := hx238_5
        have hw238_4 := hx238_4
        have hw238_3 := hx238_3
        have hw238_2 := hx238_2
        have hw238_1 := hx238_1
        have hw238_0 := hx238_0
        cases e238
        replace hx238_0 := (HB.out.cell (World.block_lt_of_cell? w _ hx238_0)).trans hx238_0
        replace hx238_1 := (HB.out.cell (World.block_lt_of_cell? w _ hx238_1)).trans hx238_1
        replace hx238_2 := (HB.out.cell (World.block_lt_of_cell? w _ hx238_2)).trans hx238_2
        replace hx238_3 := (HB.out.cell (World.block_lt_of_cell? w _ hx238_3)).trans hx238_3
        replace hx238_4 := (HB.out.cell (World.block_lt_of_cell? w _ hx238_4)).trans hx238_4
        replace hx238_5 := (HB.out.cell (World.block_lt_of_cell? w _ hx238_5)).trans hx238_5
        replace hx238_6 := (HB.out.cell (World.block_lt_of_cell? w _ hx238_6)).trans hx238_6
        replace hx238_7 := (HB.out.cell (World.block_lt_of_cell? w _ hx238_7)).trans hx238_7
        replace p238 := eq_true p238
        replace q238 := eq_true q238
        have p239 : 0 ≤ (x5_1 : Int) := of_decide_eq_true m6_
        have q239 : x5_1 < (l1.length : Int) := of_decide_eq_true m6_
        obtain ⟨ad239, e239, hx239_0, hx239_1, hx239_2, hx239_3, hx239_4, hx239_5, hx239_6, hx239_7⟩ := at_T44 HR1.out x5_1 p239 q239
        have hw239_7 := hx239_7
        have hw239_6 := hx239_6
        have hw239_5 := hx239_5
        have hw239_4 := hx239_4
        have hw239_3 := hx239_3
        have hw239_2 := hx239_2
        have hw239_1 := hx239_1
        have hw239_0 := hx239_0
        cases e239
        replace hx239_0 := (HB.out.cell (World.block_lt_of_cell? w _ hx239_0)).trans hx239_0
        replace hx239_1 := (HB.out.cell (World.block_lt_of_cell? w _ hx239_1)).trans hx239_1
        replace hx239_2 := (HB.out.cell (World.block_lt_of_cell? w _ hx239_2)).trans hx239_2
        replace hx239_3 := (HB.out.cell (World.block_lt_of_cell? w _ hx239_3)).trans hx239_3
        replace hx239_4 := (HB.out.cell (World.block_lt_of_cell? w _ hx239_4)).trans hx239_4
        replace hx239_5 := (HB.out.cell (World.block_lt_of_cell? w _ hx239_5)).trans hx239_5
        replace hx239_6 := (HB.out.cell (World.block_lt_of_cell? w _ hx239_6)).trans hx239_6
        replace hx239_7 := (HB.out.cell (World.block_lt_of_cell? w _ hx239_7)).trans hx239_7
        replace p239 := eq_true p239
        replace q239 := eq_true q239
        refine start_ (n := 10) (S := fun w' => w'.cell? (ad238.add ((x5_1).toNat * 8)) = some (.string ((rd_T44 l0 x5_1).f0)) ∧ w'.cell? ⟨(ad238.add ((x5_1).toNat * 8)).block, (ad238.add ((x5_1).toNat * 8)).off + 1, none⟩ = some (.int .i64 ((rd_T44 l0 x5_1).f1)) ∧ w'.cell? ⟨(ad238.add ((x5_1).toNat * 8)).block, (ad238.add ((x5_1).toNat * 8)).off + 2, none⟩ = some (.string ((rd_T44 l0 x5_1).f2)) ∧ w'.cell? ⟨(ad238.add ((x5_1).toNat * 8)).block, (ad238.add ((x5_1).toNat * 8)).off + 3, none⟩ = some (.string ((rd_T44 l0 x5_1).f3)) ∧ w'.cell? ⟨(ad238.add ((x5_1).toNat * 8)).block, (ad238.add ((x5_1).toNat * 8)).off + 4, none⟩ = some (.int .i64 ((rd_T44 l0 x5_1).f4)) ∧ w'.cell? ⟨(ad238.add ((x5_1).toNat * 8)).block, (ad238.add ((x5_1).toNat * 8)).off + 5, none⟩ = some (.int .i64 ((rd_T44 l0 x5_1).f5)) ∧ w'.cell? ⟨(ad238.add ((x5_1).toNat * 8)).block, (ad238.add ((x5_1).toNat * 8)).off + 6, none⟩ = some (.string ((rd_T44 l0 x5_1).f6)) ∧ w'.cell? ⟨(ad238.add ((x5_1).toNat * 8)).block, (ad238.add ((x5_1).toNat * 8)).off + 7, none⟩ = some (.string ((rd_T44 l0 x5_1).f7)) ∧ w'.cell? (ad239.add ((x5_1).toNat * 8)) = some (.string ((rd_T44 l1 x5_1).f0)) ∧ w'.cell? ⟨(ad239.add ((x5_1).toNat * 8)).block, (ad239.add ((x5_1).toNat * 8)).off + 1, none⟩ = some (.int .i64 ((rd_T44 l1 x5_1).f1)) ∧ w'.cell? ⟨(ad239.add ((x5_1).toNat * 8)).block, (ad239.add ((x5_1).toNat * 8)).off + 2, none⟩ = some (.string ((rd_T44 l1 x5_1).f2)) ∧ w'.cell? ⟨(ad239.add ((x5_1).toNat * 8)).block, (ad239.add ((x5_1).toNat * 8)).off + 3, none⟩ = some (.string ((rd_T44 l1 x5_1).f3)) ∧ w'.cell? ⟨(ad239.add ((x5_1).toNat * 8)).block, (ad239.add ((x5_1).toNat * 8)).off + 4, none⟩ = some (.int .i64 ((rd_T44 l1 x5_1).f4)) ∧ w'.cell? ⟨(ad239.add ((x5_1).toNat * 8)).block, (ad239.add ((x5_1).toNat * 8)).off + 5, none⟩ = some (.int .i64 ((rd_T44 l1 x5_1).f5)) ∧ w'.cell? ⟨(ad239.add ((x5_1).toNat * 8)).block, (ad239.add ((x5_1).toNat * 8)).off + 6, none⟩ = some (.string ((rd_T44 l1 x5_1).f6)) ∧ w'.cell? ⟨(ad239.add ((x5_1).toNat * 8)).block, (ad239.add ((x5_1).toNat * 8)).off + 7, none⟩ = some (.string ((rd_T44 l1 x5_1).f7))) (ds := []) (bm 10 0) (by kernel_rfl) rfl rfl ⟨((HB.out.cell (World.block_lt_of_cell? w _ hw238_0)).trans hw238_0), ((HB.out.cell (World.block_lt_of_cell? w _ hw238_1)).trans hw238_1), ((HB.out.cell (World.block_lt_of_cell? w _ hw238_2)).trans hw238_2), ((HB.out.cell (World.block_lt_of_cell? w _ hw238_3)).trans hw238_3), ((HB.out.cell (World.block_lt_of_cell? w _ hw238_4)).trans hw238_4), ((HB.out.cell (World.block_lt_of_cell? w _ hw238_5)).trans hw238_5), ((HB.out.cell (World.block_lt_of_cell? w _ hw238_6)).trans hw238_6), ((HB.out.cell (World.block_lt_of_cell? w _ hw238_7)).trans hw238_7), ((HB.out.cell (World.block_lt_of_cell? w _ hw239_0)).trans hw239_0), ((HB.out.cell (World.block_lt_of_cell? w _ hw239_1)).trans hw239_1), ((HB.out.cell (World.block_lt_of_cell? w _ hw239_2)).trans hw239_2), ((HB.out.cell (World.block_lt_of_cell? w _ hw239_3)).trans hw239_3), ((HB.out.cell (World.block_lt_of_cell? w _ hw239_4)).trans hw239_4), ((HB.out.cell (World.block_lt_of_cell? w _ hw239_5)).trans hw239_5), ((HB.out.cell (World.block_lt_of_cell? w _ hw239_6)).trans hw239_6), ((HB.out.cell (World.block_lt_of_cell? w _ hw239_7)).trans hw239_7)⟩ (fun hHeld => ?_); refine with_tabW laws_eqRecPhaseS.tab6 laws_eqRecPhaseS.bits6 (fun HT_ HW_ => ?_)
        generalize wr.drew = w9 at HB hx238_0 hx238_1 hx238_2 hx238_3 hx238_4 hx238_5 hx238_6 hx238_7 hx239_0 hx239_1 hx239_2 hx239_3 hx239_4 hx239_5 hx239_6 hx239_7 hHeld ⊢
        refine pure_ (i := 0) (N := some 17) (v := ?_) (a' := ?_) (bm 10 1) rfl rfl (any_of HT_.out (by kernel_rfl)) (fun _ _ _ h => h) (Or.inl ⟨(by rfl), ?_⟩) ?_ ?_; rotate_left; intro w'; go_simp; with_reducible rfl; rotate_left; simp only [Act.put, List.setIfInBounds_toArray, List.set_cons_zero, List.set_cons_succ, i64_w, i32_w]; rfl
        refine pure_ (i := 1) (N := some 18) (v := ?_) (a' := ?_) (bm 10 3) rfl rfl (any_of HT_.out (by kernel_rfl)) (fun _ _ _ h => h) (Or.inl ⟨(by rfl), ?_⟩) ?_ ?_; rotate_left; intro w'; go_simp; with_reducible rfl; rotate_left; simp only [Act.put, List.setIfInBounds_toArray, List.set_cons_zero, List.set_cons_succ, i64_w, i32_w]; rfl
        refine pure_ (i := 2) (N := some 19) (v := ?_) (a' := ?_) (bm 10 7) rfl rfl (any_of HT_.out (by kernel_rfl)) (fun _ _ _ h => h) (Or.inl ⟨(by rfl), ?_⟩) ?_ ?_; rotate_left; intro w'; go_simp; with_reducible rfl; rotate_left; simp only [Act.put, List.setIfInBounds_toArray, List.set_cons_zero, List.set_cons_succ, i64_w, i32_w]; rfl
        refine pure_ (i := 4) (N := some 21) (v := ?_) (a' := ?_) (bm 10 23) rfl rfl (any_of HT_.out (by kernel_rfl)) (fun _ _ _ h => h) (Or.inl ⟨(by rfl), ?_⟩) ?_ ?_; rotate_left; intro w'; go_simp; with_reducible rfl; rotate_left; simp only [Act.put, List.setIfInBounds_toArray, List.set_cons_zero, List.set_cons_succ, i64_w, i32_w]; rfl
        refine pure_ (i := 5) (N := some 22) (v := ?_) (a' := ?_) (bm 10 55) rfl rfl (any_of HT_.out (by kernel_rfl)) (fun _ _ _ h => h) (Or.inl ⟨(by rfl), ?_⟩) ?_ ?_; rotate_left; intro w'; go_simp; with_reducible rfl; rotate_left; simp only [Act.put, List.setIfInBounds_toArray, List.set_cons_zero, List.set_cons_succ, i64_w, i32_w]; rfl
        refine pure_ (i := 6) (N := some 23) (v := ?_) (a' := ?_) (bm 10 119) rfl rfl (any_of HT_.out (by kernel_rfl)) (fun _ _ _ h => h) (Or.inl ⟨(by rfl), ?_⟩) ?_ ?_; rotate_left; intro w'; go_simp; with_reducible rfl; rotate_left; simp only [Act.put, List.setIfInBounds_toArray, List.set_cons_zero, List.set_cons_succ, i64_w, i32_w]; rfl
        refine take_ (i := 3) (N := some 20) (v := ?_) (a' := ?_) (bm 10 127) rfl rfl (take_ofW HT_.out HW_.out (by kernel_rfl)) (fun _ _ _ h => h) (Or.inl ⟨(by rfl), ?_⟩) hHeld ?_ ?_; rotate_left; rintro w' ⟨s0, s1, s2, s3, s4, s5, s6, s7, s8, s9, s10, s11, s12, s13, s14, s15⟩; go_simp; with_reducible rfl; rotate_left; simp only [Act.put, List.setIfInBounds_toArray, List.set_cons_zero, List.set_cons_succ, i64_w, i32_w]; rfl
        refine take_ (i := 7) (N := some 24) (v := ?_) (a' := ?_) (bm 10 255) rfl rfl (take_ofW HT_.out HW_.out (by kernel_rfl)) (fun _ _ _ h => h) (Or.inl ⟨(by rfl), ?_⟩) hHeld ?_ ?_; rotate_left; rintro w' ⟨s0, s1, s2, s3, s4, s5, s6, s7, s8, s9, s10, s11, s12, s13, s14, s15⟩; go_simp; with_reducible rfl; rotate_left; simp only [Act.put, List.setIfInBounds_toArray, List.set_cons_zero, List.set_cons_succ, i64_w, i32_w]; rfl
        refine one_ (i := 8) (N := some 25) (bm 10 511) rfl rfl (one_of HT_.out (by kernel_rfl)) (by decide) (fun K hK => ?_)
        refine goes_ Try.func38 (by kernel_rfl) rfl #[.agg #[.string ((rd_T44 l0 x5_1).f0), .int .i64 ((rd_T44 l0 x5_1).f1), .string ((rd_T44 l0 x5_1).f2), .string ((rd_T44 l0 x5_1).f3), .int .i64 ((rd_T44 l0 x5_1).f4), .int .i64 ((rd_T44 l0 x5_1).f5), .string ((rd_T44 l0 x5_1).f6), .string ((rd_T44 l0 x5_1).f7)], .agg #[.string ((rd_T44 l1 x5_1).f0), .int .i64 ((rd_T44 l1 x5_1).f1), .string ((rd_T44 l1 x5_1).f2), .string ((rd_T44 l1 x5_1).f3), .int .i64 ((rd_T44 l1 x5_1).f4), .int .i64 ((rd_T44 l1 x5_1).f5), .string ((rd_T44 l1 x5_1).f6), .string ((rd_T44 l1 x5_1).f7)]] (by rfl) rfl rfl m1_ ?_
        with_reducible refine (laws_eqRecPhase.calls ((rd_T44 l0 x5_1).f0) ((rd_T44 l0 x5_1).f1) ((rd_T44 l0 x5_1).f2) ((rd_T44 l0 x5_1).f3) ((rd_T44 l0 x5_1).f4) ((rd_T44 l0 x5_1).f5) ((rd_T44 l0 x5_1).f6) ((rd_T44 l0 x5_1).f7) ((rd_T44 l1 x5_1).f0) ((rd_T44 l1 x5_1).f1) ((rd_T44 l1 x5_1).f2) ((rd_T44 l1 x5_1).f3) ((rd_T44 l1 x5_1).f4) ((rd_T44 l1 x5_1).f5) ((rd_T44 l1 x5_1).f6) ((rd_T44 l1 x5_1).f7) true _ A7.out).mono ?_
        rintro e w10 ⟨rfl, hb⟩
        refine ⟨_, rfl, ?_⟩
        have n0_ := Aside0.mk (below_step m0_ hb)
        clear HB
        have HB := n0_
        clear n0_
        (try clear hb)
        (try clear hb2)
        (try clear hk)
        (try clear hi)
        refine hK.out _ _ ⟨((HB.out.cell (World.block_lt_of_cell? w _ hw238_0)).trans hw238_0), ((HB.out.cell (World.block_lt_of_cell? w _ hw238_1)).trans hw238_1), ((HB.out.cell (World.block_lt_of_cell? w _ hw238_2)).trans hw238_2), ((HB.out.cell (World.block_lt_of_cell? w _ hw238_3)).trans hw238_3), ((HB.out.cell (World.block_lt_of_cell? w _ hw238_4)).trans hw238_4), ((HB.out.cell (World.block_lt_of_cell? w _ hw238_5)).trans hw238_5), ((HB.out.cell (World.block_lt_of_cell? w _ hw238_6)).trans hw238_6), ((HB.out.cell (World.block_lt_of_cell? w _ hw238_7)).trans hw238_7), ((HB.out.cell (World.block_lt_of_cell? w _ hw239_0)).trans hw239_0), ((HB.out.cell (World.block_lt_of_cell? w _ hw239_1)).trans hw239_1), ((HB.out.cell (World.block_lt_of_cell? w _ hw239_2)).trans hw239_2), ((HB.out.cell (World.block_lt_of_cell? w _ hw239_3)).trans hw239_3), ((HB.out.cell (World.block_lt_of_cell? w _ hw239_4)).trans hw239_4), ((HB.out.cell (World.block_lt_of_cell? w _ hw239_5)).trans hw239_5), ((HB.out.cell (World.block_lt_of_cell? w _ hw239_6)).trans hw239_6), ((HB.out.cell (World.block_lt_of_cell? w _ hw239_7)).trans hw239_7)⟩ (fun hHeld => ?_)
        clear hK K
        refine no_ ?_
        refine pure_ (i := 9) (N := some 26) (v := ?_) (a' := ?_) (bm 10 1023) rfl rfl (any_of HT_.out (by kernel_rfl)) (fun _ _ _ h => h) (Or.inl ⟨(by rfl), ?_⟩) ?_ ?_; rotate_left; intro w'; go_simp; with_reducible rfl; rotate_left; simp only [Act.put, List.setIfInBounds_toArray, List.set_cons_zero, List.set_cons_succ, i64_w, i32_w]; rfl
        refine done_ (done_of HT_.out (by kernel_rfl)) ?_
        try go_wp2
        go_roundg k1
        case measure => have := HK1.out; omega
        case rel => exact ⟨(wrap64 (x5_1 + 1)), m14_, H', ⟨(by have := HK1.out; omega)⟩, ⟨m0_⟩⟩
       ·replace c8 := Bool.eq_false_iff.mpr c8
        subst c8
        have H1 : (some false) = some r := by rw [if_neg (show ¬ (false = true) by decide)] at H; exact H
        clear H
        have H := H1
        clear H1
        obtain rfl := Option.some.inj H
        try go_wp2
        have n0_ := Aside0.mk (below_drew1 HB.out)
        clear HB
        have HB := n0_
        clear n0_
        have p238 : 0 ≤ (x5_1 : Int) := of_decide_eq_true m6_
        have q238 : x5_1 < (l0.length : Int) := of_decide_eq_true m6_
        obtain ⟨ad238, e238, hx238_0, hx238_1, hx238_2, hx238_3, hx238_4, hx238_5, hx238_6, hx238_7⟩ := at_T44 HR0.out x5_1 p238 q238
        have hw238_7 := hx238_7
        have hw238_6 := hx238_6
        have hw238_5 := hx238_5
        have hw238_4 := hx238_4
        have hw238_3 := hx238_3
        have hw238_2 := hx238_2
        have hw238_1 := hx238_1
        have hw238_0 := hx238_0
        cases e238
        replace hx238_0 := (HB.out.cell (World.block_lt_of_cell? w _ hx238_0)).trans hx238_0
        replace hx238_1 := (HB.out.cell (World.block_lt_of_cell? w _ hx238_1)).trans hx238_1
        replace hx238_2 := (HB.out.cell (World.block_lt_of_cell? w _ hx238_2)).trans hx238_2
        replace hx238_3 := (HB.out.cell (World.block_lt_of_cell? w _ hx238_3)).trans hx238_3
        replace hx238_4 := (HB.out.cell (World.block_lt_of_cell? w _ hx238_4)).trans hx238_4
        replace hx238_5 := (HB.out.cell (World.block_lt_of_cell? w _ hx238_5)).trans hx238_5
        replace hx238_6 := (HB.out.cell (World.block_lt_of_cell? w _ hx238_6)).trans hx238_6
        replace hx238_7 := (HB.out.cell (World.block_lt_of_cell? w _ hx238_7)).trans hx238_7
        replace p238 := eq_true p238
        replace q238 := eq_true q238
        have p239 : 0 ≤ (x5_1 : Int) := of_decide_eq_true m6_
        have q239 : x5_1 < (l1.length : Int) := of_decide_eq_true m6_
        obtain ⟨ad239, e239, hx239_0, hx239_1, hx239_2, hx239_3, hx239_4, hx239_5, hx239_6, hx239_7⟩ := at_T44 HR1.out x5_1 p239 q239
        have hw239_7 := hx239_7
        have hw239_6 := hx239_6
        have hw239_5 := hx239_5
        have hw239_4 := hx239_4
        have hw239_3 := hx239_3
        have hw239_2 := hx239_2
        have hw239_1 := hx239_1
        have hw239_0 := hx239_0
        cases e239
        replace hx239_0 := (HB.out.cell (World.block_lt_of_cell? w _ hx239_0)).trans hx239_0
        replace hx239_1 := (HB.out.cell (World.block_lt_of_cell? w _ hx239_1)).trans hx239_1
        replace hx239_2 := (HB.out.cell (World.block_lt_of_cell? w _ hx239_2)).trans hx239_2
        replace hx239_3 := (HB.out.cell (World.block_lt_of_cell? w _ hx239_3)).trans hx239_3
        replace hx239_4 := (HB.out.cell (World.block_lt_of_cell? w _ hx239_4)).trans hx239_4
        replace hx239_5 := (HB.out.cell (World.block_lt_of_cell? w _ hx239_5)).trans hx239_5
        replace hx239_6 := (HB.out.cell (World.block_lt_of_cell? w _ hx239_6)).trans hx239_6
        replace hx239_7 := (HB.out.cell (World.block_lt_of_cell? w _ hx239_7)).trans hx239_7
        replace p239 := eq_true p239
        replace q239 := eq_true q239
        refine start_ (n := 10) (S := fun w' => w'.cell? (ad238.add ((x5_1).toNat * 8)) = some (.string ((rd_T44 l0 x5_1).f0)) ∧ w'.cell? ⟨(ad238.add ((x5_1).toNat * 8)).block, (ad238.add ((x5_1).toNat * 8)).off + 1, none⟩ = some (.int .i64 ((rd_T44 l0 x5_1).f1)) ∧ w'.cell? ⟨(ad238.add ((x5_1).toNat * 8)).block, (ad238.add ((x5_1).toNat * 8)).off + 2, none⟩ = some (.string ((rd_T44 l0 x5_1).f2)) ∧ w'.cell? ⟨(ad238.add ((x5_1).toNat * 8)).block, (ad238.add ((x5_1).toNat * 8)).off + 3, none⟩ = some (.string ((rd_T44 l0 x5_1).f3)) ∧ w'.cell? ⟨(ad238.add ((x5_1).toNat * 8)).block, (ad238.add ((x5_1).toNat * 8)).off + 4, none⟩ = some (.int .i64 ((rd_T44 l0 x5_1).f4)) ∧ w'.cell? ⟨(ad238.add ((x5_1).toNat * 8)).block, (ad238.add ((x5_1).toNat * 8)).off + 5, none⟩ = some (.int .i64 ((rd_T44 l0 x5_1).f5)) ∧ w'.cell? ⟨(ad238.add ((x5_1).toNat * 8)).block, (ad238.add ((x5_1).toNat * 8)).off + 6, none⟩ = some (.string ((rd_T44 l0 x5_1).f6)) ∧ w'.cell? ⟨(ad238.add ((x5_1).toNat * 8)).block, (ad238.add ((x5_1).toNat * 8)).off + 7, none⟩ = some (.string ((rd_T44 l0 x5_1).f7)) ∧ w'.cell? (ad239.add ((x5_1).toNat * 8)) = some (.string ((rd_T44 l1 x5_1).f0)) ∧ w'.cell? ⟨(ad239.add ((x5_1).toNat * 8)).block, (ad239.add ((x5_1).toNat * 8)).off + 1, none⟩ = some (.int .i64 ((rd_T44 l1 x5_1).f1)) ∧ w'.cell? ⟨(ad239.add ((x5_1).toNat * 8)).block, (ad239.add ((x5_1).toNat * 8)).off + 2, none⟩ = some (.string ((rd_T44 l1 x5_1).f2)) ∧ w'.cell? ⟨(ad239.add ((x5_1).toNat * 8)).block, (ad239.add ((x5_1).toNat * 8)).off + 3, none⟩ = some (.string ((rd_T44 l1 x5_1).f3)) ∧ w'.cell? ⟨(ad239.add ((x5_1).toNat * 8)).block, (ad239.add ((x5_1).toNat * 8)).off + 4, none⟩ = some (.int .i64 ((rd_T44 l1 x5_1).f4)) ∧ w'.cell? ⟨(ad239.add ((x5_1).toNat * 8)).block, (ad239.add ((x5_1).toNat * 8)).off + 5, none⟩ = some (.int .i64 ((rd_T44 l1 x5_1).f5)) ∧ w'.cell? ⟨(ad239.add ((x5_1).toNat * 8)).block, (ad239.add ((x5_1).toNat * 8)).off + 6, none⟩ = some (.string ((rd_T44 l1 x5_1).f6)) ∧ w'.cell? ⟨(ad239.add ((x5_1).toNat * 8)).block, (ad239.add ((x5_1).toNat * 8)).off + 7, none⟩ = some (.string ((rd_T44 l1 x5_1).f7))) (ds := []) (bm 10 0) (by kernel_rfl) rfl rfl ⟨((HB.out.cell (World.block_lt_of_cell? w _ hw238_0)).trans hw238_0), ((HB.out.cell (World.block_lt_of_cell? w _ hw238_1)).trans hw238_1), ((HB.out.cell (World.block_lt_of_cell? w _ hw238_2)).trans hw238_2), ((HB.out.cell (World.block_lt_of_cell? w _ hw238_3)).trans hw238_3), ((HB.out.cell (World.block_lt_of_cell? w _ hw238_4)).trans hw238_4), ((HB.out.cell (World.block_lt_of_cell? w _ hw238_5)).trans hw238_5), ((HB.out.cell (World.block_lt_of_cell? w _ hw238_6)).trans hw238_6), ((HB.out.cell (World.block_lt_of_cell? w _ hw238_7)).trans hw238_7), ((HB.out.cell (World.block_lt_of_cell? w _ hw239_0)).trans hw239_0), ((HB.out.cell (World.block_lt_of_cell? w _ hw239_1)).trans hw239_1), ((HB.out.cell (World.block_lt_of_cell? w _ hw239_2)).trans hw239_2), ((HB.out.cell (World.block_lt_of_cell? w _ hw239_3)).trans hw239_3), ((HB.out.cell (World.block_lt_of_cell? w _ hw239_4)).trans hw239_4), ((HB.out.cell (World.block_lt_of_cell? w _ hw239_5)).trans hw239_5), ((HB.out.cell (World.block_lt_of_cell? w _ hw239_6)).trans hw239_6), ((HB.out.cell (World.block_lt_of_cell? w _ hw239_7)).trans hw239_7)⟩ (fun hHeld => ?_); refine with_tabW laws_eqRecPhaseS.tab6 laws_eqRecPhaseS.bits6 (fun HT_ HW_ => ?_)
        generalize wr.drew = w11 at HB hx238_0 hx238_1 hx238_2 hx238_3 hx238_4 hx238_5 hx238_6 hx238_7 hx239_0 hx239_1 hx239_2 hx239_3 hx239_4 hx239_5 hx239_6 hx239_7 hHeld ⊢
        refine pure_ (i := 0) (N := some 17) (v := ?_) (a' := ?_) (bm 10 1) rfl rfl (any_of HT_.out (by kernel_rfl)) (fun _ _ _ h => h) (Or.inl ⟨(by rfl), ?_⟩) ?_ ?_; rotate_left; intro w'; go_simp; with_reducible rfl; rotate_left; simp only [Act.put, List.setIfInBounds_toArray, List.set_cons_zero, List.set_cons_succ, i64_w, i32_w]; rfl
        refine pure_ (i := 1) (N := some 18) (v := ?_) (a' := ?_) (bm 10 3) rfl rfl (any_of HT_.out (by kernel_rfl)) (fun _ _ _ h => h) (Or.inl ⟨(by rfl), ?_⟩) ?_ ?_; rotate_left; intro w'; go_simp; with_reducible rfl; rotate_left; simp only [Act.put, List.setIfInBounds_toArray, List.set_cons_zero, List.set_cons_succ, i64_w, i32_w]; rfl
        refine pure_ (i := 2) (N := some 19) (v := ?_) (a' := ?_) (bm 10 7) rfl rfl (any_of HT_.out (by kernel_rfl)) (fun _ _ _ h => h) (Or.inl ⟨(by rfl), ?_⟩) ?_ ?_; rotate_left; intro w'; go_simp; with_reducible rfl; rotate_left; simp only [Act.put, List.setIfInBounds_toArray, List.set_cons_zero, List.set_cons_succ, i64_w, i32_w]; rfl
        refine pure_ (i := 4) (N := some 21) (v := ?_) (a' := ?_) (bm 10 23) rfl rfl (any_of HT_.out (by kernel_rfl)) (fun _ _ _ h => h) (Or.inl ⟨(by rfl), ?_⟩) ?_ ?_; rotate_left; intro w'; go_simp; with_reducible rfl; rotate_left; simp only [Act.put, List.setIfInBounds_toArray, List.set_cons_zero, List.set_cons_succ, i64_w, i32_w]; rfl
        refine pure_ (i := 5) (N := some 22) (v := ?_) (a' := ?_) (bm 10 55) rfl rfl (any_of HT_.out (by kernel_rfl)) (fun _ _ _ h => h) (Or.inl ⟨(by rfl), ?_⟩) ?_ ?_; rotate_left; intro w'; go_simp; with_reducible rfl; rotate_left; simp only [Act.put, List.setIfInBounds_toArray, List.set_cons_zero, List.set_cons_succ, i64_w, i32_w]; rfl
        refine pure_ (i := 6) (N := some 23) (v := ?_) (a' := ?_) (bm 10 119) rfl rfl (any_of HT_.out (by kernel_rfl)) (fun _ _ _ h => h) (Or.inl ⟨(by rfl), ?_⟩) ?_ ?_; rotate_left; intro w'; go_simp; with_reducible rfl; rotate_left; simp only [Act.put, List.setIfInBounds_toArray, List.set_cons_zero, List.set_cons_succ, i64_w, i32_w]; rfl
        refine take_ (i := 3) (N := some 20) (v := ?_) (a' := ?_) (bm 10 127) rfl rfl (take_ofW HT_.out HW_.out (by kernel_rfl)) (fun _ _ _ h => h) (Or.inl ⟨(by rfl), ?_⟩) hHeld ?_ ?_; rotate_left; rintro w' ⟨s0, s1, s2, s3, s4, s5, s6, s7, s8, s9, s10, s11, s12, s13, s14, s15⟩; go_simp; with_reducible rfl; rotate_left; simp only [Act.put, List.setIfInBounds_toArray, List.set_cons_zero, List.set_cons_succ, i64_w, i32_w]; rfl
        refine take_ (i := 7) (N := some 24) (v := ?_) (a' := ?_) (bm 10 255) rfl rfl (take_ofW HT_.out HW_.out (by kernel_rfl)) (fun _ _ _ h => h) (Or.inl ⟨(by rfl), ?_⟩) hHeld ?_ ?_; rotate_left; rintro w' ⟨s0, s1, s2, s3, s4, s5, s6, s7, s8, s9, s10, s11, s12, s13, s14, s15⟩; go_simp; with_reducible rfl; rotate_left; simp only [Act.put, List.setIfInBounds_toArray, List.set_cons_zero, List.set_cons_succ, i64_w, i32_w]; rfl
        refine one_ (i := 8) (N := some 25) (bm 10 511) rfl rfl (one_of HT_.out (by kernel_rfl)) (by decide) (fun K hK => ?_)
        refine goes_ Try.func38 (by kernel_rfl) rfl #[.agg #[.string ((rd_T44 l0 x5_1).f0), .int .i64 ((rd_T44 l0 x5_1).f1), .string ((rd_T44 l0 x5_1).f2), .string ((rd_T44 l0 x5_1).f3), .int .i64 ((rd_T44 l0 x5_1).f4), .int .i64 ((rd_T44 l0 x5_1).f5), .string ((rd_T44 l0 x5_1).f6), .string ((rd_T44 l0 x5_1).f7)], .agg #[.string ((rd_T44 l1 x5_1).f0), .int .i64 ((rd_T44 l1 x5_1).f1), .string ((rd_T44 l1 x5_1).f2), .string ((rd_T44 l1 x5_1).f3), .int .i64 ((rd_T44 l1 x5_1).f4), .int .i64 ((rd_T44 l1 x5_1).f5), .string ((rd_T44 l1 x5_1).f6), .string ((rd_T44 l1 x5_1).f7)]] (by rfl) rfl rfl m1_ ?_
        with_reducible refine (laws_eqRecPhase.calls ((rd_T44 l0 x5_1).f0) ((rd_T44 l0 x5_1).f1) ((rd_T44 l0 x5_1).f2) ((rd_T44 l0 x5_1).f3) ((rd_T44 l0 x5_1).f4) ((rd_T44 l0 x5_1).f5) ((rd_T44 l0 x5_1).f6) ((rd_T44 l0 x5_1).f7) ((rd_T44 l1 x5_1).f0) ((rd_T44 l1 x5_1).f1) ((rd_T44 l1 x5_1).f2) ((rd_T44 l1 x5_1).f3) ((rd_T44 l1 x5_1).f4) ((rd_T44 l1 x5_1).f5) ((rd_T44 l1 x5_1).f6) ((rd_T44 l1 x5_1).f7) false _ A7.out).mono ?_
        rintro e w12 ⟨rfl, hb⟩
        refine ⟨_, rfl, ?_⟩
        have n0_ := Aside0.mk (below_step m0_ hb)
        clear HB
        have HB := n0_
        clear n0_
        (try clear hb)
        (try clear hb2)
        (try clear hk)
        (try clear hi)
        refine hK.out _ _ ⟨((HB.out.cell (World.block_lt_of_cell? w _ hw238_0)).trans hw238_0), ((HB.out.cell (World.block_lt_of_cell? w _ hw238_1)).trans hw238_1), ((HB.out.cell (World.block_lt_of_cell? w _ hw238_2)).trans hw238_2), ((HB.out.cell (World.block_lt_of_cell? w _ hw238_3)).trans hw238_3), ((HB.out.cell (World.block_lt_of_cell? w _ hw238_4)).trans hw238_4), ((HB.out.cell (World.block_lt_of_cell? w _ hw238_5)).trans hw238_5), ((HB.out.cell (World.block_lt_of_cell? w _ hw238_6)).trans hw238_6), ((HB.out.cell (World.block_lt_of_cell? w _ hw238_7)).trans hw238_7), ((HB.out.cell (World.block_lt_of_cell? w _ hw239_0)).trans hw239_0), ((HB.out.cell (World.block_lt_of_cell? w _ hw239_1)).trans hw239_1), ((HB.out.cell (World.block_lt_of_cell? w _ hw239_2)).trans hw239_2), ((HB.out.cell (World.block_lt_of_cell? w _ hw239_3)).trans hw239_3), ((HB.out.cell (World.block_lt_of_cell? w _ hw239_4)).trans hw239_4), ((HB.out.cell (World.block_lt_of_cell? w _ hw239_5)).trans hw239_5), ((HB.out.cell (World.block_lt_of_cell? w _ hw239_6)).trans hw239_6), ((HB.out.cell (World.block_lt_of_cell? w _ hw239_7)).trans hw239_7)⟩ (fun hHeld => ?_)
        clear hK K
        refine no_ ?_
        refine pure_ (i := 9) (N := some 26) (v := ?_) (a' := ?_) (bm 10 1023) rfl rfl (any_of HT_.out (by kernel_rfl)) (fun _ _ _ h => h) (Or.inl ⟨(by rfl), ?_⟩) ?_ ?_; rotate_left; intro w'; go_simp; with_reducible rfl; rotate_left; simp only [Act.put, List.setIfInBounds_toArray, List.set_cons_zero, List.set_cons_succ, i64_w, i32_w]; rfl
        refine done_ (done_of HT_.out (by kernel_rfl)) ?_
        try go_wp2
        go_ret
        exact ⟨m5_, m0_⟩
      ·rw [if_neg c6] at H
       exact absurd H (by simp)
     ·rw [if_neg c5] at H
      exact absurd H (by simp)
    ·rw [if_neg c4] at H
     have c4b0 : decide (x5_1 < (l0.length : Int)) = false := decide_eq_false c4
     clear c4
     obtain rfl := Option.some.inj H
     go_wp2
     go_ret
     exact ⟨m5_, m0_⟩
 ·rw [if_neg c3] at H
  have c3b0 : ((l0.length : Int) == (l1.length : Int)) = false := beq_eq_false_iff_ne.mpr c3
  have c3b1 : ((l0.length : Int) != (l1.length : Int)) = true := bne_iff_ne.mpr c3
  have c3b2 : (l0.length == l1.length) = false := by first | simpa using c3 | (simp at c3 ⊢; omega)
  obtain rfl := Option.some.inj H
  go_enter Try.func15, Try.ntmps15
  go_wp2
  go_ret
  exact ⟨m5_, m0_⟩

end Go.Proofs.Ytpihcdbkdldbcaa.QFnExactRecGo
