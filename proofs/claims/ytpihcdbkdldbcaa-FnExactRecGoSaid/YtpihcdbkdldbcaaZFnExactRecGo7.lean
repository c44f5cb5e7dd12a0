/- Laid by a program of this session: the texts of one law, joined, without what it does not come to. -/
import Derived.Test.YtpihcdbkdldbcaaZFnExactRecGo6
namespace Go.Proofs.Ytpihcdbkdldbcaa.QFnExactRecGo
open Go.RowKit Go.Proofs.YtpihcdbkdldbcaaW.PrintWords Go.Proofs.YtpihcdbkdldbcaaW.PrintLast Go.Proofs.YtpihcdbkdldbcaaW.PrintMore
attribute [local go_sem] str_geq str_gtr str_leq max2_int min2_int max_two min_two max_three min_three max_four min_four   -- for this text's walks alone
set_option linter.unusedVariables false
set_option linter.unusedSimpArgs false
/-! ### laws_FnExactRecGo: function 3 -/
def laws_FnExactRecGo.j0 : Nat → List (S58) → List (S44) → Bool → Option (Bool)
 | 0, _, _, _ => none
 | k + 1, x0, x10, x52 => if x52 = true then (some false) else ((laws_toRecPhaseS.f k x0).bind fun t272 => ((laws_eqRecPhaseS.f k x10 t272).bind fun t275 => (if t275 = true then (some true) else (some false))))
def laws_FnExactRecGo.f (k : Nat) (l0 : List (S58)) (a1_0 : ByteArray) (a1_1 : Int) (a1_2 : Int) (a2_0 : Int) (a2_1 : Bool) : Option (Bool) := (laws_szRecPhaseS.f k l0 1048576).bind fun t243 => (if t243 < 0 then (some true) else ((laws_szRecState.f a1_0 a1_1 a1_2 t243).bind fun t244 => (if t244 < 0 then (some true) else ((laws_toRecPhaseS.f k l0).bind fun t245 => ((laws_toRecState.f a1_0 a1_1 a1_2).bind fun bt248 => ((laws_toRecSay.f a2_0 a2_1).bind fun bt251 => ((spec_RecGo.f k t245 bt248.1 bt248.2.1 bt248.2.2 bt251.1 bt251.2).bind fun bt253 => ((laws_toRecPhaseS.f k l0).bind fun t258 => ((laws_toRecState.f a1_0 a1_1 a1_2).bind fun bt261 => ((laws_toRecSay.f a2_0 a2_1).bind fun bt264 => ((impl_RecGo.f k t258 bt261.1 bt261.2.1 bt261.2.2 bt264.1 bt264.2).bind fun bt266 => ((laws_eqRecState.f bt266.1 bt266.2.1 bt266.2.2.1 bt253.1 bt253.2.1 bt253.2.2.1).bind fun t271 => (if t271 = true then (laws_FnExactRecGo.j0 k l0 t258 (bt266.2.2.2 != bt253.2.2.2)) else (laws_FnExactRecGo.j0 k l0 t258 true))))))))))))))
theorem laws_FnExactRecGo.mono_l : ∀ k, (∀ y0 y1 y2, LeO (laws_FnExactRecGo.j0 k y0 y1 y2) (laws_FnExactRecGo.j0 (k + 1) y0 y1 y2))
 | 0 => fun _ _ _ r h => by simp [laws_FnExactRecGo.j0] at h
 | k + 1 => by
  have ih0 := laws_FnExactRecGo.mono_l k
  ·intro y0 y1 y2
   unfold laws_FnExactRecGo.j0
   repeat' first
   | (with_reducible exact ih0 _ _ _)
   | (with_reducible exact impl_RecGo.mono _ _ _ _ _ _ _)
   | (with_reducible exact laws_eqRecPhaseS.mono _ _ _)
   | (with_reducible exact laws_szRecPhaseS.mono _ _ _)
   | (with_reducible exact laws_toRecPhaseS.mono _ _)
   | (with_reducible exact spec_RecGo.mono _ _ _ _ _ _ _)
   | (with_reducible exact LeO.refl _)
   | (with_reducible exact LeO.none _)
   | (with_reducible refine LeO.ite ?_ ?_)
   | (with_reducible refine LeO.bind ?_ (fun _ => ?_))
   | exact ih0 _ _ _
   | exact impl_RecGo.mono _ _ _ _ _ _ _
   | exact laws_eqRecPhaseS.mono _ _ _
   | exact laws_szRecPhaseS.mono _ _ _
   | exact laws_toRecPhaseS.mono _ _
   | exact spec_RecGo.mono _ _ _ _ _ _ _
   | exact LeO.none _
   | refine LeO.ite ?_ ?_
   | refine LeO.bind ?_ (fun _ => ?_)
theorem laws_FnExactRecGo.mono : ∀ a0 a1 a2 a3 a4 a5 k, LeO (laws_FnExactRecGo.f k a0 a1 a2 a3 a4 a5) (laws_FnExactRecGo.f (k + 1) a0 a1 a2 a3 a4 a5) := by
 intro a0 a1 a2 a3 a4 a5 k
 have ih0 := laws_FnExactRecGo.mono_l k
 unfold laws_FnExactRecGo.f
 repeat' first
   | (with_reducible exact ih0 _ _ _)
   | (with_reducible exact impl_RecGo.mono _ _ _ _ _ _ _)
   | (with_reducible exact laws_eqRecPhaseS.mono _ _ _)
   | (with_reducible exact laws_szRecPhaseS.mono _ _ _)
   | (with_reducible exact laws_toRecPhaseS.mono _ _)
   | (with_reducible exact spec_RecGo.mono _ _ _ _ _ _ _)
   | (with_reducible exact LeO.refl _)
   | (with_reducible exact LeO.none _)
   | (with_reducible refine LeO.ite ?_ ?_)
   | (with_reducible refine LeO.bind ?_ (fun _ => ?_))
   | exact ih0 _ _ _
   | exact impl_RecGo.mono _ _ _ _ _ _ _
   | exact laws_eqRecPhaseS.mono _ _ _
   | exact laws_szRecPhaseS.mono _ _ _
   | exact laws_toRecPhaseS.mono _ _
   | exact spec_RecGo.mono _ _ _ _ _ _ _
   | exact LeO.none _
   | refine LeO.ite ?_ ?_
   | refine LeO.bind ?_ (fun _ => ?_)
def laws_FnExactRecGo.T8 : Bool × List (List Nat × List Nat) := (true, [([], []), ([0], [0]), ([], []), ([2, 1], [2]), ([], []), ([4, 3], [4]), ([1, 3, 5, 5], [1, 3, 5]), ([6], [6]), ([7], [7]), ([7], [7]), ([], []), ([10, 8, 6, 0, 1, 2, 3, 4, 5, 6, 7, 8, 10], [8, 10]), ([9, 11, 0, 1, 2, 3, 4, 5, 6, 7, 8, 9, 10, 11], [9])])
def laws_FnExactRecGo.B8 : List Nat := [0, 1, 0, 7, 0, 31, 63, 127, 255, 255, 0, 1535, 4095]
theorem laws_FnExactRecGo.tab8 : rtab .any (opsOf Try.f3 8) = laws_FnExactRecGo.T8 := by kernel_rfl
theorem laws_FnExactRecGo.bits8 : waitsOk laws_FnExactRecGo.T8.2 laws_FnExactRecGo.B8 = true := by kernel_rfl
def laws_FnExactRecGo.T10 : Bool × List (List Nat × List Nat) := (true, [([], []), ([], []), ([1], [1]), ([], []), ([3, 2], [3]), ([0, 2, 4, 4], [0, 2, 4]), ([5], [5]), ([6], [6]), ([6], [6]), ([], []), ([9, 7, 5, 0, 1, 2, 3, 4, 5, 6, 7, 9], [7, 9]), ([8, 10, 0, 1, 2, 3, 4, 5, 6, 7, 8, 9, 10], [8])])
def laws_FnExactRecGo.B10 : List Nat := [0, 0, 2, 0, 14, 31, 63, 127, 127, 0, 767, 2047]
theorem laws_FnExactRecGo.tab10 : rtab .any (opsOf Try.f3 10) = laws_FnExactRecGo.T10 := by kernel_rfl
theorem laws_FnExactRecGo.bits10 : waitsOk laws_FnExactRecGo.T10.2 laws_FnExactRecGo.B10 = true := by kernel_rfl
set_option maxHeartbeats 8000000 in
set_option maxRecDepth 100000 in
theorem laws_FnExactRecGo.calls (k : Nat) (A0 : Option Addr) (c0 : Nat) (l0 : List (S58)) (a1_0 : ByteArray) (a1_1 : Int) (a1_2 : Int) (a2_0 : Int) (a2_1 : Bool) (r : Bool) (w : World) (hr0 : Kd.C k58 w A0 l0.length l0) (hc0 : l0.length ≤ c0) (h : laws_FnExactRecGo.f k l0 a1_0 a1_1 a1_2 a2_0 a2_1 = some r) :
  Calls Try.prog 3 #[.slice A0 l0.length c0, .agg #[.string a1_0, .int .i64 a1_1, .int .i64 a1_2], .agg #[.int .i64 a2_0, .bool a2_1]] w fun e w' => e = .returned (.bool r) ∧ Below w.heap.size w w' := by
 have hu24 := Try.underlying24
 have hu26 := Try.underlying26
 have hu29 := Try.underlying29
 have HR0 := Aside0.mk hr0
 have HC0 := Aside0.mk hc0
 clear hr0 hc0
 have HB := Aside0.mk (Below.refl w.heap.size w)
 have H : ((laws_szRecPhaseS.f k l0 1048576).bind fun t243 => (if t243 < 0 then (some true) else ((laws_szRecState.f a1_0 a1_1 a1_2 t243).bind fun t244 => (if t244 < 0 then (some true) else ((laws_toRecPhaseS.f k l0).bind fun t245 => ((laws_toRecState.f a1_0 a1_1 a1_2).bind fun bt248 => ((laws_toRecSay.f a2_0 a2_1).bind fun bt251 => ((spec_RecGo.f k t245 bt248.1 bt248.2.1 bt248.2.2 bt251.1 bt251.2).bind fun bt253 => ((laws_toRecPhaseS.f k l0).bind fun t258 => ((laws_toRecState.f a1_0 a1_1 a1_2).bind fun bt261 => ((laws_toRecSay.f a2_0 a2_1).bind fun bt264 => ((impl_RecGo.f k t258 bt261.1 bt261.2.1 bt261.2.2 bt264.1 bt264.2).bind fun bt266 => ((laws_eqRecState.f bt266.1 bt266.2.1 bt266.2.2.1 bt253.1 bt253.2.1 bt253.2.2.1).bind fun t271 => (if t271 = true then (laws_FnExactRecGo.j0 k l0 t258 (bt266.2.2.2 != bt253.2.2.2)) else (laws_FnExactRecGo.j0 k l0 t258 true))))))))))))))) = some r := h
 clear h
 replace H := Option.bind_eq_some_iff.mp H
 obtain ⟨t243, A40, H⟩ := H
 replace H : (if t243 < 0 then (some true) else ((laws_szRecState.f a1_0 a1_1 a1_2 t243).bind fun t244 => (if t244 < 0 then (some true) else ((laws_toRecPhaseS.f k l0).bind fun t245 => ((laws_toRecState.f a1_0 a1_1 a1_2).bind fun bt248 => ((laws_toRecSay.f a2_0 a2_1).bind fun bt251 => ((spec_RecGo.f k t245 bt248.1 bt248.2.1 bt248.2.2 bt251.1 bt251.2).bind fun bt253 => ((laws_toRecPhaseS.f k l0).bind fun t258 => ((laws_toRecState.f a1_0 a1_1 a1_2).bind fun bt261 => ((laws_toRecSay.f a2_0 a2_1).bind fun bt264 => ((impl_RecGo.f k t258 bt261.1 bt261.2.1 bt261.2.2 bt264.1 bt264.2).bind fun bt266 => ((laws_eqRecState.f bt266.1 bt266.2.1 bt266.2.2.1 bt253.1 bt253.2.1 bt253.2.2.1).bind fun t271 => (if t271 = true then (laws_FnExactRecGo.j0 k l0 t258 (bt266.2.2.2 != bt253.2.2.2)) else (laws_FnExactRecGo.j0 k l0 t258 true)))))))))))))) = some r := H
 have A4 := Aside0.mk A40
 clear A40
 by_cases c5 : t243 < 0
 ·rw [if_pos c5] at H
  have c5b0 : decide (t243 < 0) = true := decide_eq_true c5
  clear c5
  obtain rfl := Option.some.inj H
  go_enter Try.func3, Try.ntmps3
  go_wp2_with (first | ((with_reducible refine gate_dst (N := 4) rfl ?_); refine box_event ?hg (N := 4) ?hd (cs := #[.string a1_0, .int .i64 a1_1, .int .i64 a1_2]) (t := 24) ?hr ?_; (case hd => rfl); (case hg => rfl); (case hr => first | (go_simp; done) | (go_simp; rfl)); intro gb241 hg w6 hbox hb; have n0_ := Aside0.mk (below_step m0_ hb); have n1_ := Aside0.mk (hbox); have n2_ := Aside0.mk ((by rw [hg]; exact (below_size m0_) : w.heap.size ≤ gb241)); have n3_ := Aside0.mk ((by rw [hg]; exact (below_size m0_) : w.heap.size ≤ gb241)); clear HB; have HB := n0_; have BK241 := n1_; have GW241 := n2_; have GE241 := n3_; clear n0_ n1_ n2_ n3_; clear hb hbox hg) | ((with_reducible refine gate_dst (N := 5) rfl ?_); refine box_event ?hg (N := 5) ?hd (cs := #[.int .i64 a2_0, .bool a2_1]) (t := 26) ?hr ?_; (case hd => rfl); (case hg => rfl); (case hr => first | (go_simp; done) | (go_simp; rfl)); intro gb242 hg w7 hbox hb; have n0_ := Aside0.mk (blk_below (g := gb241) (o := .cells #[.string a1_0, .int .i64 a1_1, .int .i64 a1_2] 24 (0, 0)) m2_ hb); have n1_ := Aside0.mk (below_step m33_ hb); have n2_ := Aside0.mk (hbox); have n3_ := Aside0.mk ((by rw [hg]; exact (below_size m33_) : w.heap.size ≤ gb242)); have n4_ := Aside0.mk ((by rw [hg]; exact (below_size m33_) : w.heap.size ≤ gb242)); have n5_ := Aside0.mk ((by rw [hg]; exact Nat.ne_of_lt (blk_lt (g := gb241) (o := .cells #[.string a1_0, .int .i64 a1_1, .int .i64 a1_2] 24 (0, 0)) m2_) : gb241 ≠ gb242)); have n6_ := Aside0.mk ((by rw [hg]; exact Nat.ne_of_gt (blk_lt (g := gb241) (o := .cells #[.string a1_0, .int .i64 a1_1, .int .i64 a1_2] 24 (0, 0)) m2_) : gb242 ≠ gb241)); clear BK241; clear HB; have BK241 := n0_; have HB := n1_; have BK242 := n2_; have GW242 := n3_; have GE242 := n4_; have NB241_242 := n5_; have NB242_241 := n6_; clear n0_ n1_ n2_ n3_ n4_ n5_ n6_; clear hb hbox hg) | ((with_reducible refine gate_callee (f := 7) rfl ?_); refine goesL_ (some 15) rfl rfl Try.func7 (by kernel_rfl) rfl #[.slice A0 l0.length c0, .int .i64 1048576] rfl m1_ ?_; (with_reducible refine (laws_szRecPhaseS.calls k _ _ l0 1048576 t243 _ ?side1 ?side2 A4.out).mono ?_); (case side1 => exact m9_); (case side2 => exact HC0.out); rintro e w8 ⟨rfl, hb⟩; refine ⟨_, rfl, ?_⟩; have n0_ := Aside0.mk (blk_below (g := gb241) (o := .cells #[.string a1_0, .int .i64 a1_1, .int .i64 a1_2] 24 (0, 0)) m2_ hb); have n1_ := Aside0.mk (blk_below (g := gb242) (o := .cells #[.int .i64 a2_0, .bool a2_1] 26 (0, 0)) m3_ hb); have n2_ := Aside0.mk (below_step m7_ hb); clear BK241; clear BK242; clear HB; have BK241 := n0_; have BK242 := n1_; have HB := n2_; clear n0_ n1_ n2_; (try clear hb); (try clear hb2); (try clear hk); (try clear hi)))
  go_ret
  exact ⟨m5_, m7_⟩
 ·rw [if_neg c5] at H
  have c5b0 : decide (t243 < 0) = false := decide_eq_false c5
  clear c5
  replace H := Option.bind_eq_some_iff.mp H
  obtain ⟨t244, A90, H⟩ := H
  replace H : (if t244 < 0 then (some true) else ((laws_toRecPhaseS.f k l0).bind fun t245 => ((laws_toRecState.f a1_0 a1_1 a1_2).bind fun bt248 => ((laws_toRecSay.f a2_0 a2_1).bind fun bt251 => ((spec_RecGo.f k t245 bt248.1 bt248.2.1 bt248.2.2 bt251.1 bt251.2).bind fun bt253 => ((laws_toRecPhaseS.f k l0).bind fun t258 => ((laws_toRecState.f a1_0 a1_1 a1_2).bind fun bt261 => ((laws_toRecSay.f a2_0 a2_1).bind fun bt264 => ((impl_RecGo.f k t258 bt261.1 bt261.2.1 bt261.2.2 bt264.1 bt264.2).bind fun bt266 => ((laws_eqRecState.f bt266.1 bt266.2.1 bt266.2.2.1 bt253.1 bt253.2.1 bt253.2.2.1).bind fun t271 => (if t271 = true then (laws_FnExactRecGo.j0 k l0 t258 (bt266.2.2.2 != bt253.2.2.2)) else (laws_FnExactRecGo.j0 k l0 t258 true)))))))))))) = some r := H
  have A9 := Aside0.mk A90
  clear A90
  by_cases c10 : t244 < 0
  ·rw [if_pos c10] at H
   have c10b0 : decide (t244 < 0) = true := decide_eq_true c10
   clear c10
   obtain rfl := Option.some.inj H
   go_enter Try.func3, Try.ntmps3
   go_wp2_with (first | ((with_reducible refine gate_dst (N := 4) rfl ?_); refine box_event ?hg (N := 4) ?hd (cs := #[.string a1_0, .int .i64 a1_1, .int .i64 a1_2]) (t := 24) ?hr ?_; (case hd => rfl); (case hg => rfl); (case hr => first | (go_simp; done) | (go_simp; rfl)); intro gb241 hg w11 hbox hb; have n0_ := Aside0.mk (below_step m0_ hb); have n1_ := Aside0.mk (hbox); have n2_ := Aside0.mk ((by rw [hg]; exact (below_size m0_) : w.heap.size ≤ gb241)); have n3_ := Aside0.mk ((by rw [hg]; exact (below_size m0_) : w.heap.size ≤ gb241)); clear HB; have HB := n0_; have BK241 := n1_; have GW241 := n2_; have GE241 := n3_; clear n0_ n1_ n2_ n3_; clear hb hbox hg) | ((with_reducible refine gate_dst (N := 5) rfl ?_); refine box_event ?hg (N := 5) ?hd (cs := #[.int .i64 a2_0, .bool a2_1]) (t := 26) ?hr ?_; (case hd => rfl); (case hg => rfl); (case hr => first | (go_simp; done) | (go_simp; rfl)); intro gb242 hg w12 hbox hb; have n0_ := Aside0.mk (blk_below (g := gb241) (o := .cells #[.string a1_0, .int .i64 a1_1, .int .i64 a1_2] 24 (0, 0)) m2_ hb); have n1_ := Aside0.mk (below_step m33_ hb); have n2_ := Aside0.mk (hbox); have n3_ := Aside0.mk ((by rw [hg]; exact (below_size m33_) : w.heap.size ≤ gb242)); have n4_ := Aside0.mk ((by rw [hg]; exact (below_size m33_) : w.heap.size ≤ gb242)); have n5_ := Aside0.mk ((by rw [hg]; exact Nat.ne_of_lt (blk_lt (g := gb241) (o := .cells #[.string a1_0, .int .i64 a1_1, .int .i64 a1_2] 24 (0, 0)) m2_) : gb241 ≠ gb242)); have n6_ := Aside0.mk ((by rw [hg]; exact Nat.ne_of_gt (blk_lt (g := gb241) (o := .cells #[.string a1_0, .int .i64 a1_1, .int .i64 a1_2] 24 (0, 0)) m2_) : gb242 ≠ gb241)); clear BK241; clear HB; have BK241 := n0_; have HB := n1_; have BK242 := n2_; have GW242 := n3_; have GE242 := n4_; have NB241_242 := n5_; have NB242_241 := n6_; clear n0_ n1_ n2_ n3_ n4_ n5_ n6_; clear hb hbox hg) | ((with_reducible refine gate_callee (f := 7) rfl ?_); refine goesL_ (some 15) rfl rfl Try.func7 (by kernel_rfl) rfl #[.slice A0 l0.length c0, .int .i64 1048576] rfl m1_ ?_; (with_reducible refine (laws_szRecPhaseS.calls k _ _ l0 1048576 t243 _ ?side1 ?side2 A4.out).mono ?_); (case side1 => exact m9_); (case side2 => exact HC0.out); rintro e w13 ⟨rfl, hb⟩; refine ⟨_, rfl, ?_⟩; have n0_ := Aside0.mk (blk_below (g := gb241) (o := .cells #[.string a1_0, .int .i64 a1_1, .int .i64 a1_2] 24 (0, 0)) m2_ hb); have n1_ := Aside0.mk (blk_below (g := gb242) (o := .cells #[.int .i64 a2_0, .bool a2_1] 26 (0, 0)) m3_ hb); have n2_ := Aside0.mk (below_step m7_ hb); clear BK241; clear BK242; clear HB; have BK241 := n0_; have BK242 := n1_; have HB := n2_; clear n0_ n1_ n2_; (try clear hb); (try clear hb2); (try clear hk); (try clear hi); have hnb14 := NB241_242.out; have hnc14 := NB242_241.out; obtain ⟨hcz15_0, hcz15_1, hcz15_2⟩ := cz3_ BK241.out; obtain ⟨hfz15_0, hfz15_1, hfz15_2⟩ := fz3_ BK241.out) | ((with_reducible refine gate_callee (f := 8) rfl ?_); refine goesL_ (some 20) rfl rfl Try.func8 (by kernel_rfl) rfl #[.agg #[.string a1_0, .int .i64 a1_1, .int .i64 a1_2], .int .i64 t243] rfl m1_ ?_; (with_reducible refine (laws_szRecState.calls a1_0 a1_1 a1_2 t243 t244 _ A9.out).mono ?_); rintro e w16 ⟨rfl, hb⟩; refine ⟨_, rfl, ?_⟩; have n0_ := Aside0.mk (blk_below (g := gb241) (o := .cells #[.string a1_0, .int .i64 a1_1, .int .i64 a1_2] 24 (0, 0)) m2_ hb); have n1_ := Aside0.mk (blk_below (g := gb242) (o := .cells #[.int .i64 a2_0, .bool a2_1] 26 (0, 0)) m3_ hb); have n2_ := Aside0.mk (below_step m7_ hb); clear BK241; clear BK242; clear HB; have BK241 := n0_; have BK242 := n1_; have HB := n2_; clear n0_ n1_ n2_; (try clear hb); (try clear hb2); (try clear hk); (try clear hi)))
   go_ret
   exact ⟨m5_, m7_⟩
  ·rw [if_neg c10] at H
   have c10b0 : decide (t244 < 0) = false := decide_eq_false c10
   clear c10
   replace H := Option.bind_eq_some_iff.mp H
   obtain ⟨t245, A170, H⟩ := H
   replace H : ((laws_toRecState.f a1_0 a1_1 a1_2).bind fun bt248 => ((laws_toRecSay.f a2_0 a2_1).bind fun bt251 => ((spec_RecGo.f k t245 bt248.1 bt248.2.1 bt248.2.2 bt251.1 bt251.2).bind fun bt253 => ((laws_toRecPhaseS.f k l0).bind fun t258 => ((laws_toRecState.f a1_0 a1_1 a1_2).bind fun bt261 => ((laws_toRecSay.f a2_0 a2_1).bind fun bt264 => ((impl_RecGo.f k t258 bt261.1 bt261.2.1 bt261.2.2 bt264.1 bt264.2).bind fun bt266 => ((laws_eqRecState.f bt266.1 bt266.2.1 bt266.2.2.1 bt253.1 bt253.2.1 bt253.2.2.1).bind fun t271 => (if t271 = true then (laws_FnExactRecGo.j0 k l0 t258 (bt266.2.2.2 != bt253.2.2.2)) else (laws_FnExactRecGo.j0 k l0 t258 true)))))))))) = some r := H
   have A17 := Aside0.mk A170
   clear A170
   replace H := Option.bind_eq_some_iff.mp H
   obtain ⟨⟨t248, t249, t250⟩, A180, H⟩ := H
   replace H : ((laws_toRecSay.f a2_0 a2_1).bind fun bt251 => ((spec_RecGo.f k t245 t248 t249 t250 bt251.1 bt251.2).bind fun bt253 => ((laws_toRecPhaseS.f k l0).bind fun t258 => ((laws_toRecState.f a1_0 a1_1 a1_2).bind fun bt261 => ((laws_toRecSay.f a2_0 a2_1).bind fun bt264 => ((impl_RecGo.f k t258 bt261.1 bt261.2.1 bt261.2.2 bt264.1 bt264.2).bind fun bt266 => ((laws_eqRecState.f bt266.1 bt266.2.1 bt266.2.2.1 bt253.1 bt253.2.1 bt253.2.2.1).bind fun t271 => (if t271 = true then (laws_FnExactRecGo.j0 k l0 t258 (bt266.2.2.2 != bt253.2.2.2)) else (laws_FnExactRecGo.j0 k l0 t258 true))))))))) = some r := H
   have A18 := Aside0.mk A180
   clear A180
   replace H := Option.bind_eq_some_iff.mp H
   obtain ⟨⟨t251, t252⟩, A190, H⟩ := H
   replace H : ((spec_RecGo.f k t245 t248 t249 t250 t251 t252).bind fun bt253 => ((laws_toRecPhaseS.f k l0).bind fun t258 => ((laws_toRecState.f a1_0 a1_1 a1_2).bind fun bt261 => ((laws_toRecSay.f a2_0 a2_1).bind fun bt264 => ((impl_RecGo.f k t258 bt261.1 bt261.2.1 bt261.2.2 bt264.1 bt264.2).bind fun bt266 => ((laws_eqRecState.f bt266.1 bt266.2.1 bt266.2.2.1 bt253.1 bt253.2.1 bt253.2.2.1).bind fun t271 => (if t271 = true then (laws_FnExactRecGo.j0 k l0 t258 (bt266.2.2.2 != bt253.2.2.2)) else (laws_FnExactRecGo.j0 k l0 t258 true)))))))) = some r := H
   have A19 := Aside0.mk A190
   clear A190
   replace H := Option.bind_eq_some_iff.mp H
   obtain ⟨⟨t253, t254, t255, t256⟩, A200, H⟩ := H
   replace H : ((laws_toRecPhaseS.f k l0).bind fun t258 => ((laws_toRecState.f a1_0 a1_1 a1_2).bind fun bt261 => ((laws_toRecSay.f a2_0 a2_1).bind fun bt264 => ((impl_RecGo.f k t258 bt261.1 bt261.2.1 bt261.2.2 bt264.1 bt264.2).bind fun bt266 => ((laws_eqRecState.f bt266.1 bt266.2.1 bt266.2.2.1 t253 t254 t255).bind fun t271 => (if t271 = true then (laws_FnExactRecGo.j0 k l0 t258 (bt266.2.2.2 != t256)) else (laws_FnExactRecGo.j0 k l0 t258 true))))))) = some r := H
   have A20 := Aside0.mk A200
   clear A200
   replace H := Option.bind_eq_some_iff.mp H
   obtain ⟨t258, A210, H⟩ := H
   replace H : ((laws_toRecState.f a1_0 a1_1 a1_2).bind fun bt261 => ((laws_toRecSay.f a2_0 a2_1).bind fun bt264 => ((impl_RecGo.f k t258 bt261.1 bt261.2.1 bt261.2.2 bt264.1 bt264.2).bind fun bt266 => ((laws_eqRecState.f bt266.1 bt266.2.1 bt266.2.2.1 t253 t254 t255).bind fun t271 => (if t271 = true then (laws_FnExactRecGo.j0 k l0 t258 (bt266.2.2.2 != t256)) else (laws_FnExactRecGo.j0 k l0 t258 true)))))) = some r := H
   have A21 := Aside0.mk A210
   clear A210
   replace H := Option.bind_eq_some_iff.mp H
   obtain ⟨⟨t261, t262, t263⟩, A220, H⟩ := H
   replace H : ((laws_toRecSay.f a2_0 a2_1).bind fun bt264 => ((impl_RecGo.f k t258 t261 t262 t263 bt264.1 bt264.2).bind fun bt266 => ((laws_eqRecState.f bt266.1 bt266.2.1 bt266.2.2.1 t253 t254 t255).bind fun t271 => (if t271 = true then (laws_FnExactRecGo.j0 k l0 t258 (bt266.2.2.2 != t256)) else (laws_FnExactRecGo.j0 k l0 t258 true))))) = some r := H
   have A22 := Aside0.mk A220
   clear A220
   replace H := Option.bind_eq_some_iff.mp H
   obtain ⟨⟨t264, t265⟩, A230, H⟩ := H
   replace H : ((impl_RecGo.f k t258 t261 t262 t263 t264 t265).bind fun bt266 => ((laws_eqRecState.f bt266.1 bt266.2.1 bt266.2.2.1 t253 t254 t255).bind fun t271 => (if t271 = true then (laws_FnExactRecGo.j0 k l0 t258 (bt266.2.2.2 != t256)) else (laws_FnExactRecGo.j0 k l0 t258 true)))) = some r := H
   have A23 := Aside0.mk A230
   clear A230
   replace H := Option.bind_eq_some_iff.mp H
   obtain ⟨⟨t266, t267, t268, t269⟩, A240, H⟩ := H
   replace H : ((laws_eqRecState.f t266 t267 t268 t253 t254 t255).bind fun t271 => (if t271 = true then (laws_FnExactRecGo.j0 k l0 t258 (t269 != t256)) else (laws_FnExactRecGo.j0 k l0 t258 true))) = some r := H
   have A24 := Aside0.mk A240
   clear A240
   have HC25 := Aside0.mk H
   clear H
   go_enter Try.func3, Try.ntmps3
   try go_wp2_with (first | ((with_reducible refine gate_dst (N := 4) rfl ?_); refine box_event ?hg (N := 4) ?hd (cs := #[.string a1_0, .int .i64 a1_1, .int .i64 a1_2]) (t := 24) ?hr ?_; (case hd => rfl); (case hg => rfl); (case hr => first | (go_simp; done) | (go_simp; rfl)); intro gb241 hg w26 hbox hb; have n0_ := Aside0.mk (below_step m0_ hb); have n1_ := Aside0.mk (hbox); have n2_ := Aside0.mk ((by rw [hg]; exact (below_size m0_) : w.heap.size ≤ gb241)); have n3_ := Aside0.mk ((by rw [hg]; exact (below_size m0_) : w.heap.size ≤ gb241)); clear HB; have HB := n0_; have BK241 := n1_; have GW241 := n2_; have GE241 := n3_; clear n0_ n1_ n2_ n3_; clear hb hbox hg) | ((with_reducible refine gate_dst (N := 5) rfl ?_); refine box_event ?hg (N := 5) ?hd (cs := #[.int .i64 a2_0, .bool a2_1]) (t := 26) ?hr ?_; (case hd => rfl); (case hg => rfl); (case hr => first | (go_simp; done) | (go_simp; rfl)); intro gb242 hg w27 hbox hb; have n0_ := Aside0.mk (blk_below (g := gb241) (o := .cells #[.string a1_0, .int .i64 a1_1, .int .i64 a1_2] 24 (0, 0)) m2_ hb); have n1_ := Aside0.mk (below_step m33_ hb); have n2_ := Aside0.mk (hbox); have n3_ := Aside0.mk ((by rw [hg]; exact (below_size m33_) : w.heap.size ≤ gb242)); have n4_ := Aside0.mk ((by rw [hg]; exact (below_size m33_) : w.heap.size ≤ gb242)); have n5_ := Aside0.mk ((by rw [hg]; exact Nat.ne_of_lt (blk_lt (g := gb241) (o := .cells #[.string a1_0, .int .i64 a1_1, .int .i64 a1_2] 24 (0, 0)) m2_) : gb241 ≠ gb242)); have n6_ := Aside0.mk ((by rw [hg]; exact Nat.ne_of_gt (blk_lt (g := gb241) (o := .cells #[.string a1_0, .int .i64 a1_1, .int .i64 a1_2] 24 (0, 0)) m2_) : gb242 ≠ gb241)); clear BK241; clear HB; have BK241 := n0_; have HB := n1_; have BK242 := n2_; have GW242 := n3_; have GE242 := n4_; have NB241_242 := n5_; have NB242_241 := n6_; clear n0_ n1_ n2_ n3_ n4_ n5_ n6_; clear hb hbox hg) | ((with_reducible refine gate_callee (f := 7) rfl ?_); refine goesL_ (some 15) rfl rfl Try.func7 (by kernel_rfl) rfl #[.slice A0 l0.length c0, .int .i64 1048576] rfl m1_ ?_; (with_reducible refine (laws_szRecPhaseS.calls k _ _ l0 1048576 t243 _ ?side1 ?side2 A4.out).mono ?_); (case side1 => exact m9_); (case side2 => exact HC0.out); rintro e w28 ⟨rfl, hb⟩; refine ⟨_, rfl, ?_⟩; have n0_ := Aside0.mk (blk_below (g := gb241) (o := .cells #[.string a1_0, .int .i64 a1_1, .int .i64 a1_2] 24 (0, 0)) m2_ hb); have n1_ := Aside0.mk (blk_below (g := gb242) (o := .cells #[.int .i64 a2_0, .bool a2_1] 26 (0, 0)) m3_ hb); have n2_ := Aside0.mk (below_step m7_ hb); clear BK241; clear BK242; clear HB; have BK241 := n0_; have BK242 := n1_; have HB := n2_; clear n0_ n1_ n2_; (try clear hb); (try clear hb2); (try clear hk); (try clear hi); have hnb29 := NB241_242.out; have hnc29 := NB242_241.out; obtain ⟨hcz30_0, hcz30_1, hcz30_2⟩ := cz3_ BK241.out; obtain ⟨hfz30_0, hfz30_1, hfz30_2⟩ := fz3_ BK241.out) | ((with_reducible refine gate_callee (f := 8) rfl ?_); refine goesL_ (some 20) rfl rfl Try.func8 (by kernel_rfl) rfl #[.agg #[.string a1_0, .int .i64 a1_1, .int .i64 a1_2], .int .i64 t243] rfl m1_ ?_; (with_reducible refine (laws_szRecState.calls a1_0 a1_1 a1_2 t243 t244 _ A9.out).mono ?_); rintro e w31 ⟨rfl, hb⟩; refine ⟨_, rfl, ?_⟩; have n0_ := Aside0.mk (blk_below (g := gb241) (o := .cells #[.string a1_0, .int .i64 a1_1, .int .i64 a1_2] 24 (0, 0)) m2_ hb); have n1_ := Aside0.mk (blk_below (g := gb242) (o := .cells #[.int .i64 a2_0, .bool a2_1] 26 (0, 0)) m3_ hb); have n2_ := Aside0.mk (below_step m7_ hb); clear BK241; clear BK242; clear HB; have BK241 := n0_; have BK242 := n1_; have HB := n2_; clear n0_ n1_ n2_; (try clear hb); (try clear hb2); (try clear hk); (try clear hi)))
   have n0_ := Aside0.mk (blk_drew BK241.out)
   have n1_ := Aside0.mk (blk_drew BK242.out)
   have n2_ := Aside0.mk (below_drew1 HB.out)
   clear BK241
   clear BK242
   clear HB
   have BK241 := n0_
   have BK242 := n1_
   have HB := n2_
   clear n0_ n1_ n2_
   refine start_ (n := 13) (S := fun w' => w'.cell? ⟨gb241, 0, none⟩ = some (.string a1_0) ∧ w'.cell? ⟨gb241, 1, none⟩ = some (.int .i64 a1_1) ∧ w'.cell? ⟨gb241, 2, none⟩ = some (.int .i64 a1_2) ∧ w'.cell? ⟨gb242, 0, none⟩ = some (.int .i64 a2_0) ∧ w'.cell? ⟨gb242, 1, none⟩ = some (.bool a2_1)) (ds := []) (bm 13 0) (by kernel_rfl) rfl rfl ⟨(blk_cell BK241.out 0).trans rfl, (blk_cell BK241.out 1).trans rfl, (blk_cell BK241.out 2).trans rfl, (blk_cell BK242.out 0).trans rfl, (blk_cell BK242.out 1).trans rfl⟩ (fun hHeld => ?_); refine with_tabW laws_FnExactRecGo.tab8 laws_FnExactRecGo.bits8 (fun HT_ HW_ => ?_)
   generalize w31.drew = w32 at BK241 BK242 HB hHeld ⊢
   refine pure_ (i := 0) (N := some 24) (v := ?_) (a' := ?_) (bm 13 1) rfl rfl (any_of HT_.out (by kernel_rfl)) (fun _ _ _ h => h) (Or.inl ⟨(by rfl), ?_⟩) ?_ ?_; rotate_left; intro w'; go_simp; with_reducible rfl; rotate_left; simp only [Act.put, List.setIfInBounds_toArray, List.set_cons_zero, List.set_cons_succ, i64_w, i32_w]; rfl
   refine take_ (i := 2) (N := some 26) (v := ?_) (a' := ?_) (bm 13 5) rfl rfl (take_ofW HT_.out HW_.out (by kernel_rfl)) (fun _ _ _ h => h) (Or.inl ⟨(by rfl), ?_⟩) hHeld ?_ ?_; rotate_left; rintro w' ⟨s0, s1, s2, s3, s4⟩; go_simp; with_reducible rfl; rotate_left; simp only [Act.put, List.setIfInBounds_toArray, List.set_cons_zero, List.set_cons_succ, i64_w, i32_w]; rfl
   refine take_ (i := 4) (N := some 28) (v := ?_) (a' := ?_) (bm 13 21) rfl rfl (take_ofW HT_.out HW_.out (by kernel_rfl)) (fun _ _ _ h => h) (Or.inl ⟨(by rfl), ?_⟩) hHeld ?_ ?_; rotate_left; rintro w' ⟨s0, s1, s2, s3, s4⟩; go_simp; with_reducible rfl; rotate_left; simp only [Act.put, List.setIfInBounds_toArray, List.set_cons_zero, List.set_cons_succ, i64_w, i32_w]; rfl
   refine join_ (σ := Value × Nat) 2 (bm 13 2047) (fun s_ => [(25, s_.1), (27, .agg #[.string t248, .int .i64 t249, .int .i64 t250]), (29, .agg #[.int .i64 t251, .bool t252]), (30, .tuple #[.agg #[.string t253, .int .i64 t254, .int .i64 t255], .bool t256]), (8, .pointer (some ⟨s_.2, 0, none⟩)), (23, .tuple #[.agg #[.string t253, .int .i64 t254, .int .i64 t255], .bool t256]), (31, .agg #[.string t253, .int .i64 t254, .int .i64 t255]), (32, .bool t256)]) (fun s_ w' => (w'.cell? ⟨gb241, 0, none⟩ = some (.string a1_0) ∧ w'.cell? ⟨gb241, 1, none⟩ = some (.int .i64 a1_1) ∧ w'.cell? ⟨gb241, 2, none⟩ = some (.int .i64 a1_2) ∧ w'.cell? ⟨gb242, 0, none⟩ = some (.int .i64 a2_0) ∧ w'.cell? ⟨gb242, 1, none⟩ = some (.bool a2_1)) ∧ (Kd.R k44 44 w' w.heap.size (fun _ => True) s_.1 t245) ∧ (w'.heap[gb241]? = some (.cells #[.string a1_0, .int .i64 a1_1, .int .i64 a1_2] 24 (0, 0))) ∧ (w'.heap[gb242]? = some (.cells #[.int .i64 a2_0, .bool a2_1] 26 (0, 0))) ∧ (w'.heap[s_.2]? = some (.cells #[.string (⟨#[]⟩ : ByteArray), .int .i64 0, .int .i64 0] 29 (0, 0))) ∧ (w.heap.size ≤ s_.2) ∧ (w.heap.size ≤ s_.2) ∧ (gb241 ≠ s_.2) ∧ (s_.2 ≠ gb241) ∧ (gb242 ≠ s_.2) ∧ (s_.2 ≠ gb242) ∧ (Below w.heap.size w w')) ?_ ?_
   rotate_left
   ·intro hJ1_3_5_6_10
    refine join_ (σ := Value) 3 (bm 13 1023) (fun s_ => [(25, s_), (27, .agg #[.string t248, .int .i64 t249, .int .i64 t250]), (29, .agg #[.int .i64 t251, .bool t252]), (30, .tuple #[.agg #[.string t253, .int .i64 t254, .int .i64 t255], .bool t256]), (23, .tuple #[.agg #[.string t253, .int .i64 t254, .int .i64 t255], .bool t256]), (31, .agg #[.string t253, .int .i64 t254, .int .i64 t255]), (32, .bool t256)]) (fun s_ w' => (w'.cell? ⟨gb241, 0, none⟩ = some (.string a1_0) ∧ w'.cell? ⟨gb241, 1, none⟩ = some (.int .i64 a1_1) ∧ w'.cell? ⟨gb241, 2, none⟩ = some (.int .i64 a1_2) ∧ w'.cell? ⟨gb242, 0, none⟩ = some (.int .i64 a2_0) ∧ w'.cell? ⟨gb242, 1, none⟩ = some (.bool a2_1)) ∧ (Kd.R k44 44 w' w.heap.size (fun _ => True) s_ t245) ∧ (w'.heap[gb241]? = some (.cells #[.string a1_0, .int .i64 a1_1, .int .i64 a1_2] 24 (0, 0))) ∧ (w'.heap[gb242]? = some (.cells #[.int .i64 a2_0, .bool a2_1] 26 (0, 0))) ∧ (Below w.heap.size w w')) ?_ ?_
    rotate_left
    ·intro hJ1_3_5_6
     refine join_ (σ := Value × Nat) 6 (bm 13 1087) (fun s_ => [(25, s_.1), (27, .agg #[.string t248, .int .i64 t249, .int .i64 t250]), (29, .agg #[.int .i64 t251, .bool t252]), (8, .pointer (some ⟨s_.2, 0, none⟩))]) (fun s_ w' => (w'.cell? ⟨gb241, 0, none⟩ = some (.string a1_0) ∧ w'.cell? ⟨gb241, 1, none⟩ = some (.int .i64 a1_1) ∧ w'.cell? ⟨gb241, 2, none⟩ = some (.int .i64 a1_2) ∧ w'.cell? ⟨gb242, 0, none⟩ = some (.int .i64 a2_0) ∧ w'.cell? ⟨gb242, 1, none⟩ = some (.bool a2_1)) ∧ (Kd.R k44 44 w' w.heap.size (fun _ => True) s_.1 t245) ∧ (w'.heap[gb241]? = some (.cells #[.string a1_0, .int .i64 a1_1, .int .i64 a1_2] 24 (0, 0))) ∧ (w'.heap[gb242]? = some (.cells #[.int .i64 a2_0, .bool a2_1] 26 (0, 0))) ∧ (w'.heap[s_.2]? = some (.cells #[.string (⟨#[]⟩ : ByteArray), .int .i64 0, .int .i64 0] 29 (0, 0))) ∧ (w.heap.size ≤ s_.2) ∧ (w.heap.size ≤ s_.2) ∧ (gb241 ≠ s_.2) ∧ (s_.2 ≠ gb241) ∧ (gb242 ≠ s_.2) ∧ (s_.2 ≠ gb242) ∧ (Below w.heap.size w w')) ?_ ?_
     rotate_left
     ·intro hJ1_3_5_10
      refine join_ (σ := Value) 7 (bm 13 63) (fun s_ => [(25, s_), (27, .agg #[.string t248, .int .i64 t249, .int .i64 t250]), (29, .agg #[.int .i64 t251, .bool t252])]) (fun s_ w' => (w'.cell? ⟨gb241, 0, none⟩ = some (.string a1_0) ∧ w'.cell? ⟨gb241, 1, none⟩ = some (.int .i64 a1_1) ∧ w'.cell? ⟨gb241, 2, none⟩ = some (.int .i64 a1_2) ∧ w'.cell? ⟨gb242, 0, none⟩ = some (.int .i64 a2_0) ∧ w'.cell? ⟨gb242, 1, none⟩ = some (.bool a2_1)) ∧ (Kd.R k44 44 w' w.heap.size (fun _ => True) s_ t245) ∧ (w'.heap[gb241]? = some (.cells #[.string a1_0, .int .i64 a1_1, .int .i64 a1_2] 24 (0, 0))) ∧ (w'.heap[gb242]? = some (.cells #[.int .i64 a2_0, .bool a2_1] 26 (0, 0))) ∧ (Below w.heap.size w w')) ?_ ?_
      rotate_left
      ·intro hJ1_3_5
       refine join_ (σ := Value × Nat) 7 (bm 13 1055) (fun s_ => [(25, s_.1), (27, .agg #[.string t248, .int .i64 t249, .int .i64 t250]), (8, .pointer (some ⟨s_.2, 0, none⟩))]) (fun s_ w' => (w'.cell? ⟨gb241, 0, none⟩ = some (.string a1_0) ∧ w'.cell? ⟨gb241, 1, none⟩ = some (.int .i64 a1_1) ∧ w'.cell? ⟨gb241, 2, none⟩ = some (.int .i64 a1_2) ∧ w'.cell? ⟨gb242, 0, none⟩ = some (.int .i64 a2_0) ∧ w'.cell? ⟨gb242, 1, none⟩ = some (.bool a2_1)) ∧ (Kd.R k44 44 w' w.heap.size (fun _ => True) s_.1 t245) ∧ (w'.heap[gb241]? = some (.cells #[.string a1_0, .int .i64 a1_1, .int .i64 a1_2] 24 (0, 0))) ∧ (w'.heap[gb242]? = some (.cells #[.int .i64 a2_0, .bool a2_1] 26 (0, 0))) ∧ (w'.heap[s_.2]? = some (.cells #[.string (⟨#[]⟩ : ByteArray), .int .i64 0, .int .i64 0] 29 (0, 0))) ∧ (w.heap.size ≤ s_.2) ∧ (w.heap.size ≤ s_.2) ∧ (gb241 ≠ s_.2) ∧ (s_.2 ≠ gb241) ∧ (gb242 ≠ s_.2) ∧ (s_.2 ≠ gb242) ∧ (Below w.heap.size w w')) ?_ ?_
       rotate_left
       ·intro hJ1_3_10
        refine join_ (σ := Value) 8 (bm 13 31) (fun s_ => [(25, s_), (27, .agg #[.string t248, .int .i64 t249, .int .i64 t250])]) (fun s_ w' => (w'.cell? ⟨gb241, 0, none⟩ = some (.string a1_0) ∧ w'.cell? ⟨gb241, 1, none⟩ = some (.int .i64 a1_1) ∧ w'.cell? ⟨gb241, 2, none⟩ = some (.int .i64 a1_2) ∧ w'.cell? ⟨gb242, 0, none⟩ = some (.int .i64 a2_0) ∧ w'.cell? ⟨gb242, 1, none⟩ = some (.bool a2_1)) ∧ (Kd.R k44 44 w' w.heap.size (fun _ => True) s_ t245) ∧ (w'.heap[gb241]? = some (.cells #[.string a1_0, .int .i64 a1_1, .int .i64 a1_2] 24 (0, 0))) ∧ (w'.heap[gb242]? = some (.cells #[.int .i64 a2_0, .bool a2_1] 26 (0, 0))) ∧ (Below w.heap.size w w')) ?_ ?_
        rotate_left
        ·intro hJ1_3
         refine join_ (σ := Value × Nat) 8 (bm 13 1047) (fun s_ => [(25, s_.1), (8, .pointer (some ⟨s_.2, 0, none⟩))]) (fun s_ w' => (w'.cell? ⟨gb241, 0, none⟩ = some (.string a1_0) ∧ w'.cell? ⟨gb241, 1, none⟩ = some (.int .i64 a1_1) ∧ w'.cell? ⟨gb241, 2, none⟩ = some (.int .i64 a1_2) ∧ w'.cell? ⟨gb242, 0, none⟩ = some (.int .i64 a2_0) ∧ w'.cell? ⟨gb242, 1, none⟩ = some (.bool a2_1)) ∧ (Kd.R k44 44 w' w.heap.size (fun _ => True) s_.1 t245) ∧ (w'.heap[gb241]? = some (.cells #[.string a1_0, .int .i64 a1_1, .int .i64 a1_2] 24 (0, 0))) ∧ (w'.heap[gb242]? = some (.cells #[.int .i64 a2_0, .bool a2_1] 26 (0, 0))) ∧ (w'.heap[s_.2]? = some (.cells #[.string (⟨#[]⟩ : ByteArray), .int .i64 0, .int .i64 0] 29 (0, 0))) ∧ (w.heap.size ≤ s_.2) ∧ (w.heap.size ≤ s_.2) ∧ (gb241 ≠ s_.2) ∧ (s_.2 ≠ gb241) ∧ (gb242 ≠ s_.2) ∧ (s_.2 ≠ gb242) ∧ (Below w.heap.size w w')) ?_ ?_
         rotate_left
         ·intro hJ1_10
          refine join_ (σ := Value) 9 (bm 13 23) (fun s_ => [(25, s_)]) (fun s_ w' => (w'.cell? ⟨gb241, 0, none⟩ = some (.string a1_0) ∧ w'.cell? ⟨gb241, 1, none⟩ = some (.int .i64 a1_1) ∧ w'.cell? ⟨gb241, 2, none⟩ = some (.int .i64 a1_2) ∧ w'.cell? ⟨gb242, 0, none⟩ = some (.int .i64 a2_0) ∧ w'.cell? ⟨gb242, 1, none⟩ = some (.bool a2_1)) ∧ (Kd.R k44 44 w' w.heap.size (fun _ => True) s_ t245) ∧ (w'.heap[gb241]? = some (.cells #[.string a1_0, .int .i64 a1_1, .int .i64 a1_2] 24 (0, 0))) ∧ (w'.heap[gb242]? = some (.cells #[.int .i64 a2_0, .bool a2_1] 26 (0, 0))) ∧ (Below w.heap.size w w')) ?_ ?_
          rotate_left
          ·intro hJ1
           refine join_ (σ := Nat) 9 (bm 13 1045) (fun s_ => [(8, .pointer (some ⟨s_, 0, none⟩))]) (fun s_ w' => (w'.cell? ⟨gb241, 0, none⟩ = some (.string a1_0) ∧ w'.cell? ⟨gb241, 1, none⟩ = some (.int .i64 a1_1) ∧ w'.cell? ⟨gb241, 2, none⟩ = some (.int .i64 a1_2) ∧ w'.cell? ⟨gb242, 0, none⟩ = some (.int .i64 a2_0) ∧ w'.cell? ⟨gb242, 1, none⟩ = some (.bool a2_1)) ∧ (w'.heap[gb241]? = some (.cells #[.string a1_0, .int .i64 a1_1, .int .i64 a1_2] 24 (0, 0))) ∧ (w'.heap[gb242]? = some (.cells #[.int .i64 a2_0, .bool a2_1] 26 (0, 0))) ∧ (w'.heap[s_]? = some (.cells #[.string (⟨#[]⟩ : ByteArray), .int .i64 0, .int .i64 0] 29 (0, 0))) ∧ (w.heap.size ≤ s_) ∧ (w.heap.size ≤ s_) ∧ (gb241 ≠ s_) ∧ (s_ ≠ gb241) ∧ (gb242 ≠ s_) ∧ (s_ ≠ gb242) ∧ (Below w.heap.size w w')) ?_ ?_
           rotate_left
           ·intro hJ10
            refine two_ (i := 1) (j := 10) (Ni := some 25) (Nj := some 8) (bm 13 23) (bm 13 1045) rfl rfl rfl rfl (two_of HT_.out (by kernel_rfl)) (by decide) (by decide) (fun K hK => ?_) (fun K hK => ?_)
            ·skip
             refine goes_ Try.func10 (by kernel_rfl) rfl #[.slice A0 l0.length c0] (by rfl) rfl rfl m1_ ?_
             with_reducible refine (laws_toRecPhaseS.calls k _ _ l0 t245 _ ?side1 ?side2 A17.out).mono ?_
             (case side1 => exact m9_)
             (case side2 => exact HC0.out)
             rintro e w33 ⟨v246, rfl, ho0, hb⟩
             refine ⟨_, rfl, ?_⟩
             have n0_ := Aside0.mk (Kd.R_lower ho0 (below_size m7_))
             have n1_ := Aside0.mk (blk_below (g := gb241) (o := .cells #[.string a1_0, .int .i64 a1_1, .int .i64 a1_2] 24 (0, 0)) m2_ hb)
             have n2_ := Aside0.mk (blk_below (g := gb242) (o := .cells #[.int .i64 a2_0, .bool a2_1] 26 (0, 0)) m3_ hb)
             have n3_ := Aside0.mk (below_step m7_ hb)
             clear BK241
             clear BK242
             clear HB
             have HO247 := n0_
             have BK241 := n1_
             have BK242 := n2_
             have HB := n3_
             clear n0_ n1_ n2_ n3_
             (try clear hb)
             (try clear hb2)
             (try clear hk)
             (try clear hi)
             (try clear ho0)
             refine hK.out _ _ ⟨(blk_cell BK241.out 0).trans rfl, (blk_cell BK241.out 1).trans rfl, (blk_cell BK241.out 2).trans rfl, (blk_cell BK242.out 0).trans rfl, (blk_cell BK242.out 1).trans rfl⟩ (fun hHeld => ?_)
             clear hK K
             refine no_ ?_
             exact norm_ m19_ (hJ1 (v246) _ ⟨hHeld, m13_, m2_, m3_, m7_⟩)
            ·skip
             refine box_step ?hg (N := 8) ?hd (cs := #[.string (⟨#[]⟩ : ByteArray), .int .i64 0, .int .i64 0]) (t := 29) ?hr ?_; (case hd => rfl); (case hg => rfl); (case hr => first | (go_simp; done) | (go_simp; rfl))
             intro gb257 hg w33 hbox hb
             have n0_ := Aside0.mk (blk_below (g := gb241) (o := .cells #[.string a1_0, .int .i64 a1_1, .int .i64 a1_2] 24 (0, 0)) m2_ hb)
             have n1_ := Aside0.mk (blk_below (g := gb242) (o := .cells #[.int .i64 a2_0, .bool a2_1] 26 (0, 0)) m3_ hb)
             have n2_ := Aside0.mk (below_step m7_ hb)
             have n3_ := Aside0.mk (hbox)
             have n4_ := Aside0.mk ((by rw [hg]; exact (below_size m7_) : w.heap.size ≤ gb257))
             have n5_ := Aside0.mk ((by rw [hg]; exact (below_size m7_) : w.heap.size ≤ gb257))
             have n6_ := Aside0.mk ((by rw [hg]; exact Nat.ne_of_lt (blk_lt (g := gb241) (o := .cells #[.string a1_0, .int .i64 a1_1, .int .i64 a1_2] 24 (0, 0)) m2_) : gb241 ≠ gb257))
             have n7_ := Aside0.mk ((by rw [hg]; exact Nat.ne_of_gt (blk_lt (g := gb241) (o := .cells #[.string a1_0, .int .i64 a1_1, .int .i64 a1_2] 24 (0, 0)) m2_) : gb257 ≠ gb241))
             have n8_ := Aside0.mk ((by rw [hg]; exact Nat.ne_of_lt (blk_lt (g := gb242) (o := .cells #[.int .i64 a2_0, .bool a2_1] 26 (0, 0)) m3_) : gb242 ≠ gb257))
             have n9_ := Aside0.mk ((by rw [hg]; exact Nat.ne_of_gt (blk_lt (g := gb242) (o := .cells #[.int .i64 a2_0, .bool a2_1] 26 (0, 0)) m3_) : gb257 ≠ gb242))
             clear BK241
             clear BK242
             clear HB
             have BK241 := n0_
             have BK242 := n1_
             have HB := n2_
             have BK257 := n3_
             have GW257 := n4_
             have GE257 := n5_
             have NB241_257 := n6_
             have NB257_241 := n7_
             have NB242_257 := n8_
             have NB257_242 := n9_
             clear n0_ n1_ n2_ n3_ n4_ n5_ n6_ n7_ n8_ n9_
             clear hb hbox hg
             refine hK.out _ _ ⟨(blk_cell BK241.out 0).trans rfl, (blk_cell BK241.out 1).trans rfl, (blk_cell BK241.out 2).trans rfl, (blk_cell BK242.out 0).trans rfl, (blk_cell BK242.out 1).trans rfl⟩ (fun hHeld => ?_)
             clear hK K
             refine no_ ?_
             exact norm_ m19_ (hJ10 (gb257) _ ⟨hHeld, m2_, m3_, m10_, GW257.out, GE257.out, NB241_257.out, NB257_241.out, NB242_257.out, NB257_242.out, m4_⟩)
           ·skip
            rintro gb257 w34 ⟨hS_, h0_, h1_, h2_, h3_, h4_, h5_, h6_, h7_, h8_, h9_⟩
            have n0_ : Aside0 (w34.heap[gb241]? = some (.cells #[.string a1_0, .int .i64 a1_1, .int .i64 a1_2] 24 (0, 0))) := ⟨h0_⟩
            have n1_ : Aside0 (w34.heap[gb242]? = some (.cells #[.int .i64 a2_0, .bool a2_1] 26 (0, 0))) := ⟨h1_⟩
            have n2_ : Aside0 (w34.heap[gb257]? = some (.cells #[.string (⟨#[]⟩ : ByteArray), .int .i64 0, .int .i64 0] 29 (0, 0))) := ⟨h2_⟩
            have n3_ : Aside0 (w.heap.size ≤ gb257) := ⟨h3_⟩
            have n4_ : Aside0 (w.heap.size ≤ gb257) := ⟨h4_⟩
            have n5_ : Aside0 (gb241 ≠ gb257) := ⟨h5_⟩
            have n6_ : Aside0 (gb257 ≠ gb241) := ⟨h6_⟩
            have n7_ : Aside0 (gb242 ≠ gb257) := ⟨h7_⟩
            have n8_ : Aside0 (gb257 ≠ gb242) := ⟨h8_⟩
            have n9_ : Aside0 (Below w.heap.size w w34) := ⟨h9_⟩
            clear BK241
            clear BK242
            clear HB
            clear h0_ h1_ h2_ h3_ h4_ h5_ h6_ h7_ h8_ h9_
            have BK241 := n0_
            have BK242 := n1_
            have BK257 := n2_
            have GW257 := n3_
            have GE257 := n4_
            have NB241_257 := n5_
            have NB257_241 := n6_
            have NB242_257 := n7_
            have NB257_242 := n8_
            have HB := n9_
            clear n0_ n1_ n2_ n3_ n4_ n5_ n6_ n7_ n8_ n9_
            have hHeld : w34.cell? ⟨gb241, 0, none⟩ = some (.string a1_0) ∧ w34.cell? ⟨gb241, 1, none⟩ = some (.int .i64 a1_1) ∧ w34.cell? ⟨gb241, 2, none⟩ = some (.int .i64 a1_2) ∧ w34.cell? ⟨gb242, 0, none⟩ = some (.int .i64 a2_0) ∧ w34.cell? ⟨gb242, 1, none⟩ = some (.bool a2_1) := hS_
            refine norm_ (a' := ?_) ?_ ?_
            rotate_left
            ·simp only [putAll, Act.put, List.setIfInBounds_toArray, List.set_cons_zero, List.set_cons_succ]
             rfl
            refine one_ (i := 1) (N := some 25) (bm 13 1047) rfl rfl (one_of HT_.out (by kernel_rfl)) (by decide) (fun K hK => ?_)
            refine goes_ Try.func10 (by kernel_rfl) rfl #[.slice A0 l0.length c0] (by rfl) rfl rfl m1_ ?_
            with_reducible refine (laws_toRecPhaseS.calls k _ _ l0 t245 _ ?side1 ?side2 A17.out).mono ?_
            (case side1 => exact m9_)
            (case side2 => exact HC0.out)
            rintro e w35 ⟨v246, rfl, ho0, hb⟩
            refine ⟨_, rfl, ?_⟩
            have n0_ := Aside0.mk (Kd.R_lower ho0 (below_size m4_))
            have n1_ := Aside0.mk (blk_below (g := gb241) (o := .cells #[.string a1_0, .int .i64 a1_1, .int .i64 a1_2] 24 (0, 0)) m2_ hb)
            have n2_ := Aside0.mk (blk_below (g := gb242) (o := .cells #[.int .i64 a2_0, .bool a2_1] 26 (0, 0)) m3_ hb)
            have n3_ := Aside0.mk (blk_below (g := gb257) (o := .cells #[.string (⟨#[]⟩ : ByteArray), .int .i64 0, .int .i64 0] 29 (0, 0)) m10_ hb)
            have n4_ := Aside0.mk (below_step m4_ hb)
            clear BK241
            clear BK242
            clear BK257
            clear HB
            have HO247 := n0_
            have BK241 := n1_
            have BK242 := n2_
            have BK257 := n3_
            have HB := n4_
            clear n0_ n1_ n2_ n3_ n4_
            (try clear hb)
            (try clear hb2)
            (try clear hk)
            (try clear hi)
            (try clear ho0)
            refine hK.out _ _ ⟨(blk_cell BK241.out 0).trans rfl, (blk_cell BK241.out 1).trans rfl, (blk_cell BK241.out 2).trans rfl, (blk_cell BK242.out 0).trans rfl, (blk_cell BK242.out 1).trans rfl⟩ (fun hHeld => ?_)
            clear hK K
            refine no_ ?_
            exact norm_ m19_ (hJ1_10 (v246, gb257) _ ⟨hHeld, m13_, m2_, m3_, m10_, GW257.out, GE257.out, NB241_257.out, NB257_241.out, NB242_257.out, NB257_242.out, m4_⟩)
          ·skip
           rintro v246 w34 ⟨hS_, h0_, h1_, h2_, h3_⟩
           have n0_ : Aside0 (Kd.R k44 44 w34 w.heap.size (fun _ => True) v246 t245) := ⟨h0_⟩
           have n1_ : Aside0 (w34.heap[gb241]? = some (.cells #[.string a1_0, .int .i64 a1_1, .int .i64 a1_2] 24 (0, 0))) := ⟨h1_⟩
           have n2_ : Aside0 (w34.heap[gb242]? = some (.cells #[.int .i64 a2_0, .bool a2_1] 26 (0, 0))) := ⟨h2_⟩
           have n3_ : Aside0 (Below w.heap.size w w34) := ⟨h3_⟩
           clear BK241
           clear BK242
           clear HB
           clear h0_ h1_ h2_ h3_
           have HO247 := n0_
           have BK241 := n1_
           have BK242 := n2_
           have HB := n3_
           clear n0_ n1_ n2_ n3_
           have hHeld : w34.cell? ⟨gb241, 0, none⟩ = some (.string a1_0) ∧ w34.cell? ⟨gb241, 1, none⟩ = some (.int .i64 a1_1) ∧ w34.cell? ⟨gb241, 2, none⟩ = some (.int .i64 a1_2) ∧ w34.cell? ⟨gb242, 0, none⟩ = some (.int .i64 a2_0) ∧ w34.cell? ⟨gb242, 1, none⟩ = some (.bool a2_1) := hS_
           refine norm_ (a' := ?_) ?_ ?_
           rotate_left
           ·simp only [putAll, Act.put, List.setIfInBounds_toArray, List.set_cons_zero, List.set_cons_succ]
            rfl
           refine two_ (i := 3) (j := 10) (Ni := some 27) (Nj := some 8) (bm 13 31) (bm 13 1047) rfl rfl rfl rfl (two_of HT_.out (by kernel_rfl)) (by decide) (by decide) (fun K hK => ?_) (fun K hK => ?_)
           ·skip
            refine goes_ Try.func11 (by kernel_rfl) rfl #[.agg #[.string a1_0, .int .i64 a1_1, .int .i64 a1_2]] (by rfl) rfl rfl m1_ ?_
            with_reducible refine (laws_toRecState.calls a1_0 a1_1 a1_2 t248 t249 t250 _ A18.out).mono ?_
            rintro e w35 ⟨rfl, hb⟩
            refine ⟨_, rfl, ?_⟩
            have n0_ := Aside0.mk (Kd.R_below m13_ hb)
            have n1_ := Aside0.mk (blk_below (g := gb241) (o := .cells #[.string a1_0, .int .i64 a1_1, .int .i64 a1_2] 24 (0, 0)) m2_ hb)
            have n2_ := Aside0.mk (blk_below (g := gb242) (o := .cells #[.int .i64 a2_0, .bool a2_1] 26 (0, 0)) m3_ hb)
            have n3_ := Aside0.mk (below_step m7_ hb)
            clear HO247
            clear BK241
            clear BK242
            clear HB
            have HO247 := n0_
            have BK241 := n1_
            have BK242 := n2_
            have HB := n3_
            clear n0_ n1_ n2_ n3_
            (try clear hb)
            (try clear hb2)
            (try clear hk)
            (try clear hi)
            refine hK.out _ _ ⟨(blk_cell BK241.out 0).trans rfl, (blk_cell BK241.out 1).trans rfl, (blk_cell BK241.out 2).trans rfl, (blk_cell BK242.out 0).trans rfl, (blk_cell BK242.out 1).trans rfl⟩ (fun hHeld => ?_)
            clear hK K
            refine no_ ?_
            exact norm_ m19_ (hJ1_3 (v246) _ ⟨hHeld, m13_, m2_, m3_, m7_⟩)
           ·skip
            refine box_step ?hg (N := 8) ?hd (cs := #[.string (⟨#[]⟩ : ByteArray), .int .i64 0, .int .i64 0]) (t := 29) ?hr ?_; (case hd => rfl); (case hg => rfl); (case hr => first | (go_simp; done) | (go_simp; rfl))
            intro gb257 hg w35 hbox hb
            have n0_ := Aside0.mk (Kd.R_below m13_ hb)
            have n1_ := Aside0.mk (blk_below (g := gb241) (o := .cells #[.string a1_0, .int .i64 a1_1, .int .i64 a1_2] 24 (0, 0)) m2_ hb)
            have n2_ := Aside0.mk (blk_below (g := gb242) (o := .cells #[.int .i64 a2_0, .bool a2_1] 26 (0, 0)) m3_ hb)
            have n3_ := Aside0.mk (below_step m7_ hb)
            have n4_ := Aside0.mk (hbox)
            have n5_ := Aside0.mk ((by rw [hg]; exact (below_size m7_) : w.heap.size ≤ gb257))
            have n6_ := Aside0.mk ((by rw [hg]; exact (below_size m7_) : w.heap.size ≤ gb257))
            have n7_ := Aside0.mk ((by rw [hg]; exact Nat.ne_of_lt (blk_lt (g := gb241) (o := .cells #[.string a1_0, .int .i64 a1_1, .int .i64 a1_2] 24 (0, 0)) m2_) : gb241 ≠ gb257))
            have n8_ := Aside0.mk ((by rw [hg]; exact Nat.ne_of_gt (blk_lt (g := gb241) (o := .cells #[.string a1_0, .int .i64 a1_1, .int .i64 a1_2] 24 (0, 0)) m2_) : gb257 ≠ gb241))
            have n9_ := Aside0.mk ((by rw [hg]; exact Nat.ne_of_lt (blk_lt (g := gb242) (o := .cells #[.int .i64 a2_0, .bool a2_1] 26 (0, 0)) m3_) : gb242 ≠ gb257))
            have n10_ := Aside0.mk ((by rw [hg]; exact Nat.ne_of_gt (blk_lt (g := gb242) (o := .cells #[.int .i64 a2_0, .bool a2_1] 26 (0, 0)) m3_) : gb257 ≠ gb242))
            clear HO247
            clear BK241
            clear BK242
            clear HB
            have HO247 := n0_
            have BK241 := n1_
            have BK242 := n2_
            have HB := n3_
            have BK257 := n4_
            have GW257 := n5_
            have GE257 := n6_
            have NB241_257 := n7_
            have NB257_241 := n8_
            have NB242_257 := n9_
            have NB257_242 := n10_
            clear n0_ n1_ n2_ n3_ n4_ n5_ n6_ n7_ n8_ n9_ n10_
            clear hb hbox hg
            refine hK.out _ _ ⟨(blk_cell BK241.out 0).trans rfl, (blk_cell BK241.out 1).trans rfl, (blk_cell BK241.out 2).trans rfl, (blk_cell BK242.out 0).trans rfl, (blk_cell BK242.out 1).trans rfl⟩ (fun hHeld => ?_)
            clear hK K
            refine no_ ?_
            exact norm_ m19_ (hJ1_10 (v246, gb257) _ ⟨hHeld, m13_, m2_, m3_, m10_, GW257.out, GE257.out, NB241_257.out, NB257_241.out, NB242_257.out, NB257_242.out, m4_⟩)
         ·skip
          rintro ⟨v246, gb257⟩ w35 ⟨hS_, h0_, h1_, h2_, h3_, h4_, h5_, h6_, h7_, h8_, h9_, h10_⟩
          have n0_ : Aside0 (Kd.R k44 44 w35 w.heap.size (fun _ => True) v246 t245) := ⟨h0_⟩
          have n1_ : Aside0 (w35.heap[gb241]? = some (.cells #[.string a1_0, .int .i64 a1_1, .int .i64 a1_2] 24 (0, 0))) := ⟨h1_⟩
          have n2_ : Aside0 (w35.heap[gb242]? = some (.cells #[.int .i64 a2_0, .bool a2_1] 26 (0, 0))) := ⟨h2_⟩
          have n3_ : Aside0 (w35.heap[gb257]? = some (.cells #[.string (⟨#[]⟩ : ByteArray), .int .i64 0, .int .i64 0] 29 (0, 0))) := ⟨h3_⟩
          have n4_ : Aside0 (w.heap.size ≤ gb257) := ⟨h4_⟩
          have n5_ : Aside0 (w.heap.size ≤ gb257) := ⟨h5_⟩
          have n6_ : Aside0 (gb241 ≠ gb257) := ⟨h6_⟩
          have n7_ : Aside0 (gb257 ≠ gb241) := ⟨h7_⟩
          have n8_ : Aside0 (gb242 ≠ gb257) := ⟨h8_⟩
          have n9_ : Aside0 (gb257 ≠ gb242) := ⟨h9_⟩
          have n10_ : Aside0 (Below w.heap.size w w35) := ⟨h10_⟩
          clear BK241
          clear BK242
          clear HB
          clear h0_ h1_ h2_ h3_ h4_ h5_ h6_ h7_ h8_ h9_ h10_
          have HO247 := n0_
          have BK241 := n1_
          have BK242 := n2_
          have BK257 := n3_
          have GW257 := n4_
          have GE257 := n5_
          have NB241_257 := n6_
          have NB257_241 := n7_
          have NB242_257 := n8_
          have NB257_242 := n9_
          have HB := n10_
          clear n0_ n1_ n2_ n3_ n4_ n5_ n6_ n7_ n8_ n9_ n10_
          have hHeld : w35.cell? ⟨gb241, 0, none⟩ = some (.string a1_0) ∧ w35.cell? ⟨gb241, 1, none⟩ = some (.int .i64 a1_1) ∧ w35.cell? ⟨gb241, 2, none⟩ = some (.int .i64 a1_2) ∧ w35.cell? ⟨gb242, 0, none⟩ = some (.int .i64 a2_0) ∧ w35.cell? ⟨gb242, 1, none⟩ = some (.bool a2_1) := hS_
          refine norm_ (a' := ?_) ?_ ?_
          rotate_left
          ·simp only [putAll, Act.put, List.setIfInBounds_toArray, List.set_cons_zero, List.set_cons_succ]
           rfl
          refine one_ (i := 3) (N := some 27) (bm 13 1055) rfl rfl (one_of HT_.out (by kernel_rfl)) (by decide) (fun K hK => ?_)
          refine goes_ Try.func11 (by kernel_rfl) rfl #[.agg #[.string a1_0, .int .i64 a1_1, .int .i64 a1_2]] (by rfl) rfl rfl m1_ ?_
          with_reducible refine (laws_toRecState.calls a1_0 a1_1 a1_2 t248 t249 t250 _ A18.out).mono ?_
          rintro e w36 ⟨rfl, hb⟩
          refine ⟨_, rfl, ?_⟩
          have n0_ := Aside0.mk (Kd.R_below m13_ hb)
          have n1_ := Aside0.mk (blk_below (g := gb241) (o := .cells #[.string a1_0, .int .i64 a1_1, .int .i64 a1_2] 24 (0, 0)) m2_ hb)
          have n2_ := Aside0.mk (blk_below (g := gb242) (o := .cells #[.int .i64 a2_0, .bool a2_1] 26 (0, 0)) m3_ hb)
          have n3_ := Aside0.mk (blk_below (g := gb257) (o := .cells #[.string (⟨#[]⟩ : ByteArray), .int .i64 0, .int .i64 0] 29 (0, 0)) m10_ hb)
          have n4_ := Aside0.mk (below_step m4_ hb)
          clear HO247
          clear BK241
          clear BK242
          clear BK257
          clear HB
          have HO247 := n0_
          have BK241 := n1_
          have BK242 := n2_
          have BK257 := n3_
          have HB := n4_
          clear n0_ n1_ n2_ n3_ n4_
          (try clear hb)
          (try clear hb2)
          (try clear hk)
          (try clear hi)
          refine hK.out _ _ ⟨(blk_cell BK241.out 0).trans rfl, (blk_cell BK241.out 1).trans rfl, (blk_cell BK241.out 2).trans rfl, (blk_cell BK242.out 0).trans rfl, (blk_cell BK242.out 1).trans rfl⟩ (fun hHeld => ?_)
          clear hK K
          refine no_ ?_
          exact norm_ m19_ (hJ1_3_10 (v246, gb257) _ ⟨hHeld, m13_, m2_, m3_, m10_, GW257.out, GE257.out, NB241_257.out, NB257_241.out, NB242_257.out, NB257_242.out, m4_⟩)
        ·skip
         rintro v246 w35 ⟨hS_, h0_, h1_, h2_, h3_⟩
         have n0_ : Aside0 (Kd.R k44 44 w35 w.heap.size (fun _ => True) v246 t245) := ⟨h0_⟩
         have n1_ : Aside0 (w35.heap[gb241]? = some (.cells #[.string a1_0, .int .i64 a1_1, .int .i64 a1_2] 24 (0, 0))) := ⟨h1_⟩
         have n2_ : Aside0 (w35.heap[gb242]? = some (.cells #[.int .i64 a2_0, .bool a2_1] 26 (0, 0))) := ⟨h2_⟩
         have n3_ : Aside0 (Below w.heap.size w w35) := ⟨h3_⟩
         clear BK241
         clear BK242
         clear HB
         clear h0_ h1_ h2_ h3_
         have HO247 := n0_
         have BK241 := n1_
         have BK242 := n2_
         have HB := n3_
         clear n0_ n1_ n2_ n3_
         have hHeld : w35.cell? ⟨gb241, 0, none⟩ = some (.string a1_0) ∧ w35.cell? ⟨gb241, 1, none⟩ = some (.int .i64 a1_1) ∧ w35.cell? ⟨gb241, 2, none⟩ = some (.int .i64 a1_2) ∧ w35.cell? ⟨gb242, 0, none⟩ = some (.int .i64 a2_0) ∧ w35.cell? ⟨gb242, 1, none⟩ = some (.bool a2_1) := hS_
         refine norm_ (a' := ?_) ?_ ?_
         rotate_left
         ·simp only [putAll, Act.put, List.setIfInBounds_toArray, List.set_cons_zero, List.set_cons_succ]
          rfl
         refine two_ (i := 5) (j := 10) (Ni := some 29) (Nj := some 8) (bm 13 63) (bm 13 1055) rfl rfl rfl rfl (two_of HT_.out (by kernel_rfl)) (by decide) (by decide) (fun K hK => ?_) (fun K hK => ?_)
         ·skip
          refine goes_ Try.func12 (by kernel_rfl) rfl #[.agg #[.int .i64 a2_0, .bool a2_1]] (by rfl) rfl rfl m1_ ?_
          with_reducible refine (laws_toRecSay.calls a2_0 a2_1 t251 t252 _ A19.out).mono ?_
          rintro e w36 ⟨rfl, hb⟩
          refine ⟨_, rfl, ?_⟩
          have n0_ := Aside0.mk (Kd.R_below m13_ hb)
          have n1_ := Aside0.mk (blk_below (g := gb241) (o := .cells #[.string a1_0, .int .i64 a1_1, .int .i64 a1_2] 24 (0, 0)) m2_ hb)
          have n2_ := Aside0.mk (blk_below (g := gb242) (o := .cells #[.int .i64 a2_0, .bool a2_1] 26 (0, 0)) m3_ hb)
          have n3_ := Aside0.mk (below_step m7_ hb)
          clear HO247
          clear BK241
          clear BK242
          clear HB
          have HO247 := n0_
          have BK241 := n1_
          have BK242 := n2_
          have HB := n3_
          clear n0_ n1_ n2_ n3_
          (try clear hb)
          (try clear hb2)
          (try clear hk)
          (try clear hi)
          refine hK.out _ _ ⟨(blk_cell BK241.out 0).trans rfl, (blk_cell BK241.out 1).trans rfl, (blk_cell BK241.out 2).trans rfl, (blk_cell BK242.out 0).trans rfl, (blk_cell BK242.out 1).trans rfl⟩ (fun hHeld => ?_)
          clear hK K
          refine no_ ?_
          exact norm_ m19_ (hJ1_3_5 (v246) _ ⟨hHeld, m13_, m2_, m3_, m7_⟩)
         ·skip
          refine box_step ?hg (N := 8) ?hd (cs := #[.string (⟨#[]⟩ : ByteArray), .int .i64 0, .int .i64 0]) (t := 29) ?hr ?_; (case hd => rfl); (case hg => rfl); (case hr => first | (go_simp; done) | (go_simp; rfl))
          intro gb257 hg w36 hbox hb
          have n0_ := Aside0.mk (Kd.R_below m13_ hb)
          have n1_ := Aside0.mk (blk_below (g := gb241) (o := .cells #[.string a1_0, .int .i64 a1_1, .int .i64 a1_2] 24 (0, 0)) m2_ hb)
          have n2_ := Aside0.mk (blk_below (g := gb242) (o := .cells #[.int .i64 a2_0, .bool a2_1] 26 (0, 0)) m3_ hb)
          have n3_ := Aside0.mk (below_step m7_ hb)
          have n4_ := Aside0.mk (hbox)
          have n5_ := Aside0.mk ((by rw [hg]; exact (below_size m7_) : w.heap.size ≤ gb257))
          have n6_ := Aside0.mk ((by rw [hg]; exact (below_size m7_) : w.heap.size ≤ gb257))
          have n7_ := Aside0.mk ((by rw [hg]; exact Nat.ne_of_lt (blk_lt (g := gb241) (o := .cells #[.string a1_0, .int .i64 a1_1, .int .i64 a1_2] 24 (0, 0)) m2_) : gb241 ≠ gb257))
          have n8_ := Aside0.mk ((by rw [hg]; exact Nat.ne_of_gt (blk_lt (g := gb241) (o := .cells #[.string a1_0, .int .i64 a1_1, .int .i64 a1_2] 24 (0, 0)) m2_) : gb257 ≠ gb241))
          have n9_ := Aside0.mk ((by rw [hg]; exact Nat.ne_of_lt (blk_lt (g := gb242) (o := .cells #[.int .i64 a2_0, .bool a2_1] 26 (0, 0)) m3_) : gb242 ≠ gb257))
          have n10_ := Aside0.mk ((by rw [hg]; exact Nat.ne_of_gt (blk_lt (g := gb242) (o := .cells #[.int .i64 a2_0, .bool a2_1] 26 (0, 0)) m3_) : gb257 ≠ gb242))
          clear HO247
          clear BK241
          clear BK242
          clear HB
          have HO247 := n0_
          have BK241 := n1_
          have BK242 := n2_
          have HB := n3_
          have BK257 := n4_
          have GW257 := n5_
          have GE257 := n6_
          have NB241_257 := n7_
          have NB257_241 := n8_
          have NB242_257 := n9_
          have NB257_242 := n10_
          clear n0_ n1_ n2_ n3_ n4_ n5_ n6_ n7_ n8_ n9_ n10_
          clear hb hbox hg
          refine hK.out _ _ ⟨(blk_cell BK241.out 0).trans rfl, (blk_cell BK241.out 1).trans rfl, (blk_cell BK241.out 2).trans rfl, (blk_cell BK242.out 0).trans rfl, (blk_cell BK242.out 1).trans rfl⟩ (fun hHeld => ?_)
          clear hK K
          refine no_ ?_
          exact norm_ m19_ (hJ1_3_10 (v246, gb257) _ ⟨hHeld, m13_, m2_, m3_, m10_, GW257.out, GE257.out, NB241_257.out, NB257_241.out, NB242_257.out, NB257_242.out, m4_⟩)
       ·skip
        rintro ⟨v246, gb257⟩ w36 ⟨hS_, h0_, h1_, h2_, h3_, h4_, h5_, h6_, h7_, h8_, h9_, h10_⟩
        have n0_ : Aside0 (Kd.R k44 44 w36 w.heap.size (fun _ => True) v246 t245) := ⟨h0_⟩
        have n1_ : Aside0 (w36.heap[gb241]? = some (.cells #[.string a1_0, .int .i64 a1_1, .int .i64 a1_2] 24 (0, 0))) := ⟨h1_⟩
        have n2_ : Aside0 (w36.heap[gb242]? = some (.cells #[.int .i64 a2_0, .bool a2_1] 26 (0, 0))) := ⟨h2_⟩
        have n3_ : Aside0 (w36.heap[gb257]? = some (.cells #[.string (⟨#[]⟩ : ByteArray), .int .i64 0, .int .i64 0] 29 (0, 0))) := ⟨h3_⟩
        have n4_ : Aside0 (w.heap.size ≤ gb257) := ⟨h4_⟩
        have n5_ : Aside0 (w.heap.size ≤ gb257) := ⟨h5_⟩
        have n6_ : Aside0 (gb241 ≠ gb257) := ⟨h6_⟩
        have n7_ : Aside0 (gb257 ≠ gb241) := ⟨h7_⟩
        have n8_ : Aside0 (gb242 ≠ gb257) := ⟨h8_⟩
        have n9_ : Aside0 (gb257 ≠ gb242) := ⟨h9_⟩
        have n10_ : Aside0 (Below w.heap.size w w36) := ⟨h10_⟩
        clear BK241
        clear BK242
        clear HB
        clear h0_ h1_ h2_ h3_ h4_ h5_ h6_ h7_ h8_ h9_ h10_
        have HO247 := n0_
        have BK241 := n1_
        have BK242 := n2_
        have BK257 := n3_
        have GW257 := n4_
        have GE257 := n5_
        have NB241_257 := n6_
        have NB257_241 := n7_
        have NB242_257 := n8_
        have NB257_242 := n9_
        have HB := n10_
        clear n0_ n1_ n2_ n3_ n4_ n5_ n6_ n7_ n8_ n9_ n10_
        have hHeld : w36.cell? ⟨gb241, 0, none⟩ = some (.string a1_0) ∧ w36.cell? ⟨gb241, 1, none⟩ = some (.int .i64 a1_1) ∧ w36.cell? ⟨gb241, 2, none⟩ = some (.int .i64 a1_2) ∧ w36.cell? ⟨gb242, 0, none⟩ = some (.int .i64 a2_0) ∧ w36.cell? ⟨gb242, 1, none⟩ = some (.bool a2_1) := hS_
        refine norm_ (a' := ?_) ?_ ?_
        rotate_left
        ·simp only [putAll, Act.put, List.setIfInBounds_toArray, List.set_cons_zero, List.set_cons_succ]
         rfl
        refine one_ (i := 5) (N := some 29) (bm 13 1087) rfl rfl (one_of HT_.out (by kernel_rfl)) (by decide) (fun K hK => ?_)
        refine goes_ Try.func12 (by kernel_rfl) rfl #[.agg #[.int .i64 a2_0, .bool a2_1]] (by rfl) rfl rfl m1_ ?_
        with_reducible refine (laws_toRecSay.calls a2_0 a2_1 t251 t252 _ A19.out).mono ?_
        rintro e w37 ⟨rfl, hb⟩
        refine ⟨_, rfl, ?_⟩
        have n0_ := Aside0.mk (Kd.R_below m13_ hb)
        have n1_ := Aside0.mk (blk_below (g := gb241) (o := .cells #[.string a1_0, .int .i64 a1_1, .int .i64 a1_2] 24 (0, 0)) m2_ hb)
        have n2_ := Aside0.mk (blk_below (g := gb242) (o := .cells #[.int .i64 a2_0, .bool a2_1] 26 (0, 0)) m3_ hb)
        have n3_ := Aside0.mk (blk_below (g := gb257) (o := .cells #[.string (⟨#[]⟩ : ByteArray), .int .i64 0, .int .i64 0] 29 (0, 0)) m10_ hb)
        have n4_ := Aside0.mk (below_step m4_ hb)
        clear HO247
        clear BK241
        clear BK242
        clear BK257
        clear HB
        have HO247 := n0_
        have BK241 := n1_
        have BK242 := n2_
        have BK257 := n3_
        have HB := n4_
        clear n0_ n1_ n2_ n3_ n4_
        (try clear hb)
        (try clear hb2)
        (try clear hk)
        (try clear hi)
        refine hK.out _ _ ⟨(blk_cell BK241.out 0).trans rfl, (blk_cell BK241.out 1).trans rfl, (blk_cell BK241.out 2).trans rfl, (blk_cell BK242.out 0).trans rfl, (blk_cell BK242.out 1).trans rfl⟩ (fun hHeld => ?_)
        clear hK K
        refine no_ ?_
        exact norm_ m19_ (hJ1_3_5_10 (v246, gb257) _ ⟨hHeld, m13_, m2_, m3_, m10_, GW257.out, GE257.out, NB241_257.out, NB257_241.out, NB242_257.out, NB257_242.out, m4_⟩)
      ·skip
       rintro v246 w36 ⟨hS_, h0_, h1_, h2_, h3_⟩
       have n0_ : Aside0 (Kd.R k44 44 w36 w.heap.size (fun _ => True) v246 t245) := ⟨h0_⟩
       have n1_ : Aside0 (w36.heap[gb241]? = some (.cells #[.string a1_0, .int .i64 a1_1, .int .i64 a1_2] 24 (0, 0))) := ⟨h1_⟩
       have n2_ : Aside0 (w36.heap[gb242]? = some (.cells #[.int .i64 a2_0, .bool a2_1] 26 (0, 0))) := ⟨h2_⟩
       have n3_ : Aside0 (Below w.heap.size w w36) := ⟨h3_⟩
       clear BK241
       clear BK242
       clear HB
       clear h0_ h1_ h2_ h3_
       have HO247 := n0_
       have BK241 := n1_
       have BK242 := n2_
       have HB := n3_
       clear n0_ n1_ n2_ n3_
       have hHeld : w36.cell? ⟨gb241, 0, none⟩ = some (.string a1_0) ∧ w36.cell? ⟨gb241, 1, none⟩ = some (.int .i64 a1_1) ∧ w36.cell? ⟨gb241, 2, none⟩ = some (.int .i64 a1_2) ∧ w36.cell? ⟨gb242, 0, none⟩ = some (.int .i64 a2_0) ∧ w36.cell? ⟨gb242, 1, none⟩ = some (.bool a2_1) := hS_
       obtain ⟨Ao37, co37, eo37⟩ := Kd.R_slice HO247.out
       (first | subst eo37 | (injection eo37 with f1_ f2_ f3_; have f4_ := f1_.symm; have f5_ := f3_.symm; clear f1_ f2_ f3_; subst f4_; subst f5_))
       refine norm_ (a' := ?_) ?_ ?_
       rotate_left
       ·simp only [putAll, Act.put, List.setIfInBounds_toArray, List.set_cons_zero, List.set_cons_succ]
        rfl
       refine two_ (i := 6) (j := 10) (Ni := some 30) (Nj := some 8) (bm 13 127) (bm 13 1087) rfl rfl rfl rfl (two_of HT_.out (by kernel_rfl)) (by decide) (by decide) (fun K hK => ?_) (fun K hK => ?_)
       ·skip
        refine goes_ Try.func9 (by kernel_rfl) rfl #[.slice Ao37 t245.length co37, .agg #[.string t248, .int .i64 t249, .int .i64 t250], .agg #[.int .i64 t251, .bool t252]] (by rfl) rfl rfl m1_ ?_
        with_reducible refine (spec_RecGo.calls k _ _ t245 t248 t249 t250 t251 t252 t253 t254 t255 t256 _ ?side1 ?side2 A20.out).mono ?_
        (case side1 => exact (by repeat (first | exact (Kd.R_reads' HO247.out).2.2 | (with_reducible refine Kd.C_alloc ?_ _) | (with_reducible refine Kd.C_drewN ?_ _) | (with_reducible refine Kd.C_drew ?_))))
        (case side2 => exact (Kd.R_reads' HO247.out).2.1)
        rintro e w38 ⟨rfl, hb⟩
        refine ⟨_, rfl, ?_⟩
        have n0_ := Aside0.mk (Kd.R_below m13_ hb)
        have n1_ := Aside0.mk (blk_below (g := gb241) (o := .cells #[.string a1_0, .int .i64 a1_1, .int .i64 a1_2] 24 (0, 0)) m2_ hb)
        have n2_ := Aside0.mk (blk_below (g := gb242) (o := .cells #[.int .i64 a2_0, .bool a2_1] 26 (0, 0)) m3_ hb)
        have n3_ := Aside0.mk (below_step m7_ hb)
        clear HO247
        clear BK241
        clear BK242
        clear HB
        have HO247 := n0_
        have BK241 := n1_
        have BK242 := n2_
        have HB := n3_
        clear n0_ n1_ n2_ n3_
        (try clear hb)
        (try clear hb2)
        (try clear hk)
        (try clear hi)
        refine hK.out _ _ ⟨(blk_cell BK241.out 0).trans rfl, (blk_cell BK241.out 1).trans rfl, (blk_cell BK241.out 2).trans rfl, (blk_cell BK242.out 0).trans rfl, (blk_cell BK242.out 1).trans rfl⟩ (fun hHeld => ?_)
        clear hK K
        refine no_ ?_
        refine pure_ (i := 7) (N := some 23) (v := ?_) (a' := ?_) (bm 13 255) rfl rfl (any_of HT_.out (by kernel_rfl)) (fun _ _ _ h => h) (Or.inl ⟨(by rfl), ?_⟩) ?_ ?_; rotate_left; intro w'; go_simp; with_reducible rfl; rotate_left; simp only [Act.put, List.setIfInBounds_toArray, List.set_cons_zero, List.set_cons_succ, i64_w, i32_w]; rfl
        refine pure_ (i := 8) (N := some 31) (v := ?_) (a' := ?_) (bm 13 511) rfl rfl (any_of HT_.out (by kernel_rfl)) (fun _ _ _ h => h) (Or.inl ⟨(by rfl), ?_⟩) ?_ ?_; rotate_left; intro w'; go_simp; with_reducible rfl; rotate_left; simp only [Act.put, List.setIfInBounds_toArray, List.set_cons_zero, List.set_cons_succ, i64_w, i32_w]; rfl
        refine pure_ (i := 9) (N := some 32) (v := ?_) (a' := ?_) (bm 13 1023) rfl rfl (any_of HT_.out (by kernel_rfl)) (fun _ _ _ h => h) (Or.inl ⟨(by rfl), ?_⟩) ?_ ?_; rotate_left; intro w'; go_simp; with_reducible rfl; rotate_left; simp only [Act.put, List.setIfInBounds_toArray, List.set_cons_zero, List.set_cons_succ, i64_w, i32_w]; rfl
        exact norm_ m19_ (hJ1_3_5_6 (.slice Ao37 t245.length co37) _ ⟨hHeld, m13_, m2_, m3_, m7_⟩)
       ·skip
        refine box_step ?hg (N := 8) ?hd (cs := #[.string (⟨#[]⟩ : ByteArray), .int .i64 0, .int .i64 0]) (t := 29) ?hr ?_; (case hd => rfl); (case hg => rfl); (case hr => first | (go_simp; done) | (go_simp; rfl))
        intro gb257 hg w37 hbox hb
        have n0_ := Aside0.mk (Kd.R_below m13_ hb)
        have n1_ := Aside0.mk (blk_below (g := gb241) (o := .cells #[.string a1_0, .int .i64 a1_1, .int .i64 a1_2] 24 (0, 0)) m2_ hb)
        have n2_ := Aside0.mk (blk_below (g := gb242) (o := .cells #[.int .i64 a2_0, .bool a2_1] 26 (0, 0)) m3_ hb)
        have n3_ := Aside0.mk (below_step m7_ hb)
        have n4_ := Aside0.mk (hbox)
        have n5_ := Aside0.mk ((by rw [hg]; exact (below_size m7_) : w.heap.size ≤ gb257))
        have n6_ := Aside0.mk ((by rw [hg]; exact (below_size m7_) : w.heap.size ≤ gb257))
        have n7_ := Aside0.mk ((by rw [hg]; exact Nat.ne_of_lt (blk_lt (g := gb241) (o := .cells #[.string a1_0, .int .i64 a1_1, .int .i64 a1_2] 24 (0, 0)) m2_) : gb241 ≠ gb257))
        have n8_ := Aside0.mk ((by rw [hg]; exact Nat.ne_of_gt (blk_lt (g := gb241) (o := .cells #[.string a1_0, .int .i64 a1_1, .int .i64 a1_2] 24 (0, 0)) m2_) : gb257 ≠ gb241))
        have n9_ := Aside0.mk ((by rw [hg]; exact Nat.ne_of_lt (blk_lt (g := gb242) (o := .cells #[.int .i64 a2_0, .bool a2_1] 26 (0, 0)) m3_) : gb242 ≠ gb257))
        have n10_ := Aside0.mk ((by rw [hg]; exact Nat.ne_of_gt (blk_lt (g := gb242) (o := .cells #[.int .i64 a2_0, .bool a2_1] 26 (0, 0)) m3_) : gb257 ≠ gb242))
        clear HO247
        clear BK241
        clear BK242
        clear HB
        have HO247 := n0_
        have BK241 := n1_
        have BK242 := n2_
        have HB := n3_
        have BK257 := n4_
        have GW257 := n5_
        have GE257 := n6_
        have NB241_257 := n7_
        have NB257_241 := n8_
        have NB242_257 := n9_
        have NB257_242 := n10_
        clear n0_ n1_ n2_ n3_ n4_ n5_ n6_ n7_ n8_ n9_ n10_
        clear hb hbox hg
        refine hK.out _ _ ⟨(blk_cell BK241.out 0).trans rfl, (blk_cell BK241.out 1).trans rfl, (blk_cell BK241.out 2).trans rfl, (blk_cell BK242.out 0).trans rfl, (blk_cell BK242.out 1).trans rfl⟩ (fun hHeld => ?_)
        clear hK K
        refine no_ ?_
        exact norm_ m19_ (hJ1_3_5_10 (v246, gb257) _ ⟨hHeld, m13_, m2_, m3_, m10_, GW257.out, GE257.out, NB241_257.out, NB257_241.out, NB242_257.out, NB257_242.out, m4_⟩)
     ·skip
      rintro ⟨v246, gb257⟩ w37 ⟨hS_, h0_, h1_, h2_, h3_, h4_, h5_, h6_, h7_, h8_, h9_, h10_⟩
      have n0_ : Aside0 (Kd.R k44 44 w37 w.heap.size (fun _ => True) v246 t245) := ⟨h0_⟩
      have n1_ : Aside0 (w37.heap[gb241]? = some (.cells #[.string a1_0, .int .i64 a1_1, .int .i64 a1_2] 24 (0, 0))) := ⟨h1_⟩
      have n2_ : Aside0 (w37.heap[gb242]? = some (.cells #[.int .i64 a2_0, .bool a2_1] 26 (0, 0))) := ⟨h2_⟩
      have n3_ : Aside0 (w37.heap[gb257]? = some (.cells #[.string (⟨#[]⟩ : ByteArray), .int .i64 0, .int .i64 0] 29 (0, 0))) := ⟨h3_⟩
      have n4_ : Aside0 (w.heap.size ≤ gb257) := ⟨h4_⟩
      have n5_ : Aside0 (w.heap.size ≤ gb257) := ⟨h5_⟩
      have n6_ : Aside0 (gb241 ≠ gb257) := ⟨h6_⟩
      have n7_ : Aside0 (gb257 ≠ gb241) := ⟨h7_⟩
      have n8_ : Aside0 (gb242 ≠ gb257) := ⟨h8_⟩
      have n9_ : Aside0 (gb257 ≠ gb242) := ⟨h9_⟩
      have n10_ : Aside0 (Below w.heap.size w w37) := ⟨h10_⟩
      clear BK241
      clear BK242
      clear HB
      clear h0_ h1_ h2_ h3_ h4_ h5_ h6_ h7_ h8_ h9_ h10_
      have HO247 := n0_
      have BK241 := n1_
      have BK242 := n2_
      have BK257 := n3_
      have GW257 := n4_
      have GE257 := n5_
      have NB241_257 := n6_
      have NB257_241 := n7_
      have NB242_257 := n8_
      have NB257_242 := n9_
      have HB := n10_
      clear n0_ n1_ n2_ n3_ n4_ n5_ n6_ n7_ n8_ n9_ n10_
      have hHeld : w37.cell? ⟨gb241, 0, none⟩ = some (.string a1_0) ∧ w37.cell? ⟨gb241, 1, none⟩ = some (.int .i64 a1_1) ∧ w37.cell? ⟨gb241, 2, none⟩ = some (.int .i64 a1_2) ∧ w37.cell? ⟨gb242, 0, none⟩ = some (.int .i64 a2_0) ∧ w37.cell? ⟨gb242, 1, none⟩ = some (.bool a2_1) := hS_
      obtain ⟨Ao38, co38, eo38⟩ := Kd.R_slice HO247.out
      (first | subst eo38 | (injection eo38 with f1_ f2_ f3_; have f4_ := f1_.symm; have f5_ := f3_.symm; clear f1_ f2_ f3_; subst f4_; subst f5_))
      refine norm_ (a' := ?_) ?_ ?_
      rotate_left
      ·simp only [putAll, Act.put, List.setIfInBounds_toArray, List.set_cons_zero, List.set_cons_succ]
       rfl
      refine one_ (i := 6) (N := some 30) (bm 13 1151) rfl rfl (one_of HT_.out (by kernel_rfl)) (by decide) (fun K hK => ?_)
      refine goes_ Try.func9 (by kernel_rfl) rfl #[.slice Ao38 t245.length co38, .agg #[.string t248, .int .i64 t249, .int .i64 t250], .agg #[.int .i64 t251, .bool t252]] (by rfl) rfl rfl m1_ ?_
      with_reducible refine (spec_RecGo.calls k _ _ t245 t248 t249 t250 t251 t252 t253 t254 t255 t256 _ ?side1 ?side2 A20.out).mono ?_
      (case side1 => exact (by repeat (first | exact (Kd.R_reads' HO247.out).2.2 | (with_reducible refine Kd.C_alloc ?_ _) | (with_reducible refine Kd.C_drewN ?_ _) | (with_reducible refine Kd.C_drew ?_))))
      (case side2 => exact (Kd.R_reads' HO247.out).2.1)
      rintro e w39 ⟨rfl, hb⟩
      refine ⟨_, rfl, ?_⟩
      have n0_ := Aside0.mk (Kd.R_below m13_ hb)
      have n1_ := Aside0.mk (blk_below (g := gb241) (o := .cells #[.string a1_0, .int .i64 a1_1, .int .i64 a1_2] 24 (0, 0)) m2_ hb)
      have n2_ := Aside0.mk (blk_below (g := gb242) (o := .cells #[.int .i64 a2_0, .bool a2_1] 26 (0, 0)) m3_ hb)
      have n3_ := Aside0.mk (blk_below (g := gb257) (o := .cells #[.string (⟨#[]⟩ : ByteArray), .int .i64 0, .int .i64 0] 29 (0, 0)) m10_ hb)
      have n4_ := Aside0.mk (below_step m4_ hb)
      clear HO247
      clear BK241
      clear BK242
      clear BK257
      clear HB
      have HO247 := n0_
      have BK241 := n1_
      have BK242 := n2_
      have BK257 := n3_
      have HB := n4_
      clear n0_ n1_ n2_ n3_ n4_
      (try clear hb)
      (try clear hb2)
      (try clear hk)
      (try clear hi)
      refine hK.out _ _ ⟨(blk_cell BK241.out 0).trans rfl, (blk_cell BK241.out 1).trans rfl, (blk_cell BK241.out 2).trans rfl, (blk_cell BK242.out 0).trans rfl, (blk_cell BK242.out 1).trans rfl⟩ (fun hHeld => ?_)
      clear hK K
      refine no_ ?_
      refine pure_ (i := 7) (N := some 23) (v := ?_) (a' := ?_) (bm 13 1279) rfl rfl (any_of HT_.out (by kernel_rfl)) (fun _ _ _ h => h) (Or.inl ⟨(by rfl), ?_⟩) ?_ ?_; rotate_left; intro w'; go_simp; with_reducible rfl; rotate_left; simp only [Act.put, List.setIfInBounds_toArray, List.set_cons_zero, List.set_cons_succ, i64_w, i32_w]; rfl
      refine pure_ (i := 8) (N := some 31) (v := ?_) (a' := ?_) (bm 13 1535) rfl rfl (any_of HT_.out (by kernel_rfl)) (fun _ _ _ h => h) (Or.inl ⟨(by rfl), ?_⟩) ?_ ?_; rotate_left; intro w'; go_simp; with_reducible rfl; rotate_left; simp only [Act.put, List.setIfInBounds_toArray, List.set_cons_zero, List.set_cons_succ, i64_w, i32_w]; rfl
      refine pure_ (i := 9) (N := some 32) (v := ?_) (a' := ?_) (bm 13 2047) rfl rfl (any_of HT_.out (by kernel_rfl)) (fun _ _ _ h => h) (Or.inl ⟨(by rfl), ?_⟩) ?_ ?_; rotate_left; intro w'; go_simp; with_reducible rfl; rotate_left; simp only [Act.put, List.setIfInBounds_toArray, List.set_cons_zero, List.set_cons_succ, i64_w, i32_w]; rfl
      exact norm_ m19_ (hJ1_3_5_6_10 (.slice Ao38 t245.length co38, gb257) _ ⟨hHeld, m13_, m2_, m3_, m10_, GW257.out, GE257.out, NB241_257.out, NB257_241.out, NB242_257.out, NB257_242.out, m4_⟩)
    ·skip
     rintro v246 w38 ⟨hS_, h0_, h1_, h2_, h3_⟩
     have n0_ : Aside0 (Kd.R k44 44 w38 w.heap.size (fun _ => True) v246 t245) := ⟨h0_⟩
     have n1_ : Aside0 (w38.heap[gb241]? = some (.cells #[.string a1_0, .int .i64 a1_1, .int .i64 a1_2] 24 (0, 0))) := ⟨h1_⟩
     have n2_ : Aside0 (w38.heap[gb242]? = some (.cells #[.int .i64 a2_0, .bool a2_1] 26 (0, 0))) := ⟨h2_⟩
     have n3_ : Aside0 (Below w.heap.size w w38) := ⟨h3_⟩
     clear BK241
     clear BK242
     clear HB
     clear h0_ h1_ h2_ h3_
     have HO247 := n0_
     have BK241 := n1_
     have BK242 := n2_
     have HB := n3_
     clear n0_ n1_ n2_ n3_
     have hHeld : w38.cell? ⟨gb241, 0, none⟩ = some (.string a1_0) ∧ w38.cell? ⟨gb241, 1, none⟩ = some (.int .i64 a1_1) ∧ w38.cell? ⟨gb241, 2, none⟩ = some (.int .i64 a1_2) ∧ w38.cell? ⟨gb242, 0, none⟩ = some (.int .i64 a2_0) ∧ w38.cell? ⟨gb242, 1, none⟩ = some (.bool a2_1) := hS_
     refine norm_ (a' := ?_) ?_ ?_
     rotate_left
     ·simp only [putAll, Act.put, List.setIfInBounds_toArray, List.set_cons_zero, List.set_cons_succ]
      rfl
     refine one_ (i := 10) (N := some 8) (bm 13 2047) rfl rfl (one_of HT_.out (by kernel_rfl)) (by decide) (fun K hK => ?_)
     refine box_step ?hg (N := 8) ?hd (cs := #[.string (⟨#[]⟩ : ByteArray), .int .i64 0, .int .i64 0]) (t := 29) ?hr ?_; (case hd => rfl); (case hg => rfl); (case hr => first | (go_simp; done) | (go_simp; rfl))
     intro gb257 hg w39 hbox hb
     have n0_ := Aside0.mk (Kd.R_below m13_ hb)
     have n1_ := Aside0.mk (blk_below (g := gb241) (o := .cells #[.string a1_0, .int .i64 a1_1, .int .i64 a1_2] 24 (0, 0)) m2_ hb)
     have n2_ := Aside0.mk (blk_below (g := gb242) (o := .cells #[.int .i64 a2_0, .bool a2_1] 26 (0, 0)) m3_ hb)
     have n3_ := Aside0.mk (below_step m7_ hb)
     have n4_ := Aside0.mk (hbox)
     have n5_ := Aside0.mk ((by rw [hg]; exact (below_size m7_) : w.heap.size ≤ gb257))
     have n6_ := Aside0.mk ((by rw [hg]; exact (below_size m7_) : w.heap.size ≤ gb257))
     have n7_ := Aside0.mk ((by rw [hg]; exact Nat.ne_of_lt (blk_lt (g := gb241) (o := .cells #[.string a1_0, .int .i64 a1_1, .int .i64 a1_2] 24 (0, 0)) m2_) : gb241 ≠ gb257))
     have n8_ := Aside0.mk ((by rw [hg]; exact Nat.ne_of_gt (blk_lt (g := gb241) (o := .cells #[.string a1_0, .int .i64 a1_1, .int .i64 a1_2] 24 (0, 0)) m2_) : gb257 ≠ gb241))
     have n9_ := Aside0.mk ((by rw [hg]; exact Nat.ne_of_lt (blk_lt (g := gb242) (o := .cells #[.int .i64 a2_0, .bool a2_1] 26 (0, 0)) m3_) : gb242 ≠ gb257))
     have n10_ := Aside0.mk ((by rw [hg]; exact Nat.ne_of_gt (blk_lt (g := gb242) (o := .cells #[.int .i64 a2_0, .bool a2_1] 26 (0, 0)) m3_) : gb257 ≠ gb242))
     clear HO247
     clear BK241
     clear BK242
     clear HB
     have HO247 := n0_
     have BK241 := n1_
     have BK242 := n2_
     have HB := n3_
     have BK257 := n4_
     have GW257 := n5_
     have GE257 := n6_
     have NB241_257 := n7_
     have NB257_241 := n8_
     have NB242_257 := n9_
     have NB257_242 := n10_
     clear n0_ n1_ n2_ n3_ n4_ n5_ n6_ n7_ n8_ n9_ n10_
     clear hb hbox hg
     refine hK.out _ _ ⟨(blk_cell BK241.out 0).trans rfl, (blk_cell BK241.out 1).trans rfl, (blk_cell BK241.out 2).trans rfl, (blk_cell BK242.out 0).trans rfl, (blk_cell BK242.out 1).trans rfl⟩ (fun hHeld => ?_)
     clear hK K
     refine no_ ?_
     exact norm_ m19_ (hJ1_3_5_6_10 (v246, gb257) _ ⟨hHeld, m13_, m2_, m3_, m10_, GW257.out, GE257.out, NB241_257.out, NB257_241.out, NB242_257.out, NB257_242.out, m4_⟩)
   rintro ⟨v246, gb257⟩ w39 ⟨hS_, h0_, h1_, h2_, h3_, h4_, h5_, h6_, h7_, h8_, h9_, h10_⟩
   have n0_ : Aside0 (Kd.R k44 44 w39 w.heap.size (fun _ => True) v246 t245) := ⟨h0_⟩
   have n1_ : Aside0 (w39.heap[gb241]? = some (.cells #[.string a1_0, .int .i64 a1_1, .int .i64 a1_2] 24 (0, 0))) := ⟨h1_⟩
   have n2_ : Aside0 (w39.heap[gb242]? = some (.cells #[.int .i64 a2_0, .bool a2_1] 26 (0, 0))) := ⟨h2_⟩
   have n3_ : Aside0 (w39.heap[gb257]? = some (.cells #[.string (⟨#[]⟩ : ByteArray), .int .i64 0, .int .i64 0] 29 (0, 0))) := ⟨h3_⟩
   have n4_ : Aside0 (w.heap.size ≤ gb257) := ⟨h4_⟩
   have n5_ : Aside0 (w.heap.size ≤ gb257) := ⟨h5_⟩
   have n6_ : Aside0 (gb241 ≠ gb257) := ⟨h6_⟩
   have n7_ : Aside0 (gb257 ≠ gb241) := ⟨h7_⟩
   have n8_ : Aside0 (gb242 ≠ gb257) := ⟨h8_⟩
   have n9_ : Aside0 (gb257 ≠ gb242) := ⟨h9_⟩
   have n10_ : Aside0 (Below w.heap.size w w39) := ⟨h10_⟩
   clear BK241
   clear BK242
   clear HB
   clear h0_ h1_ h2_ h3_ h4_ h5_ h6_ h7_ h8_ h9_ h10_
   have HO247 := n0_
   have BK241 := n1_
   have BK242 := n2_
   have BK257 := n3_
   have GW257 := n4_
   have GE257 := n5_
   have NB241_257 := n6_
   have NB257_241 := n7_
   have NB242_257 := n8_
   have NB257_242 := n9_
   have HB := n10_
   clear n0_ n1_ n2_ n3_ n4_ n5_ n6_ n7_ n8_ n9_ n10_
   have hHeld : w39.cell? ⟨gb241, 0, none⟩ = some (.string a1_0) ∧ w39.cell? ⟨gb241, 1, none⟩ = some (.int .i64 a1_1) ∧ w39.cell? ⟨gb241, 2, none⟩ = some (.int .i64 a1_2) ∧ w39.cell? ⟨gb242, 0, none⟩ = some (.int .i64 a2_0) ∧ w39.cell? ⟨gb242, 1, none⟩ = some (.bool a2_1) := hS_
   refine norm_ (a' := ?_) ?_ ?_
   rotate_left
   ·simp only [putAll, Act.put, List.setIfInBounds_toArray, List.set_cons_zero, List.set_cons_succ]
    rfl
   refine one_ (i := 11) (N := none) (bm 13 4095) rfl rfl (one_of HT_.out (by kernel_rfl)) (by decide) (fun K hK => ?_)
   have hs40 : w39.cell? ⟨gb257, 0, none⟩ = some (.string (⟨#[]⟩ : ByteArray)) := (blk_cell BK257.out 0).trans rfl
   have hfs40 := blk_frozen BK257.out 0
   have hns40_0 := NB241_257.out
   have hns40_1 := NB242_257.out
   have hms40_0 := NB257_241.out
   have hms40_1 := NB257_242.out
   have hs41 : w39.cell? ⟨gb257, 1, none⟩ = some (.int .i64 0) := (blk_cell BK257.out 1).trans rfl
   have hfs41 := blk_frozen BK257.out 1
   have hns41_0 := NB241_257.out
   have hns41_1 := NB242_257.out
   have hms41_0 := NB257_241.out
   have hms41_1 := NB257_242.out
   have hs42 : w39.cell? ⟨gb257, 2, none⟩ = some (.int .i64 0) := (blk_cell BK257.out 2).trans rfl
   have hfs42 := blk_frozen BK257.out 2
   have hns42_0 := NB241_257.out
   have hns42_1 := NB242_257.out
   have hms42_0 := NB257_241.out
   have hms42_1 := NB257_242.out
   refine skip_ (w1 := ?_) (by rfl) rfl ?_ ?_
   rotate_left
   ·go_simp
    rfl
   refine hK.out _ _ ⟨((cell_far (p := ⟨gb257, _, none⟩) NB241_257.out _).trans (((cell_far (p := ⟨gb257, _, none⟩) NB241_257.out _).trans (((cell_far (p := ⟨gb257, _, none⟩) NB241_257.out _).trans (hHeld.1)))))), ((cell_far (p := ⟨gb257, _, none⟩) NB241_257.out _).trans (((cell_far (p := ⟨gb257, _, none⟩) NB241_257.out _).trans (((cell_far (p := ⟨gb257, _, none⟩) NB241_257.out _).trans (hHeld.2.1)))))), ((cell_far (p := ⟨gb257, _, none⟩) NB241_257.out _).trans (((cell_far (p := ⟨gb257, _, none⟩) NB241_257.out _).trans (((cell_far (p := ⟨gb257, _, none⟩) NB241_257.out _).trans (hHeld.2.2.1)))))), ((cell_far (p := ⟨gb257, _, none⟩) NB242_257.out _).trans (((cell_far (p := ⟨gb257, _, none⟩) NB242_257.out _).trans (((cell_far (p := ⟨gb257, _, none⟩) NB242_257.out _).trans (hHeld.2.2.2.1)))))), ((cell_far (p := ⟨gb257, _, none⟩) NB242_257.out _).trans (((cell_far (p := ⟨gb257, _, none⟩) NB242_257.out _).trans (((cell_far (p := ⟨gb257, _, none⟩) NB242_257.out _).trans (hHeld.2.2.2.2))))))⟩ (fun hHeld => ?_)
   clear hK K
   refine pure_ (i := 12) (N := some 9) (v := ?_) (a' := ?_) (bm 13 8191) rfl rfl (any_of HT_.out (by kernel_rfl)) (fun _ _ _ h => h) (Or.inl ⟨(by rfl), ?_⟩) ?_ ?_; rotate_left; intro w'; go_simp; with_reducible rfl; rotate_left; simp only [Act.put, List.setIfInBounds_toArray, List.set_cons_zero, List.set_cons_succ, i64_w, i32_w]; rfl
   refine done_ (done_of HT_.out (by kernel_rfl)) ?_
   try go_wp2_with (first | ((with_reducible refine gate_callee (f := 10) rfl ?_); refine goesL_ (some 34) rfl rfl Try.func10 (by kernel_rfl) rfl #[.slice A0 l0.length c0] rfl m1_ ?_; (with_reducible refine (laws_toRecPhaseS.calls k _ _ l0 t258 _ ?side1 ?side2 A21.out).mono ?_); (case side1 => exact Kd.C_below HR0.out m4_); (case side2 => exact HC0.out); rintro e w43 ⟨v259, rfl, ho0, hb⟩; refine ⟨_, rfl, ?_⟩; have n0_ := Aside0.mk (Kd.R_elder' m63_ (Kd.R_base ho0) hb); have n1_ := Aside0.mk (Kd.R_lower (Kd.R_new' ho0 (Kd.R_lt m63_)) (below_size m4_)); have n2_ := Aside0.mk (blk_below (g := gb241) (o := .cells #[.string a1_0, .int .i64 a1_1, .int .i64 a1_2] 24 (0, 0)) (by (with_reducible repeat (first | refine blk_drewN ?_ _ | refine blk_drew ?_ | refine blk_alloc ?_ _)); refine blk_far ?_ NB241_257.out _; (with_reducible repeat (first | refine blk_drewN ?_ _ | refine blk_drew ?_ | refine blk_alloc ?_ _)); refine blk_far ?_ NB241_257.out _; (with_reducible repeat (first | refine blk_drewN ?_ _ | refine blk_drew ?_ | refine blk_alloc ?_ _)); refine blk_far ?_ NB241_257.out _; (with_reducible repeat (first | refine blk_drewN ?_ _ | refine blk_drew ?_ | refine blk_alloc ?_ _)); exact BK241.out) hb); have n3_ := Aside0.mk (blk_below (g := gb242) (o := .cells #[.int .i64 a2_0, .bool a2_1] 26 (0, 0)) (by (with_reducible repeat (first | refine blk_drewN ?_ _ | refine blk_drew ?_ | refine blk_alloc ?_ _)); refine blk_far ?_ NB242_257.out _; (with_reducible repeat (first | refine blk_drewN ?_ _ | refine blk_drew ?_ | refine blk_alloc ?_ _)); refine blk_far ?_ NB242_257.out _; (with_reducible repeat (first | refine blk_drewN ?_ _ | refine blk_drew ?_ | refine blk_alloc ?_ _)); refine blk_far ?_ NB242_257.out _; (with_reducible repeat (first | refine blk_drewN ?_ _ | refine blk_drew ?_ | refine blk_alloc ?_ _)); exact BK242.out) hb); have n4_ := Aside0.mk (blk_below (g := gb257) (o := .cells #[.string t253, .int .i64 t254, .int .i64 t255] 29 (0, 0)) (by (with_reducible repeat (first | refine blk_drewN ?_ _ | refine blk_drew ?_ | refine blk_alloc ?_ _)); refine blk_put (cs := #[.string t253, .int .i64 t254, .int .i64 0]) ?_ 2 _ rfl; (with_reducible repeat (first | refine blk_drewN ?_ _ | refine blk_drew ?_ | refine blk_alloc ?_ _)); refine blk_put (cs := #[.string t253, .int .i64 0, .int .i64 0]) ?_ 1 _ rfl; (with_reducible repeat (first | refine blk_drewN ?_ _ | refine blk_drew ?_ | refine blk_alloc ?_ _)); refine blk_put (cs := #[.string (⟨#[]⟩ : ByteArray), .int .i64 0, .int .i64 0]) ?_ 0 _ rfl; (with_reducible repeat (first | refine blk_drewN ?_ _ | refine blk_drew ?_ | refine blk_alloc ?_ _)); exact BK257.out) hb); have n5_ := Aside0.mk (below_step m4_ hb); clear HO247; clear BK241; clear BK242; clear BK257; clear HB; have HO247 := n0_; have HO260 := n1_; have BK241 := n2_; have BK242 := n3_; have BK257 := n4_; have HB := n5_; clear n0_ n1_ n2_ n3_ n4_ n5_; (try clear hb); (try clear hb2); (try clear hk); (try clear hi); (try clear ho0); obtain ⟨Ao44, co44, eo44⟩ := Kd.R_slice HO260.out; subst eo44))
   have n0_ := Aside0.mk (Kd.R_drew HO247.out)
   have n1_ := Aside0.mk (Kd.R_drew HO260.out)
   have n2_ := Aside0.mk (blk_drew BK241.out)
   have n3_ := Aside0.mk (blk_drew BK242.out)
   have n4_ := Aside0.mk (blk_drew BK257.out)
   have n5_ := Aside0.mk (below_drew1 HB.out)
   clear HO247
   clear HO260
   clear BK241
   clear BK242
   clear BK257
   clear HB
   have HO247 := n0_
   have HO260 := n1_
   have BK241 := n2_
   have BK242 := n3_
   have BK257 := n4_
   have HB := n5_
   clear n0_ n1_ n2_ n3_ n4_ n5_
   refine start_ (n := 12) (S := fun w' => w'.cell? ⟨gb241, 0, none⟩ = some (.string a1_0) ∧ w'.cell? ⟨gb241, 1, none⟩ = some (.int .i64 a1_1) ∧ w'.cell? ⟨gb241, 2, none⟩ = some (.int .i64 a1_2) ∧ w'.cell? ⟨gb242, 0, none⟩ = some (.int .i64 a2_0) ∧ w'.cell? ⟨gb242, 1, none⟩ = some (.bool a2_1)) (ds := []) (bm 12 0) (by kernel_rfl) rfl rfl ⟨(blk_cell BK241.out 0).trans rfl, (blk_cell BK241.out 1).trans rfl, (blk_cell BK241.out 2).trans rfl, (blk_cell BK242.out 0).trans rfl, (blk_cell BK242.out 1).trans rfl⟩ (fun hHeld => ?_); refine with_tabW laws_FnExactRecGo.tab10 laws_FnExactRecGo.bits10 (fun HT_ HW_ => ?_)
   generalize w43.drew = w45 at HO247 HO260 BK241 BK242 BK257 HB hHeld ⊢
   refine pure_ (i := 0) (N := some 36) (v := ?_) (a' := ?_) (bm 12 1) rfl rfl (any_of HT_.out (by kernel_rfl)) (fun _ _ _ h => h) (Or.inl ⟨(by rfl), ?_⟩) ?_ ?_; rotate_left; intro w'; go_simp; with_reducible rfl; rotate_left; simp only [Act.put, List.setIfInBounds_toArray, List.set_cons_zero, List.set_cons_succ, i64_w, i32_w]; rfl
   refine take_ (i := 1) (N := some 37) (v := ?_) (a' := ?_) (bm 12 3) rfl rfl (take_ofW HT_.out HW_.out (by kernel_rfl)) (fun _ _ _ h => h) (Or.inl ⟨(by rfl), ?_⟩) hHeld ?_ ?_; rotate_left; rintro w' ⟨s0, s1, s2, s3, s4⟩; go_simp; with_reducible rfl; rotate_left; simp only [Act.put, List.setIfInBounds_toArray, List.set_cons_zero, List.set_cons_succ, i64_w, i32_w]; rfl
   refine take_ (i := 3) (N := some 39) (v := ?_) (a' := ?_) (bm 12 11) rfl rfl (take_ofW HT_.out HW_.out (by kernel_rfl)) (fun _ _ _ h => h) (Or.inl ⟨(by rfl), ?_⟩) hHeld ?_ ?_; rotate_left; rintro w' ⟨s0, s1, s2, s3, s4⟩; go_simp; with_reducible rfl; rotate_left; simp only [Act.put, List.setIfInBounds_toArray, List.set_cons_zero, List.set_cons_succ, i64_w, i32_w]; rfl
   refine join_ (σ := Nat) 2 (bm 12 1023) (fun s_ => [(38, .agg #[.string t261, .int .i64 t262, .int .i64 t263]), (40, .agg #[.int .i64 t264, .bool t265]), (41, .tuple #[.agg #[.string t266, .int .i64 t267, .int .i64 t268], .bool t269]), (11, .pointer (some ⟨s_, 0, none⟩)), (35, .tuple #[.agg #[.string t266, .int .i64 t267, .int .i64 t268], .bool t269]), (42, .agg #[.string t266, .int .i64 t267, .int .i64 t268]), (43, .bool t269)]) (fun s_ w' => (w'.cell? ⟨gb241, 0, none⟩ = some (.string a1_0) ∧ w'.cell? ⟨gb241, 1, none⟩ = some (.int .i64 a1_1) ∧ w'.cell? ⟨gb241, 2, none⟩ = some (.int .i64 a1_2) ∧ w'.cell? ⟨gb242, 0, none⟩ = some (.int .i64 a2_0) ∧ w'.cell? ⟨gb242, 1, none⟩ = some (.bool a2_1)) ∧ (Kd.R k44 44 w' w.heap.size (fun k_ => some k_ ≠ (.slice Ao44 t258.length co44 : Value).ownBlock) v246 t245) ∧ (Kd.R k44 44 w' w.heap.size (fun k_ => some k_ ≠ (v246 : Value).ownBlock) (.slice Ao44 t258.length co44) t258) ∧ (w'.heap[gb241]? = some (.cells #[.string a1_0, .int .i64 a1_1, .int .i64 a1_2] 24 (0, 0))) ∧ (w'.heap[gb242]? = some (.cells #[.int .i64 a2_0, .bool a2_1] 26 (0, 0))) ∧ (w'.heap[gb257]? = some (.cells #[.string t253, .int .i64 t254, .int .i64 t255] 29 (0, 0))) ∧ (w'.heap[s_]? = some (.cells #[.string (⟨#[]⟩ : ByteArray), .int .i64 0, .int .i64 0] 29 (0, 0))) ∧ (w.heap.size ≤ s_) ∧ (w.heap.size ≤ s_) ∧ (gb241 ≠ s_) ∧ (s_ ≠ gb241) ∧ (gb242 ≠ s_) ∧ (s_ ≠ gb242) ∧ (gb257 ≠ s_) ∧ (s_ ≠ gb257) ∧ (Below w.heap.size w w')) ?_ ?_
   rotate_left
   ·intro hCont
    refine two_ (i := 2) (j := 9) (Ni := some 38) (Nj := some 11) (bm 12 15) (bm 12 523) rfl rfl rfl rfl (two_of HT_.out (by kernel_rfl)) (by decide) (by decide) (fun K hK => ?_) (fun K hK => ?_)
    ·skip
     refine goes_ Try.func11 (by kernel_rfl) rfl #[.agg #[.string a1_0, .int .i64 a1_1, .int .i64 a1_2]] (by rfl) rfl rfl m1_ ?_
     with_reducible refine (laws_toRecState.calls a1_0 a1_1 a1_2 t261 t262 t263 _ A22.out).mono ?_
     rintro e w46 ⟨rfl, hb⟩
     refine ⟨_, rfl, ?_⟩
     have n0_ := Aside0.mk (Kd.R_below m13_ hb)
     have n1_ := Aside0.mk (Kd.R_below m34_ hb)
     have n2_ := Aside0.mk (blk_below (g := gb241) (o := .cells #[.string a1_0, .int .i64 a1_1, .int .i64 a1_2] 24 (0, 0)) m2_ hb)
     have n3_ := Aside0.mk (blk_below (g := gb242) (o := .cells #[.int .i64 a2_0, .bool a2_1] 26 (0, 0)) m3_ hb)
     have n4_ := Aside0.mk (blk_below (g := gb257) (o := .cells #[.string t253, .int .i64 t254, .int .i64 t255] 29 (0, 0)) m10_ hb)
     have n5_ := Aside0.mk (below_step m4_ hb)
     clear HO247
     clear HO260
     clear BK241
     clear BK242
     clear BK257
     clear HB
     have HO247 := n0_
     have HO260 := n1_
     have BK241 := n2_
     have BK242 := n3_
     have BK257 := n4_
     have HB := n5_
     clear n0_ n1_ n2_ n3_ n4_ n5_
     (try clear hb)
     (try clear hb2)
     (try clear hk)
     (try clear hi)
     refine hK.out _ _ ⟨(blk_cell BK241.out 0).trans rfl, (blk_cell BK241.out 1).trans rfl, (blk_cell BK241.out 2).trans rfl, (blk_cell BK242.out 0).trans rfl, (blk_cell BK242.out 1).trans rfl⟩ (fun hHeld => ?_)
     clear hK K
     refine no_ ?_
     refine two_ (i := 4) (j := 9) (Ni := some 40) (Nj := some 11) (bm 12 31) (bm 12 527) rfl rfl rfl rfl (two_of HT_.out (by kernel_rfl)) (by decide) (by decide) (fun K hK => ?_) (fun K hK => ?_)
     ·skip
      refine goes_ Try.func12 (by kernel_rfl) rfl #[.agg #[.int .i64 a2_0, .bool a2_1]] (by rfl) rfl rfl m1_ ?_
      with_reducible refine (laws_toRecSay.calls a2_0 a2_1 t264 t265 _ A23.out).mono ?_
      rintro e w47 ⟨rfl, hb⟩
      refine ⟨_, rfl, ?_⟩
      have n0_ := Aside0.mk (Kd.R_below m13_ hb)
      have n1_ := Aside0.mk (Kd.R_below m34_ hb)
      have n2_ := Aside0.mk (blk_below (g := gb241) (o := .cells #[.string a1_0, .int .i64 a1_1, .int .i64 a1_2] 24 (0, 0)) m2_ hb)
      have n3_ := Aside0.mk (blk_below (g := gb242) (o := .cells #[.int .i64 a2_0, .bool a2_1] 26 (0, 0)) m3_ hb)
      have n4_ := Aside0.mk (blk_below (g := gb257) (o := .cells #[.string t253, .int .i64 t254, .int .i64 t255] 29 (0, 0)) m10_ hb)
      have n5_ := Aside0.mk (below_step m4_ hb)
      clear HO247
      clear HO260
      clear BK241
      clear BK242
      clear BK257
      clear HB
      have HO247 := n0_
      have HO260 := n1_
      have BK241 := n2_
      have BK242 := n3_
      have BK257 := n4_
      have HB := n5_
      clear n0_ n1_ n2_ n3_ n4_ n5_
      (try clear hb)
      (try clear hb2)
      (try clear hk)
      (try clear hi)
      refine hK.out _ _ ⟨(blk_cell BK241.out 0).trans rfl, (blk_cell BK241.out 1).trans rfl, (blk_cell BK241.out 2).trans rfl, (blk_cell BK242.out 0).trans rfl, (blk_cell BK242.out 1).trans rfl⟩ (fun hHeld => ?_)
      clear hK K
      refine no_ ?_
      refine two_ (i := 5) (j := 9) (Ni := some 41) (Nj := some 11) (bm 12 63) (bm 12 543) rfl rfl rfl rfl (two_of HT_.out (by kernel_rfl)) (by decide) (by decide) (fun K hK => ?_) (fun K hK => ?_)
      ·skip
       refine goes_ Try.func13 (by kernel_rfl) rfl #[.slice Ao44 t258.length co44, .agg #[.string t261, .int .i64 t262, .int .i64 t263], .agg #[.int .i64 t264, .bool t265]] (by rfl) rfl rfl m1_ ?_
       with_reducible refine (impl_RecGo.calls k _ _ t258 t261 t262 t263 t264 t265 t266 t267 t268 t269 _ ?side1 ?side2 A24.out).mono ?_
       (case side1 => exact m49_)
       (case side2 => exact (Kd.R_reads' HO260.out).2.1)
       rintro e w48 ⟨rfl, hb⟩
       refine ⟨_, rfl, ?_⟩
       have n0_ := Aside0.mk (Kd.R_below m13_ hb)
       have n1_ := Aside0.mk (Kd.R_below m34_ hb)
       have n2_ := Aside0.mk (blk_below (g := gb241) (o := .cells #[.string a1_0, .int .i64 a1_1, .int .i64 a1_2] 24 (0, 0)) m2_ hb)
       have n3_ := Aside0.mk (blk_below (g := gb242) (o := .cells #[.int .i64 a2_0, .bool a2_1] 26 (0, 0)) m3_ hb)
       have n4_ := Aside0.mk (blk_below (g := gb257) (o := .cells #[.string t253, .int .i64 t254, .int .i64 t255] 29 (0, 0)) m10_ hb)
       have n5_ := Aside0.mk (below_step m4_ hb)
       clear HO247
       clear HO260
       clear BK241
       clear BK242
       clear BK257
       clear HB
       have HO247 := n0_
       have HO260 := n1_
       have BK241 := n2_
       have BK242 := n3_
       have BK257 := n4_
       have HB := n5_
       clear n0_ n1_ n2_ n3_ n4_ n5_
       (try clear hb)
       (try clear hb2)
       (try clear hk)
       (try clear hi)
       refine hK.out _ _ ⟨(blk_cell BK241.out 0).trans rfl, (blk_cell BK241.out 1).trans rfl, (blk_cell BK241.out 2).trans rfl, (blk_cell BK242.out 0).trans rfl, (blk_cell BK242.out 1).trans rfl⟩ (fun hHeld => ?_)
       clear hK K
       refine no_ ?_
       refine pure_ (i := 6) (N := some 35) (v := ?_) (a' := ?_) (bm 12 127) rfl rfl (any_of HT_.out (by kernel_rfl)) (fun _ _ _ h => h) (Or.inl ⟨(by rfl), ?_⟩) ?_ ?_; rotate_left; intro w'; go_simp; with_reducible rfl; rotate_left; simp only [Act.put, List.setIfInBounds_toArray, List.set_cons_zero, List.set_cons_succ, i64_w, i32_w]; rfl
       refine pure_ (i := 7) (N := some 42) (v := ?_) (a' := ?_) (bm 12 255) rfl rfl (any_of HT_.out (by kernel_rfl)) (fun _ _ _ h => h) (Or.inl ⟨(by rfl), ?_⟩) ?_ ?_; rotate_left; intro w'; go_simp; with_reducible rfl; rotate_left; simp only [Act.put, List.setIfInBounds_toArray, List.set_cons_zero, List.set_cons_succ, i64_w, i32_w]; rfl
       refine pure_ (i := 8) (N := some 43) (v := ?_) (a' := ?_) (bm 12 511) rfl rfl (any_of HT_.out (by kernel_rfl)) (fun _ _ _ h => h) (Or.inl ⟨(by rfl), ?_⟩) ?_ ?_; rotate_left; intro w'; go_simp; with_reducible rfl; rotate_left; simp only [Act.put, List.setIfInBounds_toArray, List.set_cons_zero, List.set_cons_succ, i64_w, i32_w]; rfl
       refine one_ (i := 9) (N := some 11) (bm 12 1023) rfl rfl (one_of HT_.out (by kernel_rfl)) (by decide) (fun K hK => ?_)
       refine box_step ?hg (N := 11) ?hd (cs := #[.string (⟨#[]⟩ : ByteArray), .int .i64 0, .int .i64 0]) (t := 29) ?hr ?_; (case hd => rfl); (case hg => rfl); (case hr => first | (go_simp; done) | (go_simp; rfl))
       intro gb270 hg w49 hbox hb
       have n0_ := Aside0.mk (Kd.R_below m13_ hb)
       have n1_ := Aside0.mk (Kd.R_below m34_ hb)
       have n2_ := Aside0.mk (blk_below (g := gb241) (o := .cells #[.string a1_0, .int .i64 a1_1, .int .i64 a1_2] 24 (0, 0)) m2_ hb)
       have n3_ := Aside0.mk (blk_below (g := gb242) (o := .cells #[.int .i64 a2_0, .bool a2_1] 26 (0, 0)) m3_ hb)
       have n4_ := Aside0.mk (blk_below (g := gb257) (o := .cells #[.string t253, .int .i64 t254, .int .i64 t255] 29 (0, 0)) m10_ hb)
       have n5_ := Aside0.mk (below_step m4_ hb)
       have n6_ := Aside0.mk (hbox)
       have n7_ := Aside0.mk ((by rw [hg]; exact (below_size m4_) : w.heap.size ≤ gb270))
       have n8_ := Aside0.mk ((by rw [hg]; exact (below_size m4_) : w.heap.size ≤ gb270))
       have n9_ := Aside0.mk ((by rw [hg]; exact Nat.ne_of_lt (blk_lt (g := gb241) (o := .cells #[.string a1_0, .int .i64 a1_1, .int .i64 a1_2] 24 (0, 0)) m2_) : gb241 ≠ gb270))
       have n10_ := Aside0.mk ((by rw [hg]; exact Nat.ne_of_gt (blk_lt (g := gb241) (o := .cells #[.string a1_0, .int .i64 a1_1, .int .i64 a1_2] 24 (0, 0)) m2_) : gb270 ≠ gb241))
       have n11_ := Aside0.mk ((by rw [hg]; exact Nat.ne_of_lt (blk_lt (g := gb242) (o := .cells #[.int .i64 a2_0, .bool a2_1] 26 (0, 0)) m3_) : gb242 ≠ gb270))
       have n12_ := Aside0.mk ((by rw [hg]; exact Nat.ne_of_gt (blk_lt (g := gb242) (o := .cells #[.int .i64 a2_0, .bool a2_1] 26 (0, 0)) m3_) : gb270 ≠ gb242))
       have n13_ := Aside0.mk ((by rw [hg]; exact Nat.ne_of_lt (blk_lt (g := gb257) (o := .cells #[.string t253, .int .i64 t254, .int .i64 t255] 29 (0, 0)) m10_) : gb257 ≠ gb270))
       have n14_ := Aside0.mk ((by rw [hg]; exact Nat.ne_of_gt (blk_lt (g := gb257) (o := .cells #[.string t253, .int .i64 t254, .int .i64 t255] 29 (0, 0)) m10_) : gb270 ≠ gb257))
       clear HO247
       clear HO260
       clear BK241
       clear BK242
       clear BK257
       clear HB
       have HO247 := n0_
       have HO260 := n1_
       have BK241 := n2_
       have BK242 := n3_
       have BK257 := n4_
       have HB := n5_
       have BK270 := n6_
       have GW270 := n7_
       have GE270 := n8_
       have NB241_270 := n9_
       have NB270_241 := n10_
       have NB242_270 := n11_
       have NB270_242 := n12_
       have NB257_270 := n13_
       have NB270_257 := n14_
       clear n0_ n1_ n2_ n3_ n4_ n5_ n6_ n7_ n8_ n9_ n10_ n11_ n12_ n13_ n14_
       clear hb hbox hg
       refine hK.out _ _ ⟨(blk_cell BK241.out 0).trans rfl, (blk_cell BK241.out 1).trans rfl, (blk_cell BK241.out 2).trans rfl, (blk_cell BK242.out 0).trans rfl, (blk_cell BK242.out 1).trans rfl⟩ (fun hHeld => ?_)
       clear hK K
       refine no_ ?_
       exact norm_ m76_ (hCont (gb270) _ ⟨hHeld, m56_, m57_, m2_, m3_, m10_, m30_, GW270.out, GE270.out, NB241_270.out, NB270_241.out, NB242_270.out, NB270_242.out, NB257_270.out, NB270_257.out, m11_⟩)
      ·skip
       refine box_step ?hg (N := 11) ?hd (cs := #[.string (⟨#[]⟩ : ByteArray), .int .i64 0, .int .i64 0]) (t := 29) ?hr ?_; (case hd => rfl); (case hg => rfl); (case hr => first | (go_simp; done) | (go_simp; rfl))
       intro gb270 hg w48 hbox hb
       have n0_ := Aside0.mk (Kd.R_below m13_ hb)
       have n1_ := Aside0.mk (Kd.R_below m34_ hb)
       have n2_ := Aside0.mk (blk_below (g := gb241) (o := .cells #[.string a1_0, .int .i64 a1_1, .int .i64 a1_2] 24 (0, 0)) m2_ hb)
       have n3_ := Aside0.mk (blk_below (g := gb242) (o := .cells #[.int .i64 a2_0, .bool a2_1] 26 (0, 0)) m3_ hb)
       have n4_ := Aside0.mk (blk_below (g := gb257) (o := .cells #[.string t253, .int .i64 t254, .int .i64 t255] 29 (0, 0)) m10_ hb)
       have n5_ := Aside0.mk (below_step m4_ hb)
       have n6_ := Aside0.mk (hbox)
       have n7_ := Aside0.mk ((by rw [hg]; exact (below_size m4_) : w.heap.size ≤ gb270))
       have n8_ := Aside0.mk ((by rw [hg]; exact (below_size m4_) : w.heap.size ≤ gb270))
       have n9_ := Aside0.mk ((by rw [hg]; exact Nat.ne_of_lt (blk_lt (g := gb241) (o := .cells #[.string a1_0, .int .i64 a1_1, .int .i64 a1_2] 24 (0, 0)) m2_) : gb241 ≠ gb270))
       have n10_ := Aside0.mk ((by rw [hg]; exact Nat.ne_of_gt (blk_lt (g := gb241) (o := .cells #[.string a1_0, .int .i64 a1_1, .int .i64 a1_2] 24 (0, 0)) m2_) : gb270 ≠ gb241))
       have n11_ := Aside0.mk ((by rw [hg]; exact Nat.ne_of_lt (blk_lt (g := gb242) (o := .cells #[.int .i64 a2_0, .bool a2_1] 26 (0, 0)) m3_) : gb242 ≠ gb270))
       have n12_ := Aside0.mk ((by rw [hg]; exact Nat.ne_of_gt (blk_lt (g := gb242) (o := .cells #[.int .i64 a2_0, .bool a2_1] 26 (0, 0)) m3_) : gb270 ≠ gb242))
       have n13_ := Aside0.mk ((by rw [hg]; exact Nat.ne_of_lt (blk_lt (g := gb257) (o := .cells #[.string t253, .int .i64 t254, .int .i64 t255] 29 (0, 0)) m10_) : gb257 ≠ gb270))
       have n14_ := Aside0.mk ((by rw [hg]; exact Nat.ne_of_gt (blk_lt (g := gb257) (o := .cells #[.string t253, .int .i64 t254, .int .i64 t255] 29 (0, 0)) m10_) : gb270 ≠ gb257))
       clear HO247
       clear HO260
       clear BK241
       clear BK242
       clear BK257
       clear HB
       have HO247 := n0_
       have HO260 := n1_
       have BK241 := n2_
       have BK242 := n3_
       have BK257 := n4_
       have HB := n5_
       have BK270 := n6_
       have GW270 := n7_
       have GE270 := n8_
       have NB241_270 := n9_
       have NB270_241 := n10_
       have NB242_270 := n11_
       have NB270_242 := n12_
       have NB257_270 := n13_
       have NB270_257 := n14_
       clear n0_ n1_ n2_ n3_ n4_ n5_ n6_ n7_ n8_ n9_ n10_ n11_ n12_ n13_ n14_
       clear hb hbox hg
       refine hK.out _ _ ⟨(blk_cell BK241.out 0).trans rfl, (blk_cell BK241.out 1).trans rfl, (blk_cell BK241.out 2).trans rfl, (blk_cell BK242.out 0).trans rfl, (blk_cell BK242.out 1).trans rfl⟩ (fun hHeld => ?_)
       clear hK K
       refine no_ ?_
       refine one_ (i := 5) (N := some 41) (bm 12 575) rfl rfl (one_of HT_.out (by kernel_rfl)) (by decide) (fun K hK => ?_)
       refine goes_ Try.func13 (by kernel_rfl) rfl #[.slice Ao44 t258.length co44, .agg #[.string t261, .int .i64 t262, .int .i64 t263], .agg #[.int .i64 t264, .bool t265]] (by rfl) rfl rfl m1_ ?_
       with_reducible refine (impl_RecGo.calls k _ _ t258 t261 t262 t263 t264 t265 t266 t267 t268 t269 _ ?side1 ?side2 A24.out).mono ?_
       (case side1 => exact m49_)
       (case side2 => exact (Kd.R_reads' HO260.out).2.1)
       rintro e w49 ⟨rfl, hb⟩
       refine ⟨_, rfl, ?_⟩
       have n0_ := Aside0.mk (Kd.R_below m13_ hb)
       have n1_ := Aside0.mk (Kd.R_below m34_ hb)
       have n2_ := Aside0.mk (blk_below (g := gb241) (o := .cells #[.string a1_0, .int .i64 a1_1, .int .i64 a1_2] 24 (0, 0)) m2_ hb)
       have n3_ := Aside0.mk (blk_below (g := gb242) (o := .cells #[.int .i64 a2_0, .bool a2_1] 26 (0, 0)) m3_ hb)
       have n4_ := Aside0.mk (blk_below (g := gb257) (o := .cells #[.string t253, .int .i64 t254, .int .i64 t255] 29 (0, 0)) m10_ hb)
       have n5_ := Aside0.mk (blk_below (g := gb270) (o := .cells #[.string (⟨#[]⟩ : ByteArray), .int .i64 0, .int .i64 0] 29 (0, 0)) m30_ hb)
       have n6_ := Aside0.mk (below_step m11_ hb)
       clear HO247
       clear HO260
       clear BK241
       clear BK242
       clear BK257
       clear BK270
       clear HB
       have HO247 := n0_
       have HO260 := n1_
       have BK241 := n2_
       have BK242 := n3_
       have BK257 := n4_
       have BK270 := n5_
       have HB := n6_
       clear n0_ n1_ n2_ n3_ n4_ n5_ n6_
       (try clear hb)
       (try clear hb2)
       (try clear hk)
       (try clear hi)
       refine hK.out _ _ ⟨(blk_cell BK241.out 0).trans rfl, (blk_cell BK241.out 1).trans rfl, (blk_cell BK241.out 2).trans rfl, (blk_cell BK242.out 0).trans rfl, (blk_cell BK242.out 1).trans rfl⟩ (fun hHeld => ?_)
       clear hK K
       refine no_ ?_
       refine pure_ (i := 6) (N := some 35) (v := ?_) (a' := ?_) (bm 12 639) rfl rfl (any_of HT_.out (by kernel_rfl)) (fun _ _ _ h => h) (Or.inl ⟨(by rfl), ?_⟩) ?_ ?_; rotate_left; intro w'; go_simp; with_reducible rfl; rotate_left; simp only [Act.put, List.setIfInBounds_toArray, List.set_cons_zero, List.set_cons_succ, i64_w, i32_w]; rfl
       refine pure_ (i := 7) (N := some 42) (v := ?_) (a' := ?_) (bm 12 767) rfl rfl (any_of HT_.out (by kernel_rfl)) (fun _ _ _ h => h) (Or.inl ⟨(by rfl), ?_⟩) ?_ ?_; rotate_left; intro w'; go_simp; with_reducible rfl; rotate_left; simp only [Act.put, List.setIfInBounds_toArray, List.set_cons_zero, List.set_cons_succ, i64_w, i32_w]; rfl
       refine pure_ (i := 8) (N := some 43) (v := ?_) (a' := ?_) (bm 12 1023) rfl rfl (any_of HT_.out (by kernel_rfl)) (fun _ _ _ h => h) (Or.inl ⟨(by rfl), ?_⟩) ?_ ?_; rotate_left; intro w'; go_simp; with_reducible rfl; rotate_left; simp only [Act.put, List.setIfInBounds_toArray, List.set_cons_zero, List.set_cons_succ, i64_w, i32_w]; rfl
       exact norm_ m76_ (hCont (gb270) _ ⟨hHeld, m56_, m57_, m2_, m3_, m10_, m30_, GW270.out, GE270.out, NB241_270.out, NB270_241.out, NB242_270.out, NB270_242.out, NB257_270.out, NB270_257.out, m11_⟩)
     ·skip
      refine box_step ?hg (N := 11) ?hd (cs := #[.string (⟨#[]⟩ : ByteArray), .int .i64 0, .int .i64 0]) (t := 29) ?hr ?_; (case hd => rfl); (case hg => rfl); (case hr => first | (go_simp; done) | (go_simp; rfl))
      intro gb270 hg w47 hbox hb
      have n0_ := Aside0.mk (Kd.R_below m13_ hb)
      have n1_ := Aside0.mk (Kd.R_below m34_ hb)
      have n2_ := Aside0.mk (blk_below (g := gb241) (o := .cells #[.string a1_0, .int .i64 a1_1, .int .i64 a1_2] 24 (0, 0)) m2_ hb)
      have n3_ := Aside0.mk (blk_below (g := gb242) (o := .cells #[.int .i64 a2_0, .bool a2_1] 26 (0, 0)) m3_ hb)
      have n4_ := Aside0.mk (blk_below (g := gb257) (o := .cells #[.string t253, .int .i64 t254, .int .i64 t255] 29 (0, 0)) m10_ hb)
      have n5_ := Aside0.mk (below_step m4_ hb)
      have n6_ := Aside0.mk (hbox)
      have n7_ := Aside0.mk ((by rw [hg]; exact (below_size m4_) : w.heap.size ≤ gb270))
      have n8_ := Aside0.mk ((by rw [hg]; exact (below_size m4_) : w.heap.size ≤ gb270))
      have n9_ := Aside0.mk ((by rw [hg]; exact Nat.ne_of_lt (blk_lt (g := gb241) (o := .cells #[.string a1_0, .int .i64 a1_1, .int .i64 a1_2] 24 (0, 0)) m2_) : gb241 ≠ gb270))
      have n10_ := Aside0.mk ((by rw [hg]; exact Nat.ne_of_gt (blk_lt (g := gb241) (o := .cells #[.string a1_0, .int .i64 a1_1, .int .i64 a1_2] 24 (0, 0)) m2_) : gb270 ≠ gb241))
      have n11_ := Aside0.mk ((by rw [hg]; exact Nat.ne_of_lt (blk_lt (g := gb242) (o := .cells #[.int .i64 a2_0, .bool a2_1] 26 (0, 0)) m3_) : gb242 ≠ gb270))
      have n12_ := Aside0.mk ((by rw [hg]; exact Nat.ne_of_gt (blk_lt (g := gb242) (o := .cells #[.int .i64 a2_0, .bool a2_1] 26 (0, 0)) m3_) : gb270 ≠ gb242))
      have n13_ := Aside0.mk ((by rw [hg]; exact Nat.ne_of_lt (blk_lt (g := gb257) (o := .cells #[.string t253, .int .i64 t254, .int .i64 t255] 29 (0, 0)) m10_) : gb257 ≠ gb270))
      have n14_ := Aside0.mk ((by rw [hg]; exact Nat.ne_of_gt (blk_lt (g := gb257) (o := .cells #[.string t253, .int .i64 t254, .int .i64 t255] 29 (0, 0)) m10_) : gb270 ≠ gb257))
      clear HO247
      clear HO260
      clear BK241
      clear BK242
      clear BK257
      clear HB
      have HO247 := n0_
      have HO260 := n1_
      have BK241 := n2_
      have BK242 := n3_
      have BK257 := n4_
      have HB := n5_
      have BK270 := n6_
      have GW270 := n7_
      have GE270 := n8_
      have NB241_270 := n9_
      have NB270_241 := n10_
      have NB242_270 := n11_
      have NB270_242 := n12_
      have NB257_270 := n13_
      have NB270_257 := n14_
      clear n0_ n1_ n2_ n3_ n4_ n5_ n6_ n7_ n8_ n9_ n10_ n11_ n12_ n13_ n14_
      clear hb hbox hg
      refine hK.out _ _ ⟨(blk_cell BK241.out 0).trans rfl, (blk_cell BK241.out 1).trans rfl, (blk_cell BK241.out 2).trans rfl, (blk_cell BK242.out 0).trans rfl, (blk_cell BK242.out 1).trans rfl⟩ (fun hHeld => ?_)
      clear hK K
      refine no_ ?_
      refine one_ (i := 4) (N := some 40) (bm 12 543) rfl rfl (one_of HT_.out (by kernel_rfl)) (by decide) (fun K hK => ?_)
      refine goes_ Try.func12 (by kernel_rfl) rfl #[.agg #[.int .i64 a2_0, .bool a2_1]] (by rfl) rfl rfl m1_ ?_
      with_reducible refine (laws_toRecSay.calls a2_0 a2_1 t264 t265 _ A23.out).mono ?_
      rintro e w48 ⟨rfl, hb⟩
      refine ⟨_, rfl, ?_⟩
      have n0_ := Aside0.mk (Kd.R_below m13_ hb)
      have n1_ := Aside0.mk (Kd.R_below m34_ hb)
      have n2_ := Aside0.mk (blk_below (g := gb241) (o := .cells #[.string a1_0, .int .i64 a1_1, .int .i64 a1_2] 24 (0, 0)) m2_ hb)
      have n3_ := Aside0.mk (blk_below (g := gb242) (o := .cells #[.int .i64 a2_0, .bool a2_1] 26 (0, 0)) m3_ hb)
      have n4_ := Aside0.mk (blk_below (g := gb257) (o := .cells #[.string t253, .int .i64 t254, .int .i64 t255] 29 (0, 0)) m10_ hb)
      have n5_ := Aside0.mk (blk_below (g := gb270) (o := .cells #[.string (⟨#[]⟩ : ByteArray), .int .i64 0, .int .i64 0] 29 (0, 0)) m30_ hb)
      have n6_ := Aside0.mk (below_step m11_ hb)
      clear HO247
      clear HO260
      clear BK241
      clear BK242
      clear BK257
      clear BK270
      clear HB
      have HO247 := n0_
      have HO260 := n1_
      have BK241 := n2_
      have BK242 := n3_
      have BK257 := n4_
      have BK270 := n5_
      have HB := n6_
      clear n0_ n1_ n2_ n3_ n4_ n5_ n6_
      (try clear hb)
      (try clear hb2)
      (try clear hk)
      (try clear hi)
      refine hK.out _ _ ⟨(blk_cell BK241.out 0).trans rfl, (blk_cell BK241.out 1).trans rfl, (blk_cell BK241.out 2).trans rfl, (blk_cell BK242.out 0).trans rfl, (blk_cell BK242.out 1).trans rfl⟩ (fun hHeld => ?_)
      clear hK K
      refine no_ ?_
      refine one_ (i := 5) (N := some 41) (bm 12 575) rfl rfl (one_of HT_.out (by kernel_rfl)) (by decide) (fun K hK => ?_)
      refine goes_ Try.func13 (by kernel_rfl) rfl #[.slice Ao44 t258.length co44, .agg #[.string t261, .int .i64 t262, .int .i64 t263], .agg #[.int .i64 t264, .bool t265]] (by rfl) rfl rfl m1_ ?_
      with_reducible refine (impl_RecGo.calls k _ _ t258 t261 t262 t263 t264 t265 t266 t267 t268 t269 _ ?side1 ?side2 A24.out).mono ?_
      (case side1 => exact m49_)
      (case side2 => exact (Kd.R_reads' HO260.out).2.1)
      rintro e w49 ⟨rfl, hb⟩
      refine ⟨_, rfl, ?_⟩
      have n0_ := Aside0.mk (Kd.R_below m13_ hb)
      have n1_ := Aside0.mk (Kd.R_below m34_ hb)
      have n2_ := Aside0.mk (blk_below (g := gb241) (o := .cells #[.string a1_0, .int .i64 a1_1, .int .i64 a1_2] 24 (0, 0)) m2_ hb)
      have n3_ := Aside0.mk (blk_below (g := gb242) (o := .cells #[.int .i64 a2_0, .bool a2_1] 26 (0, 0)) m3_ hb)
      have n4_ := Aside0.mk (blk_below (g := gb257) (o := .cells #[.string t253, .int .i64 t254, .int .i64 t255] 29 (0, 0)) m10_ hb)
      have n5_ := Aside0.mk (blk_below (g := gb270) (o := .cells #[.string (⟨#[]⟩ : ByteArray), .int .i64 0, .int .i64 0] 29 (0, 0)) m30_ hb)
      have n6_ := Aside0.mk (below_step m11_ hb)
      clear HO247
      clear HO260
      clear BK241
      clear BK242
      clear BK257
      clear BK270
      clear HB
      have HO247 := n0_
      have HO260 := n1_
      have BK241 := n2_
      have BK242 := n3_
      have BK257 := n4_
      have BK270 := n5_
      have HB := n6_
      clear n0_ n1_ n2_ n3_ n4_ n5_ n6_
      (try clear hb)
      (try clear hb2)
      (try clear hk)
      (try clear hi)
      refine hK.out _ _ ⟨(blk_cell BK241.out 0).trans rfl, (blk_cell BK241.out 1).trans rfl, (blk_cell BK241.out 2).trans rfl, (blk_cell BK242.out 0).trans rfl, (blk_cell BK242.out 1).trans rfl⟩ (fun hHeld => ?_)
      clear hK K
      refine no_ ?_
      refine pure_ (i := 6) (N := some 35) (v := ?_) (a' := ?_) (bm 12 639) rfl rfl (any_of HT_.out (by kernel_rfl)) (fun _ _ _ h => h) (Or.inl ⟨(by rfl), ?_⟩) ?_ ?_; rotate_left; intro w'; go_simp; with_reducible rfl; rotate_left; simp only [Act.put, List.setIfInBounds_toArray, List.set_cons_zero, List.set_cons_succ, i64_w, i32_w]; rfl
      refine pure_ (i := 7) (N := some 42) (v := ?_) (a' := ?_) (bm 12 767) rfl rfl (any_of HT_.out (by kernel_rfl)) (fun _ _ _ h => h) (Or.inl ⟨(by rfl), ?_⟩) ?_ ?_; rotate_left; intro w'; go_simp; with_reducible rfl; rotate_left; simp only [Act.put, List.setIfInBounds_toArray, List.set_cons_zero, List.set_cons_succ, i64_w, i32_w]; rfl
      refine pure_ (i := 8) (N := some 43) (v := ?_) (a' := ?_) (bm 12 1023) rfl rfl (any_of HT_.out (by kernel_rfl)) (fun _ _ _ h => h) (Or.inl ⟨(by rfl), ?_⟩) ?_ ?_; rotate_left; intro w'; go_simp; with_reducible rfl; rotate_left; simp only [Act.put, List.setIfInBounds_toArray, List.set_cons_zero, List.set_cons_succ, i64_w, i32_w]; rfl
      exact norm_ m76_ (hCont (gb270) _ ⟨hHeld, m56_, m57_, m2_, m3_, m10_, m30_, GW270.out, GE270.out, NB241_270.out, NB270_241.out, NB242_270.out, NB270_242.out, NB257_270.out, NB270_257.out, m11_⟩)
    ·skip
     refine box_step ?hg (N := 11) ?hd (cs := #[.string (⟨#[]⟩ : ByteArray), .int .i64 0, .int .i64 0]) (t := 29) ?hr ?_; (case hd => rfl); (case hg => rfl); (case hr => first | (go_simp; done) | (go_simp; rfl))
     intro gb270 hg w46 hbox hb
     have n0_ := Aside0.mk (Kd.R_below m13_ hb)
     have n1_ := Aside0.mk (Kd.R_below m34_ hb)
     have n2_ := Aside0.mk (blk_below (g := gb241) (o := .cells #[.string a1_0, .int .i64 a1_1, .int .i64 a1_2] 24 (0, 0)) m2_ hb)
     have n3_ := Aside0.mk (blk_below (g := gb242) (o := .cells #[.int .i64 a2_0, .bool a2_1] 26 (0, 0)) m3_ hb)
     have n4_ := Aside0.mk (blk_below (g := gb257) (o := .cells #[.string t253, .int .i64 t254, .int .i64 t255] 29 (0, 0)) m10_ hb)
     have n5_ := Aside0.mk (below_step m4_ hb)
     have n6_ := Aside0.mk (hbox)
     have n7_ := Aside0.mk ((by rw [hg]; exact (below_size m4_) : w.heap.size ≤ gb270))
     have n8_ := Aside0.mk ((by rw [hg]; exact (below_size m4_) : w.heap.size ≤ gb270))
     have n9_ := Aside0.mk ((by rw [hg]; exact Nat.ne_of_lt (blk_lt (g := gb241) (o := .cells #[.string a1_0, .int .i64 a1_1, .int .i64 a1_2] 24 (0, 0)) m2_) : gb241 ≠ gb270))
     have n10_ := Aside0.mk ((by rw [hg]; exact Nat.ne_of_gt (blk_lt (g := gb241) (o := .cells #[.string a1_0, .int .i64 a1_1, .int .i64 a1_2] 24 (0, 0)) m2_) : gb270 ≠ gb241))
     have n11_ := Aside0.mk ((by rw [hg]; exact Nat.ne_of_lt (blk_lt (g := gb242) (o := .cells #[.int .i64 a2_0, .bool a2_1] 26 (0, 0)) m3_) : gb242 ≠ gb270))
     have n12_ := Aside0.mk ((by rw [hg]; exact Nat.ne_of_gt (blk_lt (g := gb242) (o := .cells #[.int .i64 a2_0, .bool a2_1] 26 (0, 0)) m3_) : gb270 ≠ gb242))
     have n13_ := Aside0.mk ((by rw [hg]; exact Nat.ne_of_lt (blk_lt (g := gb257) (o := .cells #[.string t253, .int .i64 t254, .int .i64 t255] 29 (0, 0)) m10_) : gb257 ≠ gb270))
     have n14_ := Aside0.mk ((by rw [hg]; exact Nat.ne_of_gt (blk_lt (g := gb257) (o := .cells #[.string t253, .int .i64 t254, .int .i64 t255] 29 (0, 0)) m10_) : gb270 ≠ gb257))
     clear HO247
     clear HO260
     clear BK241
     clear BK242
     clear BK257
     clear HB
     have HO247 := n0_
     have HO260 := n1_
     have BK241 := n2_
     have BK242 := n3_
     have BK257 := n4_
     have HB := n5_
     have BK270 := n6_
     have GW270 := n7_
     have GE270 := n8_
     have NB241_270 := n9_
     have NB270_241 := n10_
     have NB242_270 := n11_
     have NB270_242 := n12_
     have NB257_270 := n13_
     have NB270_257 := n14_
     clear n0_ n1_ n2_ n3_ n4_ n5_ n6_ n7_ n8_ n9_ n10_ n11_ n12_ n13_ n14_
     clear hb hbox hg
     refine hK.out _ _ ⟨(blk_cell BK241.out 0).trans rfl, (blk_cell BK241.out 1).trans rfl, (blk_cell BK241.out 2).trans rfl, (blk_cell BK242.out 0).trans rfl, (blk_cell BK242.out 1).trans rfl⟩ (fun hHeld => ?_)
     clear hK K
     refine no_ ?_
     refine one_ (i := 2) (N := some 38) (bm 12 527) rfl rfl (one_of HT_.out (by kernel_rfl)) (by decide) (fun K hK => ?_)
     refine goes_ Try.func11 (by kernel_rfl) rfl #[.agg #[.string a1_0, .int .i64 a1_1, .int .i64 a1_2]] (by rfl) rfl rfl m1_ ?_
     with_reducible refine (laws_toRecState.calls a1_0 a1_1 a1_2 t261 t262 t263 _ A22.out).mono ?_
     rintro e w47 ⟨rfl, hb⟩
     refine ⟨_, rfl, ?_⟩
     have n0_ := Aside0.mk (Kd.R_below m13_ hb)
     have n1_ := Aside0.mk (Kd.R_below m34_ hb)
     have n2_ := Aside0.mk (blk_below (g := gb241) (o := .cells #[.string a1_0, .int .i64 a1_1, .int .i64 a1_2] 24 (0, 0)) m2_ hb)
     have n3_ := Aside0.mk (blk_below (g := gb242) (o := .cells #[.int .i64 a2_0, .bool a2_1] 26 (0, 0)) m3_ hb)
     have n4_ := Aside0.mk (blk_below (g := gb257) (o := .cells #[.string t253, .int .i64 t254, .int .i64 t255] 29 (0, 0)) m10_ hb)
     have n5_ := Aside0.mk (blk_below (g := gb270) (o := .cells #[.string (⟨#[]⟩ : ByteArray), .int .i64 0, .int .i64 0] 29 (0, 0)) m30_ hb)
     have n6_ := Aside0.mk (below_step m11_ hb)
     clear HO247
     clear HO260
     clear BK241
     clear BK242
     clear BK257
     clear BK270
     clear HB
     have HO247 := n0_
     have HO260 := n1_
     have BK241 := n2_
     have BK242 := n3_
     have BK257 := n4_
     have BK270 := n5_
     have HB := n6_
     clear n0_ n1_ n2_ n3_ n4_ n5_ n6_
     (try clear hb)
     (try clear hb2)
     (try clear hk)
     (try clear hi)
     refine hK.out _ _ ⟨(blk_cell BK241.out 0).trans rfl, (blk_cell BK241.out 1).trans rfl, (blk_cell BK241.out 2).trans rfl, (blk_cell BK242.out 0).trans rfl, (blk_cell BK242.out 1).trans rfl⟩ (fun hHeld => ?_)
     clear hK K
     refine no_ ?_
     refine one_ (i := 4) (N := some 40) (bm 12 543) rfl rfl (one_of HT_.out (by kernel_rfl)) (by decide) (fun K hK => ?_)
     refine goes_ Try.func12 (by kernel_rfl) rfl #[.agg #[.int .i64 a2_0, .bool a2_1]] (by rfl) rfl rfl m1_ ?_
     with_reducible refine (laws_toRecSay.calls a2_0 a2_1 t264 t265 _ A23.out).mono ?_
     rintro e w48 ⟨rfl, hb⟩
     refine ⟨_, rfl, ?_⟩
     have n0_ := Aside0.mk (Kd.R_below m13_ hb)
     have n1_ := Aside0.mk (Kd.R_below m34_ hb)
     have n2_ := Aside0.mk (blk_below (g := gb241) (o := .cells #[.string a1_0, .int .i64 a1_1, .int .i64 a1_2] 24 (0, 0)) m2_ hb)
     have n3_ := Aside0.mk (blk_below (g := gb242) (o := .cells #[.int .i64 a2_0, .bool a2_1] 26 (0, 0)) m3_ hb)
     have n4_ := Aside0.mk (blk_below (g := gb257) (o := .cells #[.string t253, .int .i64 t254, .int .i64 t255] 29 (0, 0)) m10_ hb)
     have n5_ := Aside0.mk (blk_below (g := gb270) (o := .cells #[.string (⟨#[]⟩ : ByteArray), .int .i64 0, .int .i64 0] 29 (0, 0)) m30_ hb)
     have n6_ := Aside0.mk (below_step m11_ hb)
     clear HO247
     clear HO260
     clear BK241
     clear BK242
     clear BK257
     clear BK270
     clear HB
     have HO247 := n0_
     have HO260 := n1_
     have BK241 := n2_
     have BK242 := n3_
     have BK257 := n4_
     have BK270 := n5_
     have HB := n6_
     clear n0_ n1_ n2_ n3_ n4_ n5_ n6_
     (try clear hb)
     (try clear hb2)
     (try clear hk)
     (try clear hi)
     refine hK.out _ _ ⟨(blk_cell BK241.out 0).trans rfl, (blk_cell BK241.out 1).trans rfl, (blk_cell BK241.out 2).trans rfl, (blk_cell BK242.out 0).trans rfl, (blk_cell BK242.out 1).trans rfl⟩ (fun hHeld => ?_)
     clear hK K
     refine no_ ?_
     refine one_ (i := 5) (N := some 41) (bm 12 575) rfl rfl (one_of HT_.out (by kernel_rfl)) (by decide) (fun K hK => ?_)
     refine goes_ Try.func13 (by kernel_rfl) rfl #[.slice Ao44 t258.length co44, .agg #[.string t261, .int .i64 t262, .int .i64 t263], .agg #[.int .i64 t264, .bool t265]] (by rfl) rfl rfl m1_ ?_
     with_reducible refine (impl_RecGo.calls k _ _ t258 t261 t262 t263 t264 t265 t266 t267 t268 t269 _ ?side1 ?side2 A24.out).mono ?_
     (case side1 => exact m49_)
     (case side2 => exact (Kd.R_reads' HO260.out).2.1)
     rintro e w49 ⟨rfl, hb⟩
     refine ⟨_, rfl, ?_⟩
     have n0_ := Aside0.mk (Kd.R_below m13_ hb)
     have n1_ := Aside0.mk (Kd.R_below m34_ hb)
     have n2_ := Aside0.mk (blk_below (g := gb241) (o := .cells #[.string a1_0, .int .i64 a1_1, .int .i64 a1_2] 24 (0, 0)) m2_ hb)
     have n3_ := Aside0.mk (blk_below (g := gb242) (o := .cells #[.int .i64 a2_0, .bool a2_1] 26 (0, 0)) m3_ hb)
     have n4_ := Aside0.mk (blk_below (g := gb257) (o := .cells #[.string t253, .int .i64 t254, .int .i64 t255] 29 (0, 0)) m10_ hb)
     have n5_ := Aside0.mk (blk_below (g := gb270) (o := .cells #[.string (⟨#[]⟩ : ByteArray), .int .i64 0, .int .i64 0] 29 (0, 0)) m30_ hb)
     have n6_ := Aside0.mk (below_step m11_ hb)
     clear HO247
     clear HO260
     clear BK241
     clear BK242
     clear BK257
     clear BK270
     clear HB
     have HO247 := n0_
     have HO260 := n1_
     have BK241 := n2_
     have BK242 := n3_
     have BK257 := n4_
     have BK270 := n5_
     have HB := n6_
     clear n0_ n1_ n2_ n3_ n4_ n5_ n6_
     (try clear hb)
     (try clear hb2)
     (try clear hk)
     (try clear hi)
     refine hK.out _ _ ⟨(blk_cell BK241.out 0).trans rfl, (blk_cell BK241.out 1).trans rfl, (blk_cell BK241.out 2).trans rfl, (blk_cell BK242.out 0).trans rfl, (blk_cell BK242.out 1).trans rfl⟩ (fun hHeld => ?_)
     clear hK K
     refine no_ ?_
     refine pure_ (i := 6) (N := some 35) (v := ?_) (a' := ?_) (bm 12 639) rfl rfl (any_of HT_.out (by kernel_rfl)) (fun _ _ _ h => h) (Or.inl ⟨(by rfl), ?_⟩) ?_ ?_; rotate_left; intro w'; go_simp; with_reducible rfl; rotate_left; simp only [Act.put, List.setIfInBounds_toArray, List.set_cons_zero, List.set_cons_succ, i64_w, i32_w]; rfl
     refine pure_ (i := 7) (N := some 42) (v := ?_) (a' := ?_) (bm 12 767) rfl rfl (any_of HT_.out (by kernel_rfl)) (fun _ _ _ h => h) (Or.inl ⟨(by rfl), ?_⟩) ?_ ?_; rotate_left; intro w'; go_simp; with_reducible rfl; rotate_left; simp only [Act.put, List.setIfInBounds_toArray, List.set_cons_zero, List.set_cons_succ, i64_w, i32_w]; rfl
     refine pure_ (i := 8) (N := some 43) (v := ?_) (a' := ?_) (bm 12 1023) rfl rfl (any_of HT_.out (by kernel_rfl)) (fun _ _ _ h => h) (Or.inl ⟨(by rfl), ?_⟩) ?_ ?_; rotate_left; intro w'; go_simp; with_reducible rfl; rotate_left; simp only [Act.put, List.setIfInBounds_toArray, List.set_cons_zero, List.set_cons_succ, i64_w, i32_w]; rfl
     exact norm_ m76_ (hCont (gb270) _ ⟨hHeld, m56_, m57_, m2_, m3_, m10_, m30_, GW270.out, GE270.out, NB241_270.out, NB270_241.out, NB242_270.out, NB270_242.out, NB257_270.out, NB270_257.out, m11_⟩)
   rintro gb270 w50 ⟨hS_, h0_, h1_, h2_, h3_, h4_, h5_, h6_, h7_, h8_, h9_, h10_, h11_, h12_, h13_, h14_⟩
   have n0_ : Aside0 (Kd.R k44 44 w50 w.heap.size (fun k_ => some k_ ≠ (.slice Ao44 t258.length co44 : Value).ownBlock) v246 t245) := ⟨h0_⟩
   have n1_ : Aside0 (Kd.R k44 44 w50 w.heap.size (fun k_ => some k_ ≠ (v246 : Value).ownBlock) (.slice Ao44 t258.length co44) t258) := ⟨h1_⟩
   have n2_ : Aside0 (w50.heap[gb241]? = some (.cells #[.string a1_0, .int .i64 a1_1, .int .i64 a1_2] 24 (0, 0))) := ⟨h2_⟩
   have n3_ : Aside0 (w50.heap[gb242]? = some (.cells #[.int .i64 a2_0, .bool a2_1] 26 (0, 0))) := ⟨h3_⟩
   have n4_ : Aside0 (w50.heap[gb257]? = some (.cells #[.string t253, .int .i64 t254, .int .i64 t255] 29 (0, 0))) := ⟨h4_⟩
   have n5_ : Aside0 (w50.heap[gb270]? = some (.cells #[.string (⟨#[]⟩ : ByteArray), .int .i64 0, .int .i64 0] 29 (0, 0))) := ⟨h5_⟩
   have n6_ : Aside0 (w.heap.size ≤ gb270) := ⟨h6_⟩
   have n7_ : Aside0 (w.heap.size ≤ gb270) := ⟨h7_⟩
   have n8_ : Aside0 (gb241 ≠ gb270) := ⟨h8_⟩
   have n9_ : Aside0 (gb270 ≠ gb241) := ⟨h9_⟩
   have n10_ : Aside0 (gb242 ≠ gb270) := ⟨h10_⟩
   have n11_ : Aside0 (gb270 ≠ gb242) := ⟨h11_⟩
   have n12_ : Aside0 (gb257 ≠ gb270) := ⟨h12_⟩
   have n13_ : Aside0 (gb270 ≠ gb257) := ⟨h13_⟩
   have n14_ : Aside0 (Below w.heap.size w w50) := ⟨h14_⟩
   clear HO247
   clear HO260
   clear BK241
   clear BK242
   clear BK257
   clear HB
   clear h0_ h1_ h2_ h3_ h4_ h5_ h6_ h7_ h8_ h9_ h10_ h11_ h12_ h13_ h14_
   have HO247 := n0_
   have HO260 := n1_
   have BK241 := n2_
   have BK242 := n3_
   have BK257 := n4_
   have BK270 := n5_
   have GW270 := n6_
   have GE270 := n7_
   have NB241_270 := n8_
   have NB270_241 := n9_
   have NB242_270 := n10_
   have NB270_242 := n11_
   have NB257_270 := n12_
   have NB270_257 := n13_
   have HB := n14_
   clear n0_ n1_ n2_ n3_ n4_ n5_ n6_ n7_ n8_ n9_ n10_ n11_ n12_ n13_ n14_
   have hHeld : w50.cell? ⟨gb241, 0, none⟩ = some (.string a1_0) ∧ w50.cell? ⟨gb241, 1, none⟩ = some (.int .i64 a1_1) ∧ w50.cell? ⟨gb241, 2, none⟩ = some (.int .i64 a1_2) ∧ w50.cell? ⟨gb242, 0, none⟩ = some (.int .i64 a2_0) ∧ w50.cell? ⟨gb242, 1, none⟩ = some (.bool a2_1) := hS_
   refine norm_ (a' := ?_) ?_ ?_
   rotate_left
   ·simp only [putAll, Act.put, List.setIfInBounds_toArray, List.set_cons_zero, List.set_cons_succ]
    rfl
   refine one_ (i := 10) (N := none) (bm 12 2047) rfl rfl (one_of HT_.out (by kernel_rfl)) (by decide) (fun K hK => ?_)
   have hs51 : w50.cell? ⟨gb270, 0, none⟩ = some (.string (⟨#[]⟩ : ByteArray)) := (blk_cell BK270.out 0).trans rfl
   have hfs51 := blk_frozen BK270.out 0
   have hns51_0 := NB241_270.out
   have hns51_1 := NB242_270.out
   have hns51_2 := NB257_270.out
   have hms51_0 := NB270_241.out
   have hms51_1 := NB270_242.out
   have hms51_2 := NB270_257.out
   have hs52 : w50.cell? ⟨gb270, 1, none⟩ = some (.int .i64 0) := (blk_cell BK270.out 1).trans rfl
   have hfs52 := blk_frozen BK270.out 1
   have hns52_0 := NB241_270.out
   have hns52_1 := NB242_270.out
   have hns52_2 := NB257_270.out
   have hms52_0 := NB270_241.out
   have hms52_1 := NB270_242.out
   have hms52_2 := NB270_257.out
   have hs53 : w50.cell? ⟨gb270, 2, none⟩ = some (.int .i64 0) := (blk_cell BK270.out 2).trans rfl
   have hfs53 := blk_frozen BK270.out 2
   have hns53_0 := NB241_270.out
   have hns53_1 := NB242_270.out
   have hns53_2 := NB257_270.out
   have hms53_0 := NB270_241.out
   have hms53_1 := NB270_242.out
   have hms53_2 := NB270_257.out
   refine skip_ (w1 := ?_) (by rfl) rfl ?_ ?_
   rotate_left
   ·go_simp
    rfl
   refine hK.out _ _ ⟨((cell_far (p := ⟨gb270, _, none⟩) NB241_270.out _).trans (((cell_far (p := ⟨gb270, _, none⟩) NB241_270.out _).trans (((cell_far (p := ⟨gb270, _, none⟩) NB241_270.out _).trans (hHeld.1)))))), ((cell_far (p := ⟨gb270, _, none⟩) NB241_270.out _).trans (((cell_far (p := ⟨gb270, _, none⟩) NB241_270.out _).trans (((cell_far (p := ⟨gb270, _, none⟩) NB241_270.out _).trans (hHeld.2.1)))))), ((cell_far (p := ⟨gb270, _, none⟩) NB241_270.out _).trans (((cell_far (p := ⟨gb270, _, none⟩) NB241_270.out _).trans (((cell_far (p := ⟨gb270, _, none⟩) NB241_270.out _).trans (hHeld.2.2.1)))))), ((cell_far (p := ⟨gb270, _, none⟩) NB242_270.out _).trans (((cell_far (p := ⟨gb270, _, none⟩) NB242_270.out _).trans (((cell_far (p := ⟨gb270, _, none⟩) NB242_270.out _).trans (hHeld.2.2.2.1)))))), ((cell_far (p := ⟨gb270, _, none⟩) NB242_270.out _).trans (((cell_far (p := ⟨gb270, _, none⟩) NB242_270.out _).trans (((cell_far (p := ⟨gb270, _, none⟩) NB242_270.out _).trans (hHeld.2.2.2.2))))))⟩ (fun hHeld => ?_)
   clear hK K
   refine pure_ (i := 11) (N := some 12) (v := ?_) (a' := ?_) (bm 12 4095) rfl rfl (any_of HT_.out (by kernel_rfl)) (fun _ _ _ h => h) (Or.inl ⟨(by rfl), ?_⟩) ?_ ?_; rotate_left; intro w'; go_simp; with_reducible rfl; rotate_left; simp only [Act.put, List.setIfInBounds_toArray, List.set_cons_zero, List.set_cons_succ, i64_w, i32_w]; rfl
   refine done_ (done_of HT_.out (by kernel_rfl)) ?_
   go_upto_region 11 with (fail)
   go_cut [52] (fun v52 wc => ∃ (kq : Nat) (x52_24 : Bool), v52 = .bool x52_24 ∧ Aside0 (laws_FnExactRecGo.j0 kq l0 t258 x52_24 = some r) ∧ Aside0 (kq ≤ k) ∧ Aside0 (Kd.R k44 44 wc w.heap.size (fun _ => True) (.slice Ao44 t258.length co44) t258) ∧ Aside0 (wc.heap[gb241]? = some (.cells #[.string a1_0, .int .i64 a1_1, .int .i64 a1_2] 24 (0, 0))) ∧ Aside0 (wc.heap[gb242]? = some (.cells #[.int .i64 a2_0, .bool a2_1] 26 (0, 0))) ∧ Aside0 (wc.heap[gb257]? = some (.cells #[.string t253, .int .i64 t254, .int .i64 t255] 29 (0, 0))) ∧ Aside0 (wc.heap[gb270]? = some (.cells #[.string t266, .int .i64 t267, .int .i64 t268] 29 (0, 0))) ∧ Aside0 (Below w.heap.size w wc))
   case first =>
    have H := HC25.out
    clear HC25
    replace H := Option.bind_eq_some_iff.mp H
    obtain ⟨t271, A540, H⟩ := H
    replace H : (if t271 = true then (laws_FnExactRecGo.j0 k l0 t258 (t269 != t256)) else (laws_FnExactRecGo.j0 k l0 t258 true)) = some r := H
    have A54 := Aside0.mk A540
    clear A540
    by_cases c55 : t271 = true
    ·subst c55
     have H1 : (laws_FnExactRecGo.j0 k l0 t258 (t269 != t256)) = some r := by rw [if_pos rfl] at H; exact H
     clear H
     have H := H1
     clear H1
     have H' := Aside0.mk H
     clear H
     have hnb56 := NB270_241.out
     have hnc56 := NB241_270.out
     have hnb57 := NB270_242.out
     have hnc57 := NB242_270.out
     have hnb58 := NB270_257.out
     have hnc58 := NB257_270.out
     obtain ⟨hcz59_0, hcz59_1, hcz59_2⟩ := cz3_ BK270.out
     obtain ⟨hfz59_0, hfz59_1, hfz59_2⟩ := fz3_ BK270.out
     have hnb60 := NB257_241.out
     have hnc60 := NB241_257.out
     have hnb61 := NB257_242.out
     have hnc61 := NB242_257.out
     obtain ⟨hcz62_0, hcz62_1, hcz62_2⟩ := cz3_ BK257.out
     obtain ⟨hfz62_0, hfz62_1, hfz62_2⟩ := fz3_ BK257.out
     go_wp2_with (first | ((with_reducible refine gate_callee (f := 14) rfl ?_); refine goesL_ (some 46) rfl rfl Try.func14 (by kernel_rfl) rfl #[.agg #[.string t266, .int .i64 t267, .int .i64 t268], .agg #[.string t253, .int .i64 t254, .int .i64 t255]] rfl m1_ ?_; (with_reducible refine (laws_eqRecState.calls t266 t267 t268 t253 t254 t255 true _ A54.out).mono ?_); rintro e w63 ⟨rfl, hb⟩; refine ⟨_, rfl, ?_⟩; have n0_ := Aside0.mk (Kd.R_below m64_ hb); have n1_ := Aside0.mk (Kd.R_below m65_ hb); have n2_ := Aside0.mk (blk_below (g := gb241) (o := .cells #[.string a1_0, .int .i64 a1_1, .int .i64 a1_2] 24 (0, 0)) m50_ hb); have n3_ := Aside0.mk (blk_below (g := gb242) (o := .cells #[.int .i64 a2_0, .bool a2_1] 26 (0, 0)) m51_ hb); have n4_ := Aside0.mk (blk_below (g := gb257) (o := .cells #[.string t253, .int .i64 t254, .int .i64 t255] 29 (0, 0)) m52_ hb); have n5_ := Aside0.mk (blk_below (g := gb270) (o := .cells #[.string t266, .int .i64 t267, .int .i64 t268] 29 (0, 0)) m45_ hb); have n6_ := Aside0.mk (below_step m11_ hb); clear HO247; clear HO260; clear BK241; clear BK242; clear BK257; clear BK270; clear HB; have HO247 := n0_; have HO260 := n1_; have BK241 := n2_; have BK242 := n3_; have BK257 := n4_; have BK270 := n5_; have HB := n6_; clear n0_ n1_ n2_ n3_ n4_ n5_ n6_; (try clear hb); (try clear hb2); (try clear hk); (try clear hi)))
     go_meet
     case rel => exact ⟨_, ((t269 != t256)), m14_, H', ⟨m54_⟩, ⟨(by (with_reducible repeat (first | apply Kd.R_alloc | apply Kd.R_drewN | apply Kd.R_drew)); exact Kd.R_mono HO260.out (fun _ hk => trivial))⟩, ⟨m2_⟩, ⟨m3_⟩, ⟨m10_⟩, ⟨m30_⟩, ⟨m11_⟩⟩
    ·replace c55 := Bool.eq_false_iff.mpr c55
     subst c55
     have H1 : (laws_FnExactRecGo.j0 k l0 t258 true) = some r := by rw [if_neg (show ¬ (false = true) by decide)] at H; exact H
     clear H
     have H := H1
     clear H1
     have H' := Aside0.mk H
     clear H
     have hnb64 := NB270_241.out
     have hnc64 := NB241_270.out
     have hnb65 := NB270_242.out
     have hnc65 := NB242_270.out
     have hnb66 := NB270_257.out
     have hnc66 := NB257_270.out
     obtain ⟨hcz67_0, hcz67_1, hcz67_2⟩ := cz3_ BK270.out
     obtain ⟨hfz67_0, hfz67_1, hfz67_2⟩ := fz3_ BK270.out
     have hnb68 := NB257_241.out
     have hnc68 := NB241_257.out
     have hnb69 := NB257_242.out
     have hnc69 := NB242_257.out
     obtain ⟨hcz70_0, hcz70_1, hcz70_2⟩ := cz3_ BK257.out
     obtain ⟨hfz70_0, hfz70_1, hfz70_2⟩ := fz3_ BK257.out
     go_wp2_with (first | ((with_reducible refine gate_callee (f := 14) rfl ?_); refine goesL_ (some 46) rfl rfl Try.func14 (by kernel_rfl) rfl #[.agg #[.string t266, .int .i64 t267, .int .i64 t268], .agg #[.string t253, .int .i64 t254, .int .i64 t255]] rfl m1_ ?_; (with_reducible refine (laws_eqRecState.calls t266 t267 t268 t253 t254 t255 false _ A54.out).mono ?_); rintro e w71 ⟨rfl, hb⟩; refine ⟨_, rfl, ?_⟩; have n0_ := Aside0.mk (Kd.R_below m64_ hb); have n1_ := Aside0.mk (Kd.R_below m65_ hb); have n2_ := Aside0.mk (blk_below (g := gb241) (o := .cells #[.string a1_0, .int .i64 a1_1, .int .i64 a1_2] 24 (0, 0)) m50_ hb); have n3_ := Aside0.mk (blk_below (g := gb242) (o := .cells #[.int .i64 a2_0, .bool a2_1] 26 (0, 0)) m51_ hb); have n4_ := Aside0.mk (blk_below (g := gb257) (o := .cells #[.string t253, .int .i64 t254, .int .i64 t255] 29 (0, 0)) m52_ hb); have n5_ := Aside0.mk (blk_below (g := gb270) (o := .cells #[.string t266, .int .i64 t267, .int .i64 t268] 29 (0, 0)) m45_ hb); have n6_ := Aside0.mk (below_step m11_ hb); clear HO247; clear HO260; clear BK241; clear BK242; clear BK257; clear BK270; clear HB; have HO247 := n0_; have HO260 := n1_; have BK241 := n2_; have BK242 := n3_; have BK257 := n4_; have BK270 := n5_; have HB := n6_; clear n0_ n1_ n2_ n3_ n4_ n5_ n6_; (try clear hb); (try clear hb2); (try clear hk); (try clear hi)))
     go_meet
     case rel => exact ⟨_, (true), m14_, H', ⟨m54_⟩, ⟨(by (with_reducible repeat (first | apply Kd.R_alloc | apply Kd.R_drewN | apply Kd.R_drew)); exact Kd.R_mono HO260.out (fun _ hk => trivial))⟩, ⟨m2_⟩, ⟨m3_⟩, ⟨m10_⟩, ⟨m30_⟩, ⟨m11_⟩⟩
   case rest =>
    clear HC25
    try clear c1
    try clear p2
    try clear c5
    try clear c6
    try clear c11
    try clear c12
    try clear c13
    try clear c14
    try clear c55
    try clear c56
    try clear c57
    try clear c58
    try clear c60
    try clear c61
    try clear c64
    try clear c65
    try clear c66
    try clear c68
    try clear c69
    try clear hcz59_0
    try clear hcz59_1
    try clear hcz59_2
    try clear hcz62_0
    try clear hcz62_1
    try clear hcz62_2
    try clear hcz67_0
    try clear hcz67_1
    try clear hcz67_2
    try clear hcz70_0
    try clear hcz70_1
    try clear hcz70_2
    try clear hfz59_0
    try clear hfz59_1
    try clear hfz59_2
    try clear hfz62_0
    try clear hfz62_1
    try clear hfz62_2
    try clear hfz67_0
    try clear hfz67_1
    try clear hfz67_2
    try clear hfz70_0
    try clear hfz70_1
    try clear hfz70_2
    obtain ⟨kq, x52_24, rfl, HA, HJ24, HO_10, BK241, BK242, BK257, BK270, HB⟩ := hcut
    cases kq with
    | zero => exact absurd HA.out (by simp [laws_FnExactRecGo.j0])
    | succ kj24 =>
     have H := HA.out
     clear HA
     simp only [laws_FnExactRecGo.j0] at H
     refine (Classical.em (x52_24 = true)).elim (fun c72 => ?yes32) (fun c72 => ?no32)
     case' yes32 =>
      subst c72
      have H1 : (some false) = some r := by rw [if_pos rfl] at H; exact H
      clear H
      have H := H1
      clear H1
      obtain rfl := Option.some.inj H
     case' no32 =>
      replace c72 := Bool.eq_false_iff.mpr c72
      subst c72
      have H1 : ((laws_toRecPhaseS.f kj24 l0).bind fun t272 => ((laws_eqRecPhaseS.f kj24 t258 t272).bind fun t275 => (if t275 = true then (some true) else (some false)))) = some r := by rw [if_neg (show ¬ (false = true) by decide)] at H; exact H
      clear H
      have H := H1
      clear H1
      replace H := Option.bind_eq_some_iff.mp H
      obtain ⟨t272, A730, H⟩ := H
      replace H : ((laws_eqRecPhaseS.f kj24 t258 t272).bind fun t275 => (if t275 = true then (some true) else (some false))) = some r := H
      have A73 := Aside0.mk A730
      clear A730
      replace H := Option.bind_eq_some_iff.mp H
      obtain ⟨t275, A740, H⟩ := H
      replace H : (if t275 = true then (some true) else (some false)) = some r := H
      have A74 := Aside0.mk A740
      clear A740
      refine (Classical.em (t275 = true)).elim (fun c75 => ?yes33) (fun c75 => ?no33)
      case' yes33 =>
       subst c75
       have H1 : (some true) = some r := by rw [if_pos rfl] at H; exact H
       clear H
       have H := H1
       clear H1
       obtain rfl := Option.some.inj H
      case' no33 =>
       replace c75 := Bool.eq_false_iff.mpr c75
       subst c75
       have H1 : (some false) = some r := by rw [if_neg (show ¬ (false = true) by decide)] at H; exact H
       clear H
       have H := H1
       clear H1
       obtain rfl := Option.some.inj H
     all_goals
      first
       | (
        go_wp2
        go_ret
        exact ⟨m5_, m11_⟩)
       | (
        go_wp2_with (first | ((with_reducible refine gate_callee (f := 10) rfl ?_); refine goesL_ (some 55) rfl rfl Try.func10 (by kernel_rfl) rfl #[.slice A0 l0.length c0] rfl m1_ ?_; (with_reducible refine (laws_toRecPhaseS.calls kj24 _ _ l0 _ _ ?side1 ?side2 (Aside0.out (by assumption))).mono ?_); (case side1 => exact m9_); (case side2 => exact HC0.out); rintro e w76 ⟨v273, rfl, ho0, hb⟩; refine ⟨_, rfl, ?_⟩; have n0_ := Aside0.mk (Kd.R_elder' (by (with_reducible repeat (first | apply Kd.R_alloc | apply Kd.R_drewN | apply Kd.R_drew)); exact HO_10.out) (Kd.R_base ho0) hb); have n1_ := Aside0.mk (Kd.R_lower (Kd.R_new' ho0 (Kd.R_lt (by (with_reducible repeat (first | apply Kd.R_alloc | apply Kd.R_drewN | apply Kd.R_drew)); exact HO_10.out))) (below_size m11_)); have n2_ := Aside0.mk (blk_below (g := gb241) (o := .cells #[.string a1_0, .int .i64 a1_1, .int .i64 a1_2] 24 (0, 0)) m2_ hb); have n3_ := Aside0.mk (blk_below (g := gb242) (o := .cells #[.int .i64 a2_0, .bool a2_1] 26 (0, 0)) m3_ hb); have n4_ := Aside0.mk (blk_below (g := gb257) (o := .cells #[.string t253, .int .i64 t254, .int .i64 t255] 29 (0, 0)) m10_ hb); have n5_ := Aside0.mk (blk_below (g := gb270) (o := .cells #[.string t266, .int .i64 t267, .int .i64 t268] 29 (0, 0)) m30_ hb); have n6_ := Aside0.mk (below_step m11_ hb); clear HO_10; clear BK241; clear BK242; clear BK257; clear BK270; clear HB; have HO_10 := n0_; have HO274 := n1_; have BK241 := n2_; have BK242 := n3_; have BK257 := n4_; have BK270 := n5_; have HB := n6_; clear n0_ n1_ n2_ n3_ n4_ n5_ n6_; (try clear hb); (try clear hb2); (try clear hk); (try clear hi); (try clear ho0); obtain ⟨Ao77, co77, eo77⟩ := Kd.R_slice HO274.out; subst eo77) | ((with_reducible refine gate_callee (f := 15) rfl ?_); refine goesL_ (some 56) rfl rfl Try.func15 (by kernel_rfl) rfl #[.slice Ao44 t258.length co44, .slice Ao77 t272.length co77] rfl m1_ ?_; (with_reducible refine (laws_eqRecPhaseS.calls kj24 _ _ t258 _ _ t272 _ _ ?side1 ?side2 ?side3 ?side4 (Aside0.out (by assumption))).mono ?_); (case side1 => exact (by repeat (first | exact (Kd.R_reads' HO_10.out).2.2 | (with_reducible refine Kd.C_alloc ?_ _) | (with_reducible refine Kd.C_drewN ?_ _) | (with_reducible refine Kd.C_drew ?_)))); (case side2 => exact (Kd.R_reads' HO_10.out).2.1); (case side3 => exact (by repeat (first | exact (Kd.R_reads' HO274.out).2.2 | (with_reducible refine Kd.C_alloc ?_ _) | (with_reducible refine Kd.C_drewN ?_ _) | (with_reducible refine Kd.C_drew ?_)))); (case side4 => exact (Kd.R_reads' HO274.out).2.1); rintro e w78 ⟨rfl, hb⟩; refine ⟨_, rfl, ?_⟩; have n0_ := Aside0.mk (Kd.R_below (by (with_reducible repeat (first | apply Kd.R_alloc | apply Kd.R_drewN | apply Kd.R_drew)); exact HO_10.out) hb); have n1_ := Aside0.mk (Kd.R_below (by (with_reducible repeat (first | apply Kd.R_alloc | apply Kd.R_drewN | apply Kd.R_drew)); exact HO274.out) hb); have n2_ := Aside0.mk (blk_below (g := gb241) (o := .cells #[.string a1_0, .int .i64 a1_1, .int .i64 a1_2] 24 (0, 0)) m2_ hb); have n3_ := Aside0.mk (blk_below (g := gb242) (o := .cells #[.int .i64 a2_0, .bool a2_1] 26 (0, 0)) m3_ hb); have n4_ := Aside0.mk (blk_below (g := gb257) (o := .cells #[.string t253, .int .i64 t254, .int .i64 t255] 29 (0, 0)) m10_ hb); have n5_ := Aside0.mk (blk_below (g := gb270) (o := .cells #[.string t266, .int .i64 t267, .int .i64 t268] 29 (0, 0)) m30_ hb); have n6_ := Aside0.mk (below_step m11_ hb); clear HO_10; clear HO274; clear BK241; clear BK242; clear BK257; clear BK270; clear HB; have HO_10 := n0_; have HO274 := n1_; have BK241 := n2_; have BK242 := n3_; have BK257 := n4_; have BK270 := n5_; have HB := n6_; clear n0_ n1_ n2_ n3_ n4_ n5_ n6_; (try clear hb); (try clear hb2); (try clear hk); (try clear hi)))
        go_ret
        exact ⟨m5_, m11_⟩)

end Go.Proofs.Ytpihcdbkdldbcaa.QFnExactRecGo
