/- Laid by a program of this session: the texts of one law, joined, without what it does not come to. -/
import Derived.Test.YtpihcdbkdldbcaaZFnExactRecGo5
namespace Go.Proofs.Ytpihcdbkdldbcaa.QFnExactRecGo
open Go.RowKit Go.Proofs.YtpihcdbkdldbcaaW.PrintWords Go.Proofs.YtpihcdbkdldbcaaW.PrintLast Go.Proofs.YtpihcdbkdldbcaaW.PrintMore
attribute [local go_sem] str_geq str_gtr str_leq max2_int min2_int max_two min_two max_three min_three max_four min_four   -- for this text's walks alone
set_option linter.unusedVariables false
set_option linter.unusedSimpArgs false
/-! ### laws_eqRecState: function 14 -/
def laws_eqRecState.f (a0_0 : ByteArray) (a0_1 : Int) (a0_2 : Int) (a1_0 : ByteArray) (a1_1 : Int) (a1_2 : Int) : Option (Bool) := if a0_0.toList = a1_0.toList then (if a0_1 = a1_1 then (if a0_2 = a1_2 then (some true) else (some false)) else (some false)) else (some false)
set_option maxHeartbeats 8000000 in
set_option maxRecDepth 100000 in
theorem laws_eqRecState.calls (a0_0 : ByteArray) (a0_1 : Int) (a0_2 : Int) (a1_0 : ByteArray) (a1_1 : Int) (a1_2 : Int) (r : Bool) (w : World) (h : laws_eqRecState.f a0_0 a0_1 a0_2 a1_0 a1_1 a1_2 = some r) :
  Calls Try.prog 14 #[.agg #[.string a0_0, .int .i64 a0_1, .int .i64 a0_2], .agg #[.string a1_0, .int .i64 a1_1, .int .i64 a1_2]] w fun e w' => e = .returned (.bool r) ∧ Below w.heap.size w w' := by
 have hu29 := Try.underlying29
 have HB := Aside0.mk (Below.refl w.heap.size w)
 have H : (if a0_0.toList = a1_0.toList then (if a0_1 = a1_1 then (if a0_2 = a1_2 then (some true) else (some false)) else (some false)) else (some false)) = some r := h
 clear h
 refine (Classical.em (a0_0.toList = a1_0.toList)).elim (fun c3 => ?yes15) (fun c3 => ?no15)
 case' yes15 =>
  rw [if_pos c3] at H
  have c3b0 : (a0_0.toList == a1_0.toList) = true := beq_iff_eq.mpr c3
  have c3b1 : (a0_0.toList != a1_0.toList) = false := bne_eq_false_iff_eq.mpr c3
  clear c3
  refine (Classical.em (a0_1 = a1_1)).elim (fun c4 => ?yes16) (fun c4 => ?no16)
  case' yes16 =>
   rw [if_pos c4] at H
   have c4b0 : (a0_1 == a1_1) = true := beq_iff_eq.mpr c4
   have c4b1 : (a0_1 != a1_1) = false := bne_eq_false_iff_eq.mpr c4
   clear c4
   refine (Classical.em (a0_2 = a1_2)).elim (fun c5 => ?yes17) (fun c5 => ?no17)
   case' yes17 =>
    rw [if_pos c5] at H
    have c5b0 : (a0_2 == a1_2) = true := beq_iff_eq.mpr c5
    have c5b1 : (a0_2 != a1_2) = false := bne_eq_false_iff_eq.mpr c5
    clear c5
    obtain rfl := Option.some.inj H
   case' no17 =>
    rw [if_neg c5] at H
    have c5b0 : (a0_2 == a1_2) = false := beq_eq_false_iff_ne.mpr c5
    have c5b1 : (a0_2 != a1_2) = true := bne_iff_ne.mpr c5
    obtain rfl := Option.some.inj H
  case' no16 =>
   rw [if_neg c4] at H
   have c4b0 : (a0_1 == a1_1) = false := beq_eq_false_iff_ne.mpr c4
   have c4b1 : (a0_1 != a1_1) = true := bne_iff_ne.mpr c4
   obtain rfl := Option.some.inj H
 case' no15 =>
  rw [if_neg c3] at H
  have c3b0 : (a0_0.toList == a1_0.toList) = false := beq_eq_false_iff_ne.mpr c3
  have c3b1 : (a0_0.toList != a1_0.toList) = true := bne_iff_ne.mpr c3
  obtain rfl := Option.some.inj H
 all_goals
  go_enter Try.func14, Try.ntmps14
  go_wp2_with (first | ((with_reducible refine gate_dst (N := 2) rfl ?_); refine box_event ?hg (N := 2) ?hd (cs := #[.string a0_0, .int .i64 a0_1, .int .i64 a0_2]) (t := 29) ?hr ?_; (case hd => rfl); (case hg => rfl); (case hr => first | (go_simp; done) | (go_simp; rfl)); intro gb230 hg w6 hbox hb; have n0_ := Aside0.mk (below_step m0_ hb); have n1_ := Aside0.mk (hbox); have n2_ := Aside0.mk ((by rw [hg]; exact (below_size m0_) : w.heap.size ≤ gb230)); have n3_ := Aside0.mk ((by rw [hg]; exact (below_size m0_) : w.heap.size ≤ gb230)); clear HB; have HB := n0_; have BK230 := n1_; have GW230 := n2_; have GE230 := n3_; clear n0_ n1_ n2_ n3_; clear hb hbox hg) | ((with_reducible refine gate_dst (N := 3) rfl ?_); refine box_event ?hg (N := 3) ?hd (cs := #[.string a1_0, .int .i64 a1_1, .int .i64 a1_2]) (t := 29) ?hr ?_; (case hd => rfl); (case hg => rfl); (case hr => first | (go_simp; done) | (go_simp; rfl)); intro gb231 hg w7 hbox hb; have n0_ := Aside0.mk (blk_below (g := gb230) (o := .cells #[.string a0_0, .int .i64 a0_1, .int .i64 a0_2] 29 (0, 0)) m80_ hb); have n1_ := Aside0.mk (below_step m70_ hb); have n2_ := Aside0.mk (hbox); have n3_ := Aside0.mk ((by rw [hg]; exact (below_size m70_) : w.heap.size ≤ gb231)); have n4_ := Aside0.mk ((by rw [hg]; exact (below_size m70_) : w.heap.size ≤ gb231)); have n5_ := Aside0.mk ((by rw [hg]; exact Nat.ne_of_lt (blk_lt (g := gb230) (o := .cells #[.string a0_0, .int .i64 a0_1, .int .i64 a0_2] 29 (0, 0)) m80_) : gb230 ≠ gb231)); have n6_ := Aside0.mk ((by rw [hg]; exact Nat.ne_of_gt (blk_lt (g := gb230) (o := .cells #[.string a0_0, .int .i64 a0_1, .int .i64 a0_2] 29 (0, 0)) m80_) : gb231 ≠ gb230)); clear BK230; clear HB; have BK230 := n0_; have HB := n1_; have BK231 := n2_; have GW231 := n3_; have GE231 := n4_; have NB230_231 := n5_; have NB231_230 := n6_; clear n0_ n1_ n2_ n3_ n4_ n5_ n6_; clear hb hbox hg; have hnb8 := NB230_231.out; have hnc8 := NB231_230.out; obtain ⟨hcz9_0, hcz9_1, hcz9_2⟩ := cz3_ BK230.out; obtain ⟨hfz9_0, hfz9_1, hfz9_2⟩ := fz3_ BK230.out; obtain ⟨hcz10_0, hcz10_1, hcz10_2⟩ := cz3_ BK231.out; obtain ⟨hfz10_0, hfz10_1, hfz10_2⟩ := fz3_ BK231.out))
  go_ret
  exact ⟨m7_, (by repeat (first | (with_reducible first | exact HB.out | apply below_alloc | apply pw_below_drewN | apply below_drew1 | refine below_set ?_ GE230.out | refine below_set ?_ GE231.out) | exact HB.out))⟩

/-! ### laws_eqRecPhase: function 38 -/
def laws_eqRecPhase.f (a0_0 : ByteArray) (a0_1 : Int) (a0_2 : ByteArray) (a0_3 : ByteArray) (a0_4 : Int) (a0_5 : Int) (a0_6 : ByteArray) (a0_7 : ByteArray) (a1_0 : ByteArray) (a1_1 : Int) (a1_2 : ByteArray) (a1_3 : ByteArray) (a1_4 : Int) (a1_5 : Int) (a1_6 : ByteArray) (a1_7 : ByteArray) : Option (Bool) := if a0_0.toList = a1_0.toList then (if a0_1 = a1_1 then (if a0_2.toList = a1_2.toList then (if a0_3.toList = a1_3.toList then (if a0_4 = a1_4 then (if a0_5 = a1_5 then (if a0_6.toList = a1_6.toList then (if a0_7.toList = a1_7.toList then (some true) else (some false)) else (some false)) else (some false)) else (some false)) else (some false)) else (some false)) else (some false)) else (some false)
set_option maxHeartbeats 8000000 in
set_option maxRecDepth 100000 in
theorem laws_eqRecPhase.calls (a0_0 : ByteArray) (a0_1 : Int) (a0_2 : ByteArray) (a0_3 : ByteArray) (a0_4 : Int) (a0_5 : Int) (a0_6 : ByteArray) (a0_7 : ByteArray) (a1_0 : ByteArray) (a1_1 : Int) (a1_2 : ByteArray) (a1_3 : ByteArray) (a1_4 : Int) (a1_5 : Int) (a1_6 : ByteArray) (a1_7 : ByteArray) (r : Bool) (w : World) (h : laws_eqRecPhase.f a0_0 a0_1 a0_2 a0_3 a0_4 a0_5 a0_6 a0_7 a1_0 a1_1 a1_2 a1_3 a1_4 a1_5 a1_6 a1_7 = some r) :
  Calls Try.prog 38 #[.agg #[.string a0_0, .int .i64 a0_1, .string a0_2, .string a0_3, .int .i64 a0_4, .int .i64 a0_5, .string a0_6, .string a0_7], .agg #[.string a1_0, .int .i64 a1_1, .string a1_2, .string a1_3, .int .i64 a1_4, .int .i64 a1_5, .string a1_6, .string a1_7]] w fun e w' => e = .returned (.bool r) ∧ Below w.heap.size w w' := by
 have hu44 := Try.underlying44
 have HB := Aside0.mk (Below.refl w.heap.size w)
 have H : (if a0_0.toList = a1_0.toList then (if a0_1 = a1_1 then (if a0_2.toList = a1_2.toList then (if a0_3.toList = a1_3.toList then (if a0_4 = a1_4 then (if a0_5 = a1_5 then (if a0_6.toList = a1_6.toList then (if a0_7.toList = a1_7.toList then (some true) else (some false)) else (some false)) else (some false)) else (some false)) else (some false)) else (some false)) else (some false)) else (some false)) = some r := h
 clear h
 refine (Classical.em (a0_0.toList = a1_0.toList)).elim (fun c3 => ?yes18) (fun c3 => ?no18)
 case' yes18 =>
  rw [if_pos c3] at H
  have c3b0 : (a0_0.toList == a1_0.toList) = true := beq_iff_eq.mpr c3
  have c3b1 : (a0_0.toList != a1_0.toList) = false := bne_eq_false_iff_eq.mpr c3
  clear c3
  refine (Classical.em (a0_1 = a1_1)).elim (fun c4 => ?yes19) (fun c4 => ?no19)
  case' yes19 =>
   rw [if_pos c4] at H
   have c4b0 : (a0_1 == a1_1) = true := beq_iff_eq.mpr c4
   have c4b1 : (a0_1 != a1_1) = false := bne_eq_false_iff_eq.mpr c4
   clear c4
   refine (Classical.em (a0_2.toList = a1_2.toList)).elim (fun c5 => ?yes20) (fun c5 => ?no20)
   case' yes20 =>
    rw [if_pos c5] at H
    have c5b0 : (a0_2.toList == a1_2.toList) = true := beq_iff_eq.mpr c5
    have c5b1 : (a0_2.toList != a1_2.toList) = false := bne_eq_false_iff_eq.mpr c5
    clear c5
    refine (Classical.em (a0_3.toList = a1_3.toList)).elim (fun c6 => ?yes21) (fun c6 => ?no21)
    case' yes21 =>
     rw [if_pos c6] at H
     have c6b0 : (a0_3.toList == a1_3.toList) = true := beq_iff_eq.mpr c6
     have c6b1 : (a0_3.toList != a1_3.toList) = false := bne_eq_false_iff_eq.mpr c6
     clear c6
     refine (Classical.em (a0_4 = a1_4)).elim (fun c7 => ?yes22) (fun c7 => ?no22)
     case' yes22 =>
      rw [if_pos c7] at H
      have c7b0 : (a0_4 == a1_4) = true := beq_iff_eq.mpr c7
      have c7b1 : (a0_4 != a1_4) = false := bne_eq_false_iff_eq.mpr c7
      clear c7
      refine (Classical.em (a0_5 = a1_5)).elim (fun c8 => ?yes23) (fun c8 => ?no23)
      case' yes23 =>
       rw [if_pos c8] at H
       have c8b0 : (a0_5 == a1_5) = true := beq_iff_eq.mpr c8
       have c8b1 : (a0_5 != a1_5) = false := bne_eq_false_iff_eq.mpr c8
       clear c8
       refine (Classical.em (a0_6.toList = a1_6.toList)).elim (fun c9 => ?yes24) (fun c9 => ?no24)
       case' yes24 =>
        rw [if_pos c9] at H
        have c9b0 : (a0_6.toList == a1_6.toList) = true := beq_iff_eq.mpr c9
        have c9b1 : (a0_6.toList != a1_6.toList) = false := bne_eq_false_iff_eq.mpr c9
        clear c9
        refine (Classical.em (a0_7.toList = a1_7.toList)).elim (fun c10 => ?yes25) (fun c10 => ?no25)
        case' yes25 =>
         rw [if_pos c10] at H
         have c10b0 : (a0_7.toList == a1_7.toList) = true := beq_iff_eq.mpr c10
         have c10b1 : (a0_7.toList != a1_7.toList) = false := bne_eq_false_iff_eq.mpr c10
         clear c10
         obtain rfl := Option.some.inj H
        case' no25 =>
         rw [if_neg c10] at H
         have c10b0 : (a0_7.toList == a1_7.toList) = false := beq_eq_false_iff_ne.mpr c10
         have c10b1 : (a0_7.toList != a1_7.toList) = true := bne_iff_ne.mpr c10
         obtain rfl := Option.some.inj H
       case' no24 =>
        rw [if_neg c9] at H
        have c9b0 : (a0_6.toList == a1_6.toList) = false := beq_eq_false_iff_ne.mpr c9
        have c9b1 : (a0_6.toList != a1_6.toList) = true := bne_iff_ne.mpr c9
        obtain rfl := Option.some.inj H
      case' no23 =>
       rw [if_neg c8] at H
       have c8b0 : (a0_5 == a1_5) = false := beq_eq_false_iff_ne.mpr c8
       have c8b1 : (a0_5 != a1_5) = true := bne_iff_ne.mpr c8
       obtain rfl := Option.some.inj H
     case' no22 =>
      rw [if_neg c7] at H
      have c7b0 : (a0_4 == a1_4) = false := beq_eq_false_iff_ne.mpr c7
      have c7b1 : (a0_4 != a1_4) = true := bne_iff_ne.mpr c7
      obtain rfl := Option.some.inj H
    case' no21 =>
     rw [if_neg c6] at H
     have c6b0 : (a0_3.toList == a1_3.toList) = false := beq_eq_false_iff_ne.mpr c6
     have c6b1 : (a0_3.toList != a1_3.toList) = true := bne_iff_ne.mpr c6
     obtain rfl := Option.some.inj H
   case' no20 =>
    rw [if_neg c5] at H
    have c5b0 : (a0_2.toList == a1_2.toList) = false := beq_eq_false_iff_ne.mpr c5
    have c5b1 : (a0_2.toList != a1_2.toList) = true := bne_iff_ne.mpr c5
    obtain rfl := Option.some.inj H
  case' no19 =>
   rw [if_neg c4] at H
   have c4b0 : (a0_1 == a1_1) = false := beq_eq_false_iff_ne.mpr c4
   have c4b1 : (a0_1 != a1_1) = true := bne_iff_ne.mpr c4
   obtain rfl := Option.some.inj H
 case' no18 =>
  rw [if_neg c3] at H
  have c3b0 : (a0_0.toList == a1_0.toList) = false := beq_eq_false_iff_ne.mpr c3
  have c3b1 : (a0_0.toList != a1_0.toList) = true := bne_iff_ne.mpr c3
  obtain rfl := Option.some.inj H
 all_goals
  go_enter Try.func38, Try.ntmps38
  go_wp2_with (first | ((with_reducible refine gate_dst (N := 2) rfl ?_); refine box_event ?hg (N := 2) ?hd (cs := #[.string a0_0, .int .i64 a0_1, .string a0_2, .string a0_3, .int .i64 a0_4, .int .i64 a0_5, .string a0_6, .string a0_7]) (t := 44) ?hr ?_; (case hd => rfl); (case hg => rfl); (case hr => first | (go_simp; done) | (go_simp; rfl)); intro gb232 hg w11 hbox hb; have n0_ := Aside0.mk (below_step m0_ hb); have n1_ := Aside0.mk (hbox); have n2_ := Aside0.mk ((by rw [hg]; exact (below_size m0_) : w.heap.size ≤ gb232)); have n3_ := Aside0.mk ((by rw [hg]; exact (below_size m0_) : w.heap.size ≤ gb232)); clear HB; have HB := n0_; have BK232 := n1_; have GW232 := n2_; have GE232 := n3_; clear n0_ n1_ n2_ n3_; clear hb hbox hg) | ((with_reducible refine gate_dst (N := 3) rfl ?_); refine box_event ?hg (N := 3) ?hd (cs := #[.string a1_0, .int .i64 a1_1, .string a1_2, .string a1_3, .int .i64 a1_4, .int .i64 a1_5, .string a1_6, .string a1_7]) (t := 44) ?hr ?_; (case hd => rfl); (case hg => rfl); (case hr => first | (go_simp; done) | (go_simp; rfl)); intro gb233 hg w12 hbox hb; have n0_ := Aside0.mk (blk_below (g := gb232) (o := .cells #[.string a0_0, .int .i64 a0_1, .string a0_2, .string a0_3, .int .i64 a0_4, .int .i64 a0_5, .string a0_6, .string a0_7] 44 (0, 0)) m81_ hb); have n1_ := Aside0.mk (below_step m71_ hb); have n2_ := Aside0.mk (hbox); have n3_ := Aside0.mk ((by rw [hg]; exact (below_size m71_) : w.heap.size ≤ gb233)); have n4_ := Aside0.mk ((by rw [hg]; exact (below_size m71_) : w.heap.size ≤ gb233)); have n5_ := Aside0.mk ((by rw [hg]; exact Nat.ne_of_lt (blk_lt (g := gb232) (o := .cells #[.string a0_0, .int .i64 a0_1, .string a0_2, .string a0_3, .int .i64 a0_4, .int .i64 a0_5, .string a0_6, .string a0_7] 44 (0, 0)) m81_) : gb232 ≠ gb233)); have n6_ := Aside0.mk ((by rw [hg]; exact Nat.ne_of_gt (blk_lt (g := gb232) (o := .cells #[.string a0_0, .int .i64 a0_1, .string a0_2, .string a0_3, .int .i64 a0_4, .int .i64 a0_5, .string a0_6, .string a0_7] 44 (0, 0)) m81_) : gb233 ≠ gb232)); clear BK232; clear HB; have BK232 := n0_; have HB := n1_; have BK233 := n2_; have GW233 := n3_; have GE233 := n4_; have NB232_233 := n5_; have NB233_232 := n6_; clear n0_ n1_ n2_ n3_ n4_ n5_ n6_; clear hb hbox hg; have hnb13 := NB232_233.out; have hnc13 := NB233_232.out; obtain ⟨hcz14_0, hcz14_1, hcz14_2, hcz14_3, hcz14_4, hcz14_5, hcz14_6, hcz14_7⟩ := cz8_ BK232.out; obtain ⟨hfz14_0, hfz14_1, hfz14_2, hfz14_3, hfz14_4, hfz14_5, hfz14_6, hfz14_7⟩ := fz8_ BK232.out; obtain ⟨hcz15_0, hcz15_1, hcz15_2, hcz15_3, hcz15_4, hcz15_5, hcz15_6, hcz15_7⟩ := cz8_ BK233.out; obtain ⟨hfz15_0, hfz15_1, hfz15_2, hfz15_3, hfz15_4, hfz15_5, hfz15_6, hfz15_7⟩ := fz8_ BK233.out))
  go_ret
  exact ⟨m7_, (by repeat (first | (with_reducible first | exact HB.out | apply below_alloc | apply pw_below_drewN | apply below_drew1 | refine below_set ?_ GE232.out | refine below_set ?_ GE233.out) | exact HB.out))⟩

/-! ### laws_eqRecPhaseS: function 15 -/
def laws_eqRecPhaseS.l0 : Nat → List (S44) → List (S44) → Int → Option (Bool)
 | 0, _, _, _ => none
 | k + 1, x0, x1, x5 => if x5 < (x0.length : Int) then (if 0 ≤ x5 then (if x5 < (x1.length : Int) then ((laws_eqRecPhase.f ((rd_T44 x0 x5).f0) ((rd_T44 x0 x5).f1) ((rd_T44 x0 x5).f2) ((rd_T44 x0 x5).f3) ((rd_T44 x0 x5).f4) ((rd_T44 x0 x5).f5) ((rd_T44 x0 x5).f6) ((rd_T44 x0 x5).f7) ((rd_T44 x1 x5).f0) ((rd_T44 x1 x5).f1) ((rd_T44 x1 x5).f2) ((rd_T44 x1 x5).f3) ((rd_T44 x1 x5).f4) ((rd_T44 x1 x5).f5) ((rd_T44 x1 x5).f6) ((rd_T44 x1 x5).f7)).bind fun t236 => (if t236 = true then (laws_eqRecPhaseS.l0 k x0 x1 (wrap64 (x5 + 1))) else (some false))) else (none)) else (none)) else (some true)
def laws_eqRecPhaseS.f (k : Nat) (l0 : List (S44)) (l1 : List (S44)) : Option (Bool) := if (l0.length : Int) = (l1.length : Int) then (laws_eqRecPhaseS.l0 k l0 l1 0) else (some false)
theorem laws_eqRecPhaseS.mono_l : ∀ k, (∀ y0 y1 y2, LeO (laws_eqRecPhaseS.l0 k y0 y1 y2) (laws_eqRecPhaseS.l0 (k + 1) y0 y1 y2))
 | 0 => fun _ _ _ r h => by simp [laws_eqRecPhaseS.l0] at h
 | k + 1 => by
  have ih0 := laws_eqRecPhaseS.mono_l k
  ·intro y0 y1 y2
   unfold laws_eqRecPhaseS.l0
   repeat' first
   | (with_reducible exact ih0 _ _ _)
   | (with_reducible exact LeO.refl _)
   | (with_reducible exact LeO.none _)
   | (with_reducible refine LeO.ite ?_ ?_)
   | (with_reducible refine LeO.bind ?_ (fun _ => ?_))
   | exact ih0 _ _ _
   | exact LeO.none _
   | refine LeO.ite ?_ ?_
   | refine LeO.bind ?_ (fun _ => ?_)
theorem laws_eqRecPhaseS.mono : ∀ a0 a1 k, LeO (laws_eqRecPhaseS.f k a0 a1) (laws_eqRecPhaseS.f (k + 1) a0 a1) := by
 intro a0 a1 k
 have ih0 := laws_eqRecPhaseS.mono_l k
 unfold laws_eqRecPhaseS.f
 repeat' first
   | (with_reducible exact ih0 _ _ _)
   | (with_reducible exact LeO.refl _)
   | (with_reducible exact LeO.none _)
   | (with_reducible refine LeO.ite ?_ ?_)
   | (with_reducible refine LeO.bind ?_ (fun _ => ?_))
   | exact ih0 _ _ _
   | exact LeO.none _
   | refine LeO.ite ?_ ?_
   | refine LeO.bind ?_ (fun _ => ?_)
def laws_eqRecPhaseS.T6 : Bool × List (List Nat × List Nat) := (true, [([], []), ([], []), ([0, 1], [0, 1]), ([2], [2]), ([], []), ([], []), ([4, 5], [4, 5]), ([6], [6]), ([3, 7], [3, 7]), ([8], [8])])
def laws_eqRecPhaseS.B6 : List Nat := [0, 0, 3, 7, 0, 0, 48, 112, 255, 511]
theorem laws_eqRecPhaseS.tab6 : rtab .any (opsOf Try.f15 6) = laws_eqRecPhaseS.T6 := by kernel_rfl
theorem laws_eqRecPhaseS.bits6 : waitsOk laws_eqRecPhaseS.T6.2 laws_eqRecPhaseS.B6 = true := by kernel_rfl
set_option maxHeartbeats 8000000 in
set_option maxRecDepth 100000 in
theorem laws_eqRecPhaseS.calls (k : Nat) (A0 : Option Addr) (c0 : Nat) (l0 : List (S44)) (A1 : Option Addr) (c1 : Nat) (l1 : List (S44)) (r : Bool) (w : World) (hr0 : Kd.C k44 w A0 l0.length l0) (hc0 : l0.length ≤ c0) (hr1 : Kd.C k44 w A1 l1.length l1) (hc1 : l1.length ≤ c1) (h : laws_eqRecPhaseS.f k l0 l1 = some r) :
  Calls Try.prog 15 #[.slice A0 l0.length c0, .slice A1 l1.length c1] w fun e w' => e = .returned (.bool r) ∧ Below w.heap.size w w' := by
 have hu44 := Try.underlying44
 have HR0 := Aside0.mk hr0
 have HC0 := Aside0.mk hc0
 clear hr0 hc0
 have HR1 := Aside0.mk hr1
 have HC1 := Aside0.mk hc1
 clear hr1 hc1
 have HB := Aside0.mk (Below.refl w.heap.size w)
 have H : (if (l0.length : Int) = (l1.length : Int) then (laws_eqRecPhaseS.l0 k l0 l1 0) else (some false)) = some r := h
 clear h
 by_cases c3 : (l0.length : Int) = (l1.length : Int)
 ·rw [if_pos c3] at H
  have c3b0 : ((l0.length : Int) == (l1.length : Int)) = true := beq_iff_eq.mpr c3
  have c3b1 : ((l0.length : Int) != (l1.length : Int)) = false := bne_eq_false_iff_eq.mpr c3
  have c3b2 : (l0.length == l1.length) = true := by first | simpa using c3 | (simp at c3 ⊢; omega)
  clear c3
  have H' := Aside0.mk H
  clear H
  go_enter Try.func15, Try.ntmps15
  go_wp2
  go_loopg [5] k (fun kq v5 w' => ∃ (x5_1 : Int), v5 = .int .i64 x5_1 ∧ Aside0 (laws_eqRecPhaseS.l0 kq l0 l1 x5_1 = some r) ∧ Aside0 (kq ≤ k) ∧ Aside0 (Below w.heap.size w w'))
  case atStart => exact ⟨(0), m11_, H', ⟨Nat.le_refl _⟩, ⟨m0_⟩⟩
  case round =>
   clear H'
   try clear c1
   try clear p2
   try clear c3
   try clear c3b0
   try clear c3b1
   try clear c3b2
   obtain ⟨x5_1, rfl, HA, HK1, HB⟩ := hrel
   cases gk with
   | zero => exact absurd HA.out (by simp [laws_eqRecPhaseS.l0])
   | succ k1 =>
    have H := HA.out
    clear HA
    simp only [laws_eqRecPhaseS.l0] at H
    by_cases c4 : x5_1 < (l0.length : Int)
    ·rw [if_pos c4] at H
     have c4b0 : decide (x5_1 < (l0.length : Int)) = true := decide_eq_true c4
     clear c4
     by_cases c5 : 0 ≤ x5_1
     ·rw [if_pos c5] at H
      have c5b0 : decide (0 ≤ x5_1) = true := decide_eq_true c5
      clear c5
      by_cases c6 : x5_1 < (l1.length : Int)
      ·rw [if_pos c6] at H
       have c6b0 : decide (x5_1 < (l1.length : Int)) = true := decide_eq_true c6
       clear c6
       replace H := Option.bind_eq_some_iff.mp H
       obtain ⟨t236, A70, H⟩ := H
       replace H : (if t236 = true then (laws_eqRecPhaseS.l0 k1 l0 l1 (wrap64 (x5_1 + 1))) else (some false)) = some r := H
       have A7 := Aside0.mk A70
       clear A70
       by_cases c8 : t236 = true
       ·subst c8
        have H1 : (laws_eqRecPhaseS.l0 k1 l0 l1 (wrap64 (x5_1 + 1))) = some r := by rw [if_pos rfl] at H; exact H
        clear H
        have H := H1
        clear H1
        have H' := Aside0.mk H
        clear H
        try go_wp2
        have n0_ := Aside0.mk (below_drew1 HB.out)
        clear HB
        have HB := n0_
        clear n0_
        have p234 : 0 ≤ (x5_1 : Int) := of_decide_eq_true m8_
        have q234 : x5_1 < (l0.length : Int) := of_decide_eq_true m8_
        obtain ⟨ad234, e234, hx234_0, hx234_1, hx234_2, hx234_3, hx234_4, hx234_5, hx234_6, hx234_7⟩ := at_T44 HR0.out x5_1 p234 q234
        have hw234_7 := hx234_7
        have hw234_6 := hx234_6
        have hw234_5 := hx234_5
        have hw234_4 := hx234_4
        have hw234_3 := hx234_3
        have hw234_2 := hx234_2
        have hw234_1 := hx234_1
        have hw234_0 := hx234_0
        cases e234
        replace hx234_0 := (HB.out.cell (World.block_lt_of_cell? w _ hx234_0)).trans hx234_0
        replace hx234_1 := (HB.out.cell (World.block_lt_of_cell? w _ hx234_1)).trans hx234_1
        replace hx234_2 := (HB.out.cell (World.block_lt_of_cell? w _ hx234_2)).trans hx234_2
        replace hx234_3 := (HB.out.cell (World.block_lt_of_cell? w _ hx234_3)).trans hx234_3
        replace hx234_4 := (HB.out.cell (World.block_lt_of_cell? w _ hx234_4)).trans hx234_4
        replace hx234_5 := (HB.out.cell (World.block_lt_of_cell? w _ hx234_5)).trans hx234_5
        replace hx234_6 := (HB.out.cell (World.block_lt_of_cell? w _ hx234_6)).trans hx234_6
        replace hx234_7 := (HB.out.cell (World.block_lt_of_cell? w _ hx234_7)).trans hx234_7
        replace p234 := eq_true p234
        replace q234 := eq_true q234
        have p235 : 0 ≤ (x5_1 : Int) := of_decide_eq_true m8_
        have q235 : x5_1 < (l1.length : Int) := of_decide_eq_true m8_
        obtain ⟨ad235, e235, hx235_0, hx235_1, hx235_2, hx235_3, hx235_4, hx235_5, hx235_6, hx235_7⟩ := at_T44 HR1.out x5_1 p235 q235
        have hw235_7 := hx235_7
        have hw235_6 := hx235_6
        have hw235_5 := hx235_5
        have hw235_4 := hx235_4
        have hw235_3 := hx235_3
        have hw235_2 := hx235_2
        have hw235_1 := hx235_1
        have hw235_0 := hx235_0
        cases e235
        replace hx235_0 := (HB.out.cell (World.block_lt_of_cell? w _ hx235_0)).trans hx235_0
        replace hx235_1 := (HB.out.cell (World.block_lt_of_cell? w _ hx235_1)).trans hx235_1
        replace hx235_2 := (HB.out.cell (World.block_lt_of_cell? w _ hx235_2)).trans hx235_2
        replace hx235_3 := (HB.out.cell (World.block_lt_of_cell? w _ hx235_3)).trans hx235_3
        replace hx235_4 := (HB.out.cell (World.block_lt_of_cell? w _ hx235_4)).trans hx235_4
        replace hx235_5 := (HB.out.cell (World.block_lt_of_cell? w _ hx235_5)).trans hx235_5
        replace hx235_6 := (HB.out.cell (World.block_lt_of_cell? w _ hx235_6)).trans hx235_6
        replace hx235_7 := (HB.out.cell (World.block_lt_of_cell? w _ hx235_7)).trans hx235_7
        replace p235 := eq_true p235
        replace q235 := eq_true q235
        refine start_ (n := 10) (S := fun w' => w'.cell? (ad234.add ((x5_1).toNat * 8)) = some (.string ((rd_T44 l0 x5_1).f0)) ∧ w'.cell? ⟨(ad234.add ((x5_1).toNat * 8)).block, (ad234.add ((x5_1).toNat * 8)).off + 1, none⟩ = some (.int .i64 ((rd_T44 l0 x5_1).f1)) ∧ w'.cell? ⟨(ad234.add ((x5_1).toNat * 8)).block, (ad234.add ((x5_1).toNat * 8)).off + 2, none⟩ = some (.string ((rd_T44 l0 x5_1).f2)) ∧ w'.cell? ⟨(ad234.add ((x5_1).toNat * 8)).block, (ad234.add ((x5_1).toNat * 8)).off + 3, none⟩ = some (.string ((rd_T44 l0 x5_1).f3)) ∧ w'.cell? ⟨(ad234.add ((x5_1).toNat * 8)).block, (ad234.add ((x5_1).toNat * 8)).off + 4, none⟩ = some (.int .i64 ((rd_T44 l0 x5_1).f4)) ∧ w'.cell? ⟨(ad234.add ((x5_1).toNat * 8)).block, (ad234.add ((x5_1).toNat * 8)).off + 5, none⟩ = some (.int .i64 ((rd_T44 l0 x5_1).f5)) ∧ w'.cell? ⟨(ad234.add ((x5_1).toNat * 8)).block, (ad234.add ((x5_1).toNat * 8)).off + 6, none⟩ = some (.string ((rd_T44 l0 x5_1).f6)) ∧ w'.cell? ⟨(ad234.add ((x5_1).toNat * 8)).block, (ad234.add ((x5_1).toNat * 8)).off + 7, none⟩ = some (.string ((rd_T44 l0 x5_1).f7)) ∧ w'.cell? (ad235.add ((x5_1).toNat * 8)) = some (.string ((rd_T44 l1 x5_1).f0)) ∧ w'.cell? ⟨(ad235.add ((x5_1).toNat * 8)).block, (ad235.add ((x5_1).toNat * 8)).off + 1, none⟩ = some (.int .i64 ((rd_T44 l1 x5_1).f1)) ∧ w'.cell? ⟨(ad235.add ((x5_1).toNat * 8)).block, (ad235.add ((x5_1).toNat * 8)).off + 2, none⟩ = some (.string ((rd_T44 l1 x5_1).f2)) ∧ w'.cell? ⟨(ad235.add ((x5_1).toNat * 8)).block, (ad235.add ((x5_1).toNat * 8)).off + 3, none⟩ = some (.string ((rd_T44 l1 x5_1).f3)) ∧ w'.cell? ⟨(ad235.add ((x5_1).toNat * 8)).block, (ad235.add ((x5_1).toNat * 8)).off + 4, none⟩ = some (.int .i64 ((rd_T44 l1 x5_1).f4)) ∧ w'.cell? ⟨(ad235.add ((x5_1).toNat * 8)).block, (ad235.add ((x5_1).toNat * 8)).off + 5, none⟩ = some (.int .i64 ((rd_T44 l1 x5_1).f5)) ∧ w'.cell? ⟨(ad235.add ((x5_1).toNat * 8)).block, (ad235.add ((x5_1).toNat * 8)).off + 6, none⟩ = some (.string ((rd_T44 l1 x5_1).f6)) ∧ w'.cell? ⟨(ad235.add ((x5_1).toNat * 8)).block, (ad235.add ((x5_1).toNat * 8)).off + 7, none⟩ = some (.string ((rd_T44 l1 x5_1).f7))) (ds := []) (bm 10 0) (by kernel_rfl) rfl rfl ⟨((HB.out.cell (World.block_lt_of_cell? w _ hw234_0)).trans hw234_0), ((HB.out.cell (World.block_lt_of_cell? w _ hw234_1)).trans hw234_1), ((HB.out.cell (World.block_lt_of_cell? w _ hw234_2)).trans hw234_2), ((HB.out.cell (World.block_lt_of_cell? w _ hw234_3)).trans hw234_3), ((HB.out.cell (World.block_lt_of_cell? w _ hw234_4)).trans hw234_4), ((HB.out.cell (World.block_lt_of_cell? w _ hw234_5)).trans hw234_5), ((HB.out.cell (World.block_lt_of_cell? w _ hw234_6)).trans hw234_6), ((HB.out.cell (World.block_lt_of_cell? w _ hw234_7)).trans hw234_7), ((HB.out.cell (World.block_lt_of_cell? w _ hw235_0)).trans hw235_0), ((HB.out.cell (World.block_lt_of_cell? w _ hw235_1)).trans hw235_1), ((HB.out.cell (World.block_lt_of_cell? w _ hw235_2)).trans hw235_2), ((HB.out.cell (World.block_lt_of_cell? w _ hw235_3)).trans hw235_3), ((HB.out.cell (World.block_lt_of_cell? w _ hw235_4)).trans hw235_4), ((HB.out.cell (World.block_lt_of_cell? w _ hw235_5)).trans hw235_5), ((HB.out.cell (World.block_lt_of_cell? w _ hw235_6)).trans hw235_6), ((HB.out.cell (World.block_lt_of_cell? w _ hw235_7)).trans hw235_7)⟩ (fun hHeld => ?_); refine with_tabW laws_eqRecPhaseS.tab6 laws_eqRecPhaseS.bits6 (fun HT_ HW_ => ?_)
        generalize wr.drew = w9 at HB hx234_0 hx234_1 hx234_2 hx234_3 hx234_4 hx234_5 hx234_6 hx234_7 hx235_0 hx235_1 hx235_2 hx235_3 hx235_4 hx235_5 hx235_6 hx235_7 hHeld ⊢
        refine pure_ (i := 0) (N := some 17) (v := ?_) (a' := ?_) (bm 10 1) rfl rfl (any_of HT_.out (by kernel_rfl)) (fun _ _ _ h => h) (Or.inl ⟨(by rfl), ?_⟩) ?_ ?_; rotate_left; intro w'; go_simp; with_reducible rfl; rotate_left; simp only [Act.put, List.setIfInBounds_toArray, List.set_cons_zero, List.set_cons_succ, i64_w, i32_w]; rfl
        refine pure_ (i := 1) (N := some 18) (v := ?_) (a' := ?_) (bm 10 3) rfl rfl (any_of HT_.out (by kernel_rfl)) (fun _ _ _ h => h) (Or.inl ⟨(by rfl), ?_⟩) ?_ ?_; rotate_left; intro w'; go_simp; with_reducible rfl; rotate_left; simp only [Act.put, List.setIfInBounds_toArray, List.set_cons_zero, List.set_cons_succ, i64_w, i32_w]; rfl
        refine pure_ (i := 2) (N := some 19) (v := ?_) (a' := ?_) (bm 10 7) rfl rfl (any_of HT_.out (by kernel_rfl)) (fun _ _ _ h => h) (Or.inl ⟨(by rfl), ?_⟩) ?_ ?_; rotate_left; intro w'; go_simp; with_reducible rfl; rotate_left; simp only [Act.put, List.setIfInBounds_toArray, List.set_cons_zero, List.set_cons_succ, i64_w, i32_w]; rfl
        refine pure_ (i := 4) (N := some 21) (v := ?_) (a' := ?_) (bm 10 23) rfl rfl (any_of HT_.out (by kernel_rfl)) (fun _ _ _ h => h) (Or.inl ⟨(by rfl), ?_⟩) ?_ ?_; rotate_left; intro w'; go_simp; with_reducible rfl; rotate_left; simp only [Act.put, List.setIfInBounds_toArray, List.set_cons_zero, List.set_cons_succ, i64_w, i32_w]; rfl
        refine pure_ (i := 5) (N := some 22) (v := ?_) (a' := ?_) (bm 10 55) rfl rfl (any_of HT_.out (by kernel_rfl)) (fun _ _ _ h => h) (Or.inl ⟨(by rfl), ?_⟩) ?_ ?_; rotate_left; intro w'; go_simp; with_reducible rfl; rotate_left; simp only [Act.put, List.setIfInBounds_toArray, List.set_cons_zero, List.set_cons_succ, i64_w, i32_w]; rfl
        refine pure_ (i := 6) (N := some 23) (v := ?_) (a' := ?_) (bm 10 119) rfl rfl (any_of HT_.out (by kernel_rfl)) (fun _ _ _ h => h) (Or.inl ⟨(by rfl), ?_⟩) ?_ ?_; rotate_left; intro w'; go_simp; with_reducible rfl; rotate_left; simp only [Act.put, List.setIfInBounds_toArray, List.set_cons_zero, List.set_cons_succ, i64_w, i32_w]; rfl
        refine take_ (i := 3) (N := some 20) (v := ?_) (a' := ?_) (bm 10 127) rfl rfl (take_ofW HT_.out HW_.out (by kernel_rfl)) (fun _ _ _ h => h) (Or.inl ⟨(by rfl), ?_⟩) hHeld ?_ ?_; rotate_left; rintro w' ⟨s0, s1, s2, s3, s4, s5, s6, s7, s8, s9, s10, s11, s12, s13, s14, s15⟩; go_simp; with_reducible rfl; rotate_left; simp only [Act.put, List.setIfInBounds_toArray, List.set_cons_zero, List.set_cons_succ, i64_w, i32_w]; rfl
        refine take_ (i := 7) (N := some 24) (v := ?_) (a' := ?_) (bm 10 255) rfl rfl (take_ofW HT_.out HW_.out (by kernel_rfl)) (fun _ _ _ h => h) (Or.inl ⟨(by rfl), ?_⟩) hHeld ?_ ?_; rotate_left; rintro w' ⟨s0, s1, s2, s3, s4, s5, s6, s7, s8, s9, s10, s11, s12, s13, s14, s15⟩; go_simp; with_reducible rfl; rotate_left; simp only [Act.put, List.setIfInBounds_toArray, List.set_cons_zero, List.set_cons_succ, i64_w, i32_w]; rfl
        refine one_ (i := 8) (N := some 25) (bm 10 511) rfl rfl (one_of HT_.out (by kernel_rfl)) (by decide) (fun K hK => ?_)
        refine goes_ Try.func38 (by kernel_rfl) rfl #[.agg #[.string ((rd_T44 l0 x5_1).f0), .int .i64 ((rd_T44 l0 x5_1).f1), .string ((rd_T44 l0 x5_1).f2), .string ((rd_T44 l0 x5_1).f3), .int .i64 ((rd_T44 l0 x5_1).f4), .int .i64 ((rd_T44 l0 x5_1).f5), .string ((rd_T44 l0 x5_1).f6), .string ((rd_T44 l0 x5_1).f7)], .agg #[.string ((rd_T44 l1 x5_1).f0), .int .i64 ((rd_T44 l1 x5_1).f1), .string ((rd_T44 l1 x5_1).f2), .string ((rd_T44 l1 x5_1).f3), .int .i64 ((rd_T44 l1 x5_1).f4), .int .i64 ((rd_T44 l1 x5_1).f5), .string ((rd_T44 l1 x5_1).f6), .string ((rd_T44 l1 x5_1).f7)]] (by rfl) rfl rfl m1_ ?_
        with_reducible refine (laws_eqRecPhase.calls ((rd_T44 l0 x5_1).f0) ((rd_T44 l0 x5_1).f1) ((rd_T44 l0 x5_1).f2) ((rd_T44 l0 x5_1).f3) ((rd_T44 l0 x5_1).f4) ((rd_T44 l0 x5_1).f5) ((rd_T44 l0 x5_1).f6) ((rd_T44 l0 x5_1).f7) ((rd_T44 l1 x5_1).f0) ((rd_T44 l1 x5_1).f1) ((rd_T44 l1 x5_1).f2) ((rd_T44 l1 x5_1).f3) ((rd_T44 l1 x5_1).f4) ((rd_T44 l1 x5_1).f5) ((rd_T44 l1 x5_1).f6) ((rd_T44 l1 x5_1).f7) true _ A7.out).mono ?_
        rintro e w10 ⟨rfl, hb⟩
        refine ⟨_, rfl, ?_⟩
        have n0_ := Aside0.mk (below_step m0_ hb)
        clear HB
        have HB := n0_
        clear n0_
        (try clear hb)
        (try clear hb2)
        (try clear hk)
        (try clear hi)
        refine hK.out _ _ ⟨((HB.out.cell (World.block_lt_of_cell? w _ hw234_0)).trans hw234_0), ((HB.out.cell (World.block_lt_of_cell? w _ hw234_1)).trans hw234_1), ((HB.out.cell (World.block_lt_of_cell? w _ hw234_2)).trans hw234_2), ((HB.out.cell (World.block_lt_of_cell? w _ hw234_3)).trans hw234_3), ((HB.out.cell (World.block_lt_of_cell? w _ hw234_4)).trans hw234_4), ((HB.out.cell (World.block_lt_of_cell? w _ hw234_5)).trans hw234_5), ((HB.out.cell (World.block_lt_of_cell? w _ hw234_6)).trans hw234_6), ((HB.out.cell (World.block_lt_of_cell? w _ hw234_7)).trans hw234_7), ((HB.out.cell (World.block_lt_of_cell? w _ hw235_0)).trans hw235_0), ((HB.out.cell (World.block_lt_of_cell? w _ hw235_1)).trans hw235_1), ((HB.out.cell (World.block_lt_of_cell? w _ hw235_2)).trans hw235_2), ((HB.out.cell (World.block_lt_of_cell? w _ hw235_3)).trans hw235_3), ((HB.out.cell (World.block_lt_of_cell? w _ hw235_4)).trans hw235_4), ((HB.out.cell (World.block_lt_of_cell? w _ hw235_5)).trans hw235_5), ((HB.out.cell (World.block_lt_of_cell? w _ hw235_6)).trans hw235_6), ((HB.out.cell (World.block_lt_of_cell? w _ hw235_7)).trans hw235_7)⟩ (fun hHeld => ?_)
        clear hK K
        refine no_ ?_
        refine pure_ (i := 9) (N := some 26) (v := ?_) (a' := ?_) (bm 10 1023) rfl rfl (any_of HT_.out (by kernel_rfl)) (fun _ _ _ h => h) (Or.inl ⟨(by rfl), ?_⟩) ?_ ?_; rotate_left; intro w'; go_simp; with_reducible rfl; rotate_left; simp only [Act.put, List.setIfInBounds_toArray, List.set_cons_zero, List.set_cons_succ, i64_w, i32_w]; rfl
        refine done_ (done_of HT_.out (by kernel_rfl)) ?_
        try go_wp2
        go_roundg k1
        case measure => have := HK1.out; omega
        case rel => exact ⟨(wrap64 (x5_1 + 1)), m11_, H', ⟨(by have := HK1.out; omega)⟩, ⟨m0_⟩⟩
       ·replace c8 := Bool.eq_false_iff.mpr c8
        subst c8
        have H1 : (some false) = some r := by rw [if_neg (show ¬ (false = true) by decide)] at H; exact H
        clear H
        have H := H1
        clear H1
        obtain rfl := Option.some.inj H
        try go_wp2
        have n0_ := Aside0.mk (below_drew1 HB.out)
        clear HB
        have HB := n0_
        clear n0_
        have p234 : 0 ≤ (x5_1 : Int) := of_decide_eq_true m8_
        have q234 : x5_1 < (l0.length : Int) := of_decide_eq_true m8_
        obtain ⟨ad234, e234, hx234_0, hx234_1, hx234_2, hx234_3, hx234_4, hx234_5, hx234_6, hx234_7⟩ := at_T44 HR0.out x5_1 p234 q234
        have hw234_7 := hx234_7
        have hw234_6 := hx234_6
        have hw234_5 := hx234_5
        have hw234_4 := hx234_4
        have hw234_3 := hx234_3
        have hw234_2 := hx234_2
        have hw234_1 := hx234_1
        have hw234_0 := hx234_0
        cases e234
        replace hx234_0 := (HB.out.cell (World.block_lt_of_cell? w _ hx234_0)).trans hx234_0
        replace hx234_1 := (HB.out.cell (World.block_lt_of_cell? w _ hx234_1)).trans hx234_1
        replace hx234_2 := (HB.out.cell (World.block_lt_of_cell? w _ hx234_2)).trans hx234_2
        replace hx234_3 := (HB.out.cell (World.block_lt_of_cell? w _ hx234_3)).trans hx234_3
        replace hx234_4 := (HB.out.cell (World.block_lt_of_cell? w _ hx234_4)).trans hx234_4
        replace hx234_5 := (HB.out.cell (World.block_lt_of_cell? w _ hx234_5)).trans hx234_5
        replace hx234_6 := (HB.out.cell (World.block_lt_of_cell? w _ hx234_6)).trans hx234_6
        replace hx234_7 := (HB.out.cell (World.block_lt_of_cell? w _ hx234_7)).trans hx234_7
        replace p234 := eq_true p234
        replace q234 := eq_true q234
        have p235 : 0 ≤ (x5_1 : Int) := of_decide_eq_true m8_
        have q235 : x5_1 < (l1.length : Int) := of_decide_eq_true m8_
        obtain ⟨ad235, e235, hx235_0, hx235_1, hx235_2, hx235_3, hx235_4, hx235_5, hx235_6, hx235_7⟩ := at_T44 HR1.out x5_1 p235 q235
        have hw235_7 := hx235_7
        have hw235_6 := hx235_6
        have hw235_5 := hx235_5
        have hw235_4 := hx235_4
        have hw235_3 := hx235_3
        have hw235_2 := hx235_2
        have hw235_1 := hx235_1
        have hw235_0 := hx235_0
        cases e235
        replace hx235_0 := (HB.out.cell (World.block_lt_of_cell? w _ hx235_0)).trans hx235_0
        replace hx235_1 := (HB.out.cell (World.block_lt_of_cell? w _ hx235_1)).trans hx235_1
        replace hx235_2 := (HB.out.cell (World.block_lt_of_cell? w _ hx235_2)).trans hx235_2
        replace hx235_3 := (HB.out.cell (World.block_lt_of_cell? w _ hx235_3)).trans hx235_3
        replace hx235_4 := (HB.out.cell (World.block_lt_of_cell? w _ hx235_4)).trans hx235_4
        replace hx235_5 := (HB.out.cell (World.block_lt_of_cell? w _ hx235_5)).trans hx235_5
        replace hx235_6 := (HB.out.cell (World.block_lt_of_cell? w _ hx235_6)).trans hx235_6
        replace hx235_7 := (HB.out.cell (World.block_lt_of_cell? w _ hx235_7)).trans hx235_7
        replace p235 := eq_true p235
        replace q235 := eq_true q235
        refine start_ (n := 10) (S := fun w' => w'.cell? (ad234.add ((x5_1).toNat * 8)) = some (.string ((rd_T44 l0 x5_1).f0)) ∧ w'.cell? ⟨(ad234.add ((x5_1).toNat * 8)).block, (ad234.add ((x5_1).toNat * 8)).off + 1, none⟩ = some (.int .i64 ((rd_T44 l0 x5_1).f1)) ∧ w'.cell? ⟨(ad234.add ((x5_1).toNat * 8)).block, (ad234.add ((x5_1).toNat * 8)).off + 2, none⟩ = some (.string ((rd_T44 l0 x5_1).f2)) ∧ w'.cell? ⟨(ad234.add ((x5_1).toNat * 8)).block, (ad234.add ((x5_1).toNat * 8)).off + 3, none⟩ = some (.string ((rd_T44 l0 x5_1).f3)) ∧ w'.cell? ⟨(ad234.add ((x5_1).toNat * 8)).block, (ad234.add ((x5_1).toNat * 8)).off + 4, none⟩ = some (.int .i64 ((rd_T44 l0 x5_1).f4)) ∧ w'.cell? ⟨(ad234.add ((x5_1).toNat * 8)).block, (ad234.add ((x5_1).toNat * 8)).off + 5, none⟩ = some (.int .i64 ((rd_T44 l0 x5_1).f5)) ∧ w'.cell? ⟨(ad234.add ((x5_1).toNat * 8)).block, (ad234.add ((x5_1).toNat * 8)).off + 6, none⟩ = some (.string ((rd_T44 l0 x5_1).f6)) ∧ w'.cell? ⟨(ad234.add ((x5_1).toNat * 8)).block, (ad234.add ((x5_1).toNat * 8)).off + 7, none⟩ = some (.string ((rd_T44 l0 x5_1).f7)) ∧ w'.cell? (ad235.add ((x5_1).toNat * 8)) = some (.string ((rd_T44 l1 x5_1).f0)) ∧ w'.cell? ⟨(ad235.add ((x5_1).toNat * 8)).block, (ad235.add ((x5_1).toNat * 8)).off + 1, none⟩ = some (.int .i64 ((rd_T44 l1 x5_1).f1)) ∧ w'.cell? ⟨(ad235.add ((x5_1).toNat * 8)).block, (ad235.add ((x5_1).toNat * 8)).off + 2, none⟩ = some (.string ((rd_T44 l1 x5_1).f2)) ∧ w'.cell? ⟨(ad235.add ((x5_1).toNat * 8)).block, (ad235.add ((x5_1).toNat * 8)).off + 3, none⟩ = some (.string ((rd_T44 l1 x5_1).f3)) ∧ w'.cell? ⟨(ad235.add ((x5_1).toNat * 8)).block, (ad235.add ((x5_1).toNat * 8)).off + 4, none⟩ = some (.int .i64 ((rd_T44 l1 x5_1).f4)) ∧ w'.cell? ⟨(ad235.add ((x5_1).toNat * 8)).block, (ad235.add ((x5_1).toNat * 8)).off + 5, none⟩ = some (.int .i64 ((rd_T44 l1 x5_1).f5)) ∧ w'.cell? ⟨(ad235.add ((x5_1).toNat * 8)).block, (ad235.add ((x5_1).toNat * 8)).off + 6, none⟩ = some (.string ((rd_T44 l1 x5_1).f6)) ∧ w'.cell? ⟨(ad235.add ((x5_1).toNat * 8)).block, (ad235.add ((x5_1).toNat * 8)).off + 7, none⟩ = some (.string ((rd_T44 l1 x5_1).f7))) (ds := []) (bm 10 0) (by kernel_rfl) rfl rfl ⟨((HB.out.cell (World.block_lt_of_cell? w _ hw234_0)).trans hw234_0), ((HB.out.cell (World.block_lt_of_cell? w _ hw234_1)).trans hw234_1), ((HB.out.cell (World.block_lt_of_cell? w _ hw234_2)).trans hw234_2), ((HB.out.cell (World.block_lt_of_cell? w _ hw234_3)).trans hw234_3), ((HB.out.cell (World.block_lt_of_cell? w _ hw234_4)).trans hw234_4), ((HB.out.cell (World.block_lt_of_cell? w _ hw234_5)).trans hw234_5), ((HB.out.cell (World.block_lt_of_cell? w _ hw234_6)).trans hw234_6), ((HB.out.cell (World.block_lt_of_cell? w _ hw234_7)).trans hw234_7), ((HB.out.cell (World.block_lt_of_cell? w _ hw235_0)).trans hw235_0), ((HB.out.cell (World.block_lt_of_cell? w _ hw235_1)).trans hw235_1), ((HB.out.cell (World.block_lt_of_cell? w _ hw235_2)).trans hw235_2), ((HB.out.cell (World.block_lt_of_cell? w _ hw235_3)).trans hw235_3), ((HB.out.cell (World.block_lt_of_cell? w _ hw235_4)).trans hw235_4), ((HB.out.cell (World.block_lt_of_cell? w _ hw235_5)).trans hw235_5), ((HB.out.cell (World.block_lt_of_cell? w _ hw235_6)).trans hw235_6), ((HB.out.cell (World.block_lt_of_cell? w _ hw235_7)).trans hw235_7)⟩ (fun hHeld => ?_); refine with_tabW laws_eqRecPhaseS.tab6 laws_eqRecPhaseS.bits6 (fun HT_ HW_ => ?_)
        generalize wr.drew = w11 at HB hx234_0 hx234_1 hx234_2 hx234_3 hx234_4 hx234_5 hx234_6 hx234_7 hx235_0 hx235_1 hx235_2 hx235_3 hx235_4 hx235_5 hx235_6 hx235_7 hHeld ⊢
        refine pure_ (i := 0) (N := some 17) (v := ?_) (a' := ?_) (bm 10 1) rfl rfl (any_of HT_.out (by kernel_rfl)) (fun _ _ _ h => h) (Or.inl ⟨(by rfl), ?_⟩) ?_ ?_; rotate_left; intro w'; go_simp; with_reducible rfl; rotate_left; simp only [Act.put, List.setIfInBounds_toArray, List.set_cons_zero, List.set_cons_succ, i64_w, i32_w]; rfl
        refine pure_ (i := 1) (N := some 18) (v := ?_) (a' := ?_) (bm 10 3) rfl rfl (any_of HT_.out (by kernel_rfl)) (fun _ _ _ h => h) (Or.inl ⟨(by rfl), ?_⟩) ?_ ?_; rotate_left; intro w'; go_simp; with_reducible rfl; rotate_left; simp only [Act.put, List.setIfInBounds_toArray, List.set_cons_zero, List.set_cons_succ, i64_w, i32_w]; rfl
        refine pure_ (i := 2) (N := some 19) (v := ?_) (a' := ?_) (bm 10 7) rfl rfl (any_of HT_.out (by kernel_rfl)) (fun _ _ _ h => h) (Or.inl ⟨(by rfl), ?_⟩) ?_ ?_; rotate_left; intro w'; go_simp; with_reducible rfl; rotate_left; simp only [Act.put, List.setIfInBounds_toArray, List.set_cons_zero, List.set_cons_succ, i64_w, i32_w]; rfl
        refine pure_ (i := 4) (N := some 21) (v := ?_) (a' := ?_) (bm 10 23) rfl rfl (any_of HT_.out (by kernel_rfl)) (fun _ _ _ h => h) (Or.inl ⟨(by rfl), ?_⟩) ?_ ?_; rotate_left; intro w'; go_simp; with_reducible rfl; rotate_left; simp only [Act.put, List.setIfInBounds_toArray, List.set_cons_zero, List.set_cons_succ, i64_w, i32_w]; rfl
        refine pure_ (i := 5) (N := some 22) (v := ?_) (a' := ?_) (bm 10 55) rfl rfl (any_of HT_.out (by kernel_rfl)) (fun _ _ _ h => h) (Or.inl ⟨(by rfl), ?_⟩) ?_ ?_; rotate_left; intro w'; go_simp; with_reducible rfl; rotate_left; simp only [Act.put, List.setIfInBounds_toArray, List.set_cons_zero, List.set_cons_succ, i64_w, i32_w]; rfl
        refine pure_ (i := 6) (N := some 23) (v := ?_) (a' := ?_) (bm 10 119) rfl rfl (any_of HT_.out (by kernel_rfl)) (fun _ _ _ h => h) (Or.inl ⟨(by rfl), ?_⟩) ?_ ?_; rotate_left; intro w'; go_simp; with_reducible rfl; rotate_left; simp only [Act.put, List.setIfInBounds_toArray, List.set_cons_zero, List.set_cons_succ, i64_w, i32_w]; rfl
        refine take_ (i := 3) (N := some 20) (v := ?_) (a' := ?_) (bm 10 127) rfl rfl (take_ofW HT_.out HW_.out (by kernel_rfl)) (fun _ _ _ h => h) (Or.inl ⟨(by rfl), ?_⟩) hHeld ?_ ?_; rotate_left; rintro w' ⟨s0, s1, s2, s3, s4, s5, s6, s7, s8, s9, s10, s11, s12, s13, s14, s15⟩; go_simp; with_reducible rfl; rotate_left; simp only [Act.put, List.setIfInBounds_toArray, List.set_cons_zero, List.set_cons_succ, i64_w, i32_w]; rfl
        refine take_ (i := 7) (N := some 24) (v := ?_) (a' := ?_) (bm 10 255) rfl rfl (take_ofW HT_.out HW_.out (by kernel_rfl)) (fun _ _ _ h => h) (Or.inl ⟨(by rfl), ?_⟩) hHeld ?_ ?_; rotate_left; rintro w' ⟨s0, s1, s2, s3, s4, s5, s6, s7, s8, s9, s10, s11, s12, s13, s14, s15⟩; go_simp; with_reducible rfl; rotate_left; simp only [Act.put, List.setIfInBounds_toArray, List.set_cons_zero, List.set_cons_succ, i64_w, i32_w]; rfl
        refine one_ (i := 8) (N := some 25) (bm 10 511) rfl rfl (one_of HT_.out (by kernel_rfl)) (by decide) (fun K hK => ?_)
        refine goes_ Try.func38 (by kernel_rfl) rfl #[.agg #[.string ((rd_T44 l0 x5_1).f0), .int .i64 ((rd_T44 l0 x5_1).f1), .string ((rd_T44 l0 x5_1).f2), .string ((rd_T44 l0 x5_1).f3), .int .i64 ((rd_T44 l0 x5_1).f4), .int .i64 ((rd_T44 l0 x5_1).f5), .string ((rd_T44 l0 x5_1).f6), .string ((rd_T44 l0 x5_1).f7)], .agg #[.string ((rd_T44 l1 x5_1).f0), .int .i64 ((rd_T44 l1 x5_1).f1), .string ((rd_T44 l1 x5_1).f2), .string ((rd_T44 l1 x5_1).f3), .int .i64 ((rd_T44 l1 x5_1).f4), .int .i64 ((rd_T44 l1 x5_1).f5), .string ((rd_T44 l1 x5_1).f6), .string ((rd_T44 l1 x5_1).f7)]] (by rfl) rfl rfl m1_ ?_
        with_reducible refine (laws_eqRecPhase.calls ((rd_T44 l0 x5_1).f0) ((rd_T44 l0 x5_1).f1) ((rd_T44 l0 x5_1).f2) ((rd_T44 l0 x5_1).f3) ((rd_T44 l0 x5_1).f4) ((rd_T44 l0 x5_1).f5) ((rd_T44 l0 x5_1).f6) ((rd_T44 l0 x5_1).f7) ((rd_T44 l1 x5_1).f0) ((rd_T44 l1 x5_1).f1) ((rd_T44 l1 x5_1).f2) ((rd_T44 l1 x5_1).f3) ((rd_T44 l1 x5_1).f4) ((rd_T44 l1 x5_1).f5) ((rd_T44 l1 x5_1).f6) ((rd_T44 l1 x5_1).f7) false _ A7.out).mono ?_
        rintro e w12 ⟨rfl, hb⟩
        refine ⟨_, rfl, ?_⟩
        have n0_ := Aside0.mk (below_step m0_ hb)
        clear HB
        have HB := n0_
        clear n0_
        (try clear hb)
        (try clear hb2)
        (try clear hk)
        (try clear hi)
        refine hK.out _ _ ⟨((HB.out.cell (World.block_lt_of_cell? w _ hw234_0)).trans hw234_0), ((HB.out.cell (World.block_lt_of_cell? w _ hw234_1)).trans hw234_1), ((HB.out.cell (World.block_lt_of_cell? w _ hw234_2)).trans hw234_2), ((HB.out.cell (World.block_lt_of_cell? w _ hw234_3)).trans hw234_3), ((HB.out.cell (World.block_lt_of_cell? w _ hw234_4)).trans hw234_4), ((HB.out.cell (World.block_lt_of_cell? w _ hw234_5)).trans hw234_5), ((HB.out.cell (World.block_lt_of_cell? w _ hw234_6)).trans hw234_6), ((HB.out.cell (World.block_lt_of_cell? w _ hw234_7)).trans hw234_7), ((HB.out.cell (World.block_lt_of_cell? w _ hw235_0)).trans hw235_0), ((HB.out.cell (World.block_lt_of_cell? w _ hw235_1)).trans hw235_1), ((HB.out.cell (World.block_lt_of_cell? w _ hw235_2)).trans hw235_2), ((HB.out.cell (World.block_lt_of_cell? w _ hw235_3)).trans hw235_3), ((HB.out.cell (World.block_lt_of_cell? w _ hw235_4)).trans hw235_4), ((HB.out.cell (World.block_lt_of_cell? w _ hw235_5)).trans hw235_5), ((HB.out.cell (World.block_lt_of_cell? w _ hw235_6)).trans hw235_6), ((HB.out.cell (World.block_lt_of_cell? w _ hw235_7)).trans hw235_7)⟩ (fun hHeld => ?_)
        clear hK K
        refine no_ ?_
        refine pure_ (i := 9) (N := some 26) (v := ?_) (a' := ?_) (bm 10 1023) rfl rfl (any_of HT_.out (by kernel_rfl)) (fun _ _ _ h => h) (Or.inl ⟨(by rfl), ?_⟩) ?_ ?_; rotate_left; intro w'; go_simp; with_reducible rfl; rotate_left; simp only [Act.put, List.setIfInBounds_toArray, List.set_cons_zero, List.set_cons_succ, i64_w, i32_w]; rfl
        refine done_ (done_of HT_.out (by kernel_rfl)) ?_
        try go_wp2
        go_ret
        exact ⟨m7_, m0_⟩
      ·rw [if_neg c6] at H
       exact absurd H (by simp)
     ·rw [if_neg c5] at H
      exact absurd H (by simp)
    ·rw [if_neg c4] at H
     have c4b0 : decide (x5_1 < (l0.length : Int)) = false := decide_eq_false c4
     clear c4
     obtain rfl := Option.some.inj H
     go_wp2
     go_ret
     exact ⟨m7_, m0_⟩
 ·rw [if_neg c3] at H
  have c3b0 : ((l0.length : Int) == (l1.length : Int)) = false := beq_eq_false_iff_ne.mpr c3
  have c3b1 : ((l0.length : Int) != (l1.length : Int)) = true := bne_iff_ne.mpr c3
  have c3b2 : (l0.length == l1.length) = false := by first | simpa using c3 | (simp at c3 ⊢; omega)
  obtain rfl := Option.some.inj H
  go_enter Try.func15, Try.ntmps15
  go_wp2
  go_ret
  exact ⟨m7_, m0_⟩

end Go.Proofs.Ytpihcdbkdldbcaa.QFnExactRecGo
namespace Go.Proofs.Ytpihcdbkdldbcaa.QFnExactRecGo
open Go.RowKit Go.Proofs.YtpihcdbkdldbcaaW.PrintWords Go.Proofs.YtpihcdbkdldbcaaW.PrintLast Go.Proofs.YtpihcdbkdldbcaaW.PrintMore
attribute [local go_sem] str_geq str_gtr str_leq max2_int min2_int max_two min_two max_three min_three max_four min_four   -- for this text's walks alone
set_option linter.unusedVariables false
set_option linter.unusedSimpArgs false
/-! ### laws_FnExactRecGo: function 3 -/
def laws_FnExactRecGo.j0 : Nat → List (S58) → List (S44) → Bool → Option (Bool)
 | 0, _, _, _ => none
 | k + 1, x0, x10, x52 => if x52 = true then (some false) else ((laws_toRecPhaseS.f k x0).bind fun t268 => ((laws_eqRecPhaseS.f k x10 t268).bind fun t271 => (if t271 = true then (some true) else (some false))))
def laws_FnExactRecGo.f (k : Nat) (l0 : List (S58)) (a1_0 : ByteArray) (a1_1 : Int) (a1_2 : Int) (a2_0 : Int) (a2_1 : Bool) : Option (Bool) := (laws_szRecPhaseS.f k l0 1048576).bind fun t239 => (if t239 < 0 then (some true) else ((laws_szRecState.f a1_0 a1_1 a1_2 t239).bind fun t240 => (if t240 < 0 then (some true) else ((laws_toRecPhaseS.f k l0).bind fun t241 => ((laws_toRecState.f a1_0 a1_1 a1_2).bind fun bt244 => ((laws_toRecSay.f a2_0 a2_1).bind fun bt247 => ((spec_RecGo.f k t241 bt244.1 bt244.2.1 bt244.2.2 bt247.1 bt247.2).bind fun bt249 => ((laws_toRecPhaseS.f k l0).bind fun t254 => ((laws_toRecState.f a1_0 a1_1 a1_2).bind fun bt257 => ((laws_toRecSay.f a2_0 a2_1).bind fun bt260 => ((impl_RecGo.f k t254 bt257.1 bt257.2.1 bt257.2.2 bt260.1 bt260.2).bind fun bt262 => ((laws_eqRecState.f bt262.1 bt262.2.1 bt262.2.2.1 bt249.1 bt249.2.1 bt249.2.2.1).bind fun t267 => (if t267 = true then (laws_FnExactRecGo.j0 k l0 t254 (bt262.2.2.2 != bt249.2.2.2)) else (laws_FnExactRecGo.j0 k l0 t254 true))))))))))))))
theorem laws_FnExactRecGo.mono_l : ∀ k, (∀ y0 y1 y2, LeO (laws_FnExactRecGo.j0 k y0 y1 y2) (laws_FnExactRecGo.j0 (k + 1) y0 y1 y2))
 | 0 => fun _ _ _ r h => by simp [laws_FnExactRecGo.j0] at h
 | k + 1 => by
  have ih0 := laws_FnExactRecGo.mono_l k
  ·intro y0 y1 y2
   unfold laws_FnExactRecGo.j0
   repeat' first
   | (with_reducible exact ih0 _ _ _)
   | (with_reducible exact impl_RecGo.mono _ _ _ _ _ _ _)
   | (with_reducible exact laws_eqRecPhaseS.mono _ _ _)
   | (with_reducible exact laws_szRecPhaseS.mono _ _ _)
   | (with_reducible exact laws_toRecPhaseS.mono _ _)
   | (with_reducible exact spec_RecGo.mono _ _ _ _ _ _ _)
   | (with_reducible exact LeO.refl _)
   | (with_reducible exact LeO.none _)
   | (with_reducible refine LeO.ite ?_ ?_)
   | (with_reducible refine LeO.bind ?_ (fun _ => ?_))
   | exact ih0 _ _ _
   | exact impl_RecGo.mono _ _ _ _ _ _ _
   | exact laws_eqRecPhaseS.mono _ _ _
   | exact laws_szRecPhaseS.mono _ _ _
   | exact laws_toRecPhaseS.mono _ _
   | exact spec_RecGo.mono _ _ _ _ _ _ _
   | exact LeO.none _
   | refine LeO.ite ?_ ?_
   | refine LeO.bind ?_ (fun _ => ?_)
theorem laws_FnExactRecGo.mono : ∀ a0 a1 a2 a3 a4 a5 k, LeO (laws_FnExactRecGo.f k a0 a1 a2 a3 a4 a5) (laws_FnExactRecGo.f (k + 1) a0 a1 a2 a3 a4 a5) := by
 intro a0 a1 a2 a3 a4 a5 k
 have ih0 := laws_FnExactRecGo.mono_l k
 unfold laws_FnExactRecGo.f
 repeat' first
   | (with_reducible exact ih0 _ _ _)
   | (with_reducible exact impl_RecGo.mono _ _ _ _ _ _ _)
   | (with_reducible exact laws_eqRecPhaseS.mono _ _ _)
   | (with_reducible exact laws_szRecPhaseS.mono _ _ _)
   | (with_reducible exact laws_toRecPhaseS.mono _ _)
   | (with_reducible exact spec_RecGo.mono _ _ _ _ _ _ _)
   | (with_reducible exact LeO.refl _)
   | (with_reducible exact LeO.none _)
   | (with_reducible refine LeO.ite ?_ ?_)
   | (with_reducible refine LeO.bind ?_ (fun _ => ?_))
   | exact ih0 _ _ _
   | exact impl_RecGo.mono _ _ _ _ _ _ _
   | exact laws_eqRecPhaseS.mono _ _ _
   | exact laws_szRecPhaseS.mono _ _ _
   | exact laws_toRecPhaseS.mono _ _
   | exact spec_RecGo.mono _ _ _ _ _ _ _
   | exact LeO.none _
   | refine LeO.ite ?_ ?_
   | refine LeO.bind ?_ (fun _ => ?_)
def laws_FnExactRecGo.T8 : Bool × List (List Nat × List Nat) := (true, [([], []), ([0], [0]), ([], []), ([2, 1], [2]), ([], []), ([4, 3], [4]), ([1, 3, 5, 5], [1, 3, 5]), ([6], [6]), ([7], [7]), ([7], [7]), ([], []), ([10, 8, 6, 0, 1, 2, 3, 4, 5, 6, 7, 8, 10], [8, 10]), ([9, 11, 0, 1, 2, 3, 4, 5, 6, 7, 8, 9, 10, 11], [9])])
def laws_FnExactRecGo.B8 : List Nat := [0, 1, 0, 7, 0, 31, 63, 127, 255, 255, 0, 1535, 4095]
theorem laws_FnExactRecGo.tab8 : rtab .any (opsOf Try.f3 8) = laws_FnExactRecGo.T8 := by kernel_rfl
theorem laws_FnExactRecGo.bits8 : waitsOk laws_FnExactRecGo.T8.2 laws_FnExactRecGo.B8 = true := by kernel_rfl
def laws_FnExactRecGo.T10 : Bool × List (List Nat × List Nat) := (true, [([], []), ([], []), ([1], [1]), ([], []), ([3, 2], [3]), ([0, 2, 4, 4], [0, 2, 4]), ([5], [5]), ([6], [6]), ([6], [6]), ([], []), ([9, 7, 5, 0, 1, 2, 3, 4, 5, 6, 7, 9], [7, 9]), ([8, 10, 0, 1, 2, 3, 4, 5, 6, 7, 8, 9, 10], [8])])
def laws_FnExactRecGo.B10 : List Nat := [0, 0, 2, 0, 14, 31, 63, 127, 127, 0, 767, 2047]
theorem laws_FnExactRecGo.tab10 : rtab .any (opsOf Try.f3 10) = laws_FnExactRecGo.T10 := by kernel_rfl
theorem laws_FnExactRecGo.bits10 : waitsOk laws_FnExactRecGo.T10.2 laws_FnExactRecGo.B10 = true := by kernel_rfl
set_option maxHeartbeats 8000000 in
set_option maxRecDepth 100000 in
theorem laws_FnExactRecGo.calls (k : Nat) (A0 : Option Addr) (c0 : Nat) (l0 : List (S58)) (a1_0 : ByteArray) (a1_1 : Int) (a1_2 : Int) (a2_0 : Int) (a2_1 : Bool) (r : Bool) (w : World) (hr0 : Kd.C k58 w A0 l0.length l0) (hc0 : l0.length ≤ c0) (h : laws_FnExactRecGo.f k l0 a1_0 a1_1 a1_2 a2_0 a2_1 = some r) :
  Calls Try.prog 3 #[.slice A0 l0.length c0, .agg #[.string a1_0, .int .i64 a1_1, .int .i64 a1_2], .agg #[.int .i64 a2_0, .bool a2_1]] w fun e w' => e = .returned (.bool r) ∧ Below w.heap.size w w' := by
 have hu24 := Try.underlying24
 have hu26 := Try.underlying26
 have hu29 := Try.underlying29
 have HR0 := Aside0.mk hr0
 have HC0 := Aside0.mk hc0
 clear hr0 hc0
 have HB := Aside0.mk (Below.refl w.heap.size w)
 have H : ((laws_szRecPhaseS.f k l0 1048576).bind fun t239 => (if t239 < 0 then (some true) else ((laws_szRecState.f a1_0 a1_1 a1_2 t239).bind fun t240 => (if t240 < 0 then (some true) else ((laws_toRecPhaseS.f k l0).bind fun t241 => ((laws_toRecState.f a1_0 a1_1 a1_2).bind fun bt244 => ((laws_toRecSay.f a2_0 a2_1).bind fun bt247 => ((spec_RecGo.f k t241 bt244.1 bt244.2.1 bt244.2.2 bt247.1 bt247.2).bind fun bt249 => ((laws_toRecPhaseS.f k l0).bind fun t254 => ((laws_toRecState.f a1_0 a1_1 a1_2).bind fun bt257 => ((laws_toRecSay.f a2_0 a2_1).bind fun bt260 => ((impl_RecGo.f k t254 bt257.1 bt257.2.1 bt257.2.2 bt260.1 bt260.2).bind fun bt262 => ((laws_eqRecState.f bt262.1 bt262.2.1 bt262.2.2.1 bt249.1 bt249.2.1 bt249.2.2.1).bind fun t267 => (if t267 = true then (laws_FnExactRecGo.j0 k l0 t254 (bt262.2.2.2 != bt249.2.2.2)) else (laws_FnExactRecGo.j0 k l0 t254 true))))))))))))))) = some r := h
 clear h
 replace H := Option.bind_eq_some_iff.mp H
 obtain ⟨t239, A40, H⟩ := H
 replace H : (if t239 < 0 then (some true) else ((laws_szRecState.f a1_0 a1_1 a1_2 t239).bind fun t240 => (if t240 < 0 then (some true) else ((laws_toRecPhaseS.f k l0).bind fun t241 => ((laws_toRecState.f a1_0 a1_1 a1_2).bind fun bt244 => ((laws_toRecSay.f a2_0 a2_1).bind fun bt247 => ((spec_RecGo.f k t241 bt244.1 bt244.2.1 bt244.2.2 bt247.1 bt247.2).bind fun bt249 => ((laws_toRecPhaseS.f k l0).bind fun t254 => ((laws_toRecState.f a1_0 a1_1 a1_2).bind fun bt257 => ((laws_toRecSay.f a2_0 a2_1).bind fun bt260 => ((impl_RecGo.f k t254 bt257.1 bt257.2.1 bt257.2.2 bt260.1 bt260.2).bind fun bt262 => ((laws_eqRecState.f bt262.1 bt262.2.1 bt262.2.2.1 bt249.1 bt249.2.1 bt249.2.2.1).bind fun t267 => (if t267 = true then (laws_FnExactRecGo.j0 k l0 t254 (bt262.2.2.2 != bt249.2.2.2)) else (laws_FnExactRecGo.j0 k l0 t254 true)))))))))))))) = some r := H
 have A4 := Aside0.mk A40
 clear A40
 by_cases c5 : t239 < 0
 ·rw [if_pos c5] at H
  have c5b0 : decide (t239 < 0) = true := decide_eq_true c5
  clear c5
  obtain rfl := Option.some.inj H
  go_enter Try.func3, Try.ntmps3
  go_wp2_with (first | ((with_reducible refine gate_dst (N := 4) rfl ?_); refine box_event ?hg (N := 4) ?hd (cs := #[.string a1_0, .int .i64 a1_1, .int .i64 a1_2]) (t := 24) ?hr ?_; (case hd => rfl); (case hg => rfl); (case hr => first | (go_simp; done) | (go_simp; rfl)); intro gb237 hg w6 hbox hb; have n0_ := Aside0.mk (below_step m0_ hb); have n1_ := Aside0.mk (hbox); have n2_ := Aside0.mk ((by rw [hg]; exact (below_size m0_) : w.heap.size ≤ gb237)); have n3_ := Aside0.mk ((by rw [hg]; exact (below_size m0_) : w.heap.size ≤ gb237)); clear HB; have HB := n0_; have BK237 := n1_; have GW237 := n2_; have GE237 := n3_; clear n0_ n1_ n2_ n3_; clear hb hbox hg) | ((with_reducible refine gate_dst (N := 5) rfl ?_); refine box_event ?hg (N := 5) ?hd (cs := #[.int .i64 a2_0, .bool a2_1]) (t := 26) ?hr ?_; (case hd => rfl); (case hg => rfl); (case hr => first | (go_simp; done) | (go_simp; rfl)); intro gb238 hg w7 hbox hb; have n0_ := Aside0.mk (blk_below (g := gb237) (o := .cells #[.string a1_0, .int .i64 a1_1, .int .i64 a1_2] 24 (0, 0)) m2_ hb); have n1_ := Aside0.mk (below_step m30_ hb); have n2_ := Aside0.mk (hbox); have n3_ := Aside0.mk ((by rw [hg]; exact (below_size m30_) : w.heap.size ≤ gb238)); have n4_ := Aside0.mk ((by rw [hg]; exact (below_size m30_) : w.heap.size ≤ gb238)); have n5_ := Aside0.mk ((by rw [hg]; exact Nat.ne_of_lt (blk_lt (g := gb237) (o := .cells #[.string a1_0, .int .i64 a1_1, .int .i64 a1_2] 24 (0, 0)) m2_) : gb237 ≠ gb238)); have n6_ := Aside0.mk ((by rw [hg]; exact Nat.ne_of_gt (blk_lt (g := gb237) (o := .cells #[.string a1_0, .int .i64 a1_1, .int .i64 a1_2] 24 (0, 0)) m2_) : gb238 ≠ gb237)); clear BK237; clear HB; have BK237 := n0_; have HB := n1_; have BK238 := n2_; have GW238 := n3_; have GE238 := n4_; have NB237_238 := n5_; have NB238_237 := n6_; clear n0_ n1_ n2_ n3_ n4_ n5_ n6_; clear hb hbox hg) | ((with_reducible refine gate_callee (f := 7) rfl ?_); refine goesL_ (some 15) rfl rfl Try.func7 (by kernel_rfl) rfl #[.slice A0 l0.length c0, .int .i64 1048576] rfl m1_ ?_; (with_reducible refine (laws_szRecPhaseS.calls k _ _ l0 1048576 t239 _ ?side1 ?side2 A4.out).mono ?_); (case side1 => exact m12_); (case side2 => exact HC0.out); rintro e w8 ⟨rfl, hb⟩; refine ⟨_, rfl, ?_⟩; have n0_ := Aside0.mk (blk_below (g := gb237) (o := .cells #[.string a1_0, .int .i64 a1_1, .int .i64 a1_2] 24 (0, 0)) m2_ hb); have n1_ := Aside0.mk (blk_below (g := gb238) (o := .cells #[.int .i64 a2_0, .bool a2_1] 26 (0, 0)) m3_ hb); have n2_ := Aside0.mk (below_step m5_ hb); clear BK237; clear BK238; clear HB; have BK237 := n0_; have BK238 := n1_; have HB := n2_; clear n0_ n1_ n2_; (try clear hb); (try clear hb2); (try clear hk); (try clear hi)))
  go_ret
  exact ⟨m7_, m5_⟩
 ·rw [if_neg c5] at H
  have c5b0 : decide (t239 < 0) = false := decide_eq_false c5
  clear c5
  replace H := Option.bind_eq_some_iff.mp H
  obtain ⟨t240, A90, H⟩ := H
  replace H : (if t240 < 0 then (some true) else ((laws_toRecPhaseS.f k l0).bind fun t241 => ((laws_toRecState.f a1_0 a1_1 a1_2).bind fun bt244 => ((laws_toRecSay.f a2_0 a2_1).bind fun bt247 => ((spec_RecGo.f k t241 bt244.1 bt244.2.1 bt244.2.2 bt247.1 bt247.2).bind fun bt249 => ((laws_toRecPhaseS.f k l0).bind fun t254 => ((laws_toRecState.f a1_0 a1_1 a1_2).bind fun bt257 => ((laws_toRecSay.f a2_0 a2_1).bind fun bt260 => ((impl_RecGo.f k t254 bt257.1 bt257.2.1 bt257.2.2 bt260.1 bt260.2).bind fun bt262 => ((laws_eqRecState.f bt262.1 bt262.2.1 bt262.2.2.1 bt249.1 bt249.2.1 bt249.2.2.1).bind fun t267 => (if t267 = true then (laws_FnExactRecGo.j0 k l0 t254 (bt262.2.2.2 != bt249.2.2.2)) else (laws_FnExactRecGo.j0 k l0 t254 true)))))))))))) = some r := H
  have A9 := Aside0.mk A90
  clear A90
  by_cases c10 : t240 < 0
  ·rw [if_pos c10] at H
   have c10b0 : decide (t240 < 0) = true := decide_eq_true c10
   clear c10
   obtain rfl := Option.some.inj H
   go_enter Try.func3, Try.ntmps3
   go_wp2_with (first | ((with_reducible refine gate_dst (N := 4) rfl ?_); refine box_event ?hg (N := 4) ?hd (cs := #[.string a1_0, .int .i64 a1_1, .int .i64 a1_2]) (t := 24) ?hr ?_; (case hd => rfl); (case hg => rfl); (case hr => first | (go_simp; done) | (go_simp; rfl)); intro gb237 hg w11 hbox hb; have n0_ := Aside0.mk (below_step m0_ hb); have n1_ := Aside0.mk (hbox); have n2_ := Aside0.mk ((by rw [hg]; exact (below_size m0_) : w.heap.size ≤ gb237)); have n3_ := Aside0.mk ((by rw [hg]; exact (below_size m0_) : w.heap.size ≤ gb237)); clear HB; have HB := n0_; have BK237 := n1_; have GW237 := n2_; have GE237 := n3_; clear n0_ n1_ n2_ n3_; clear hb hbox hg) | ((with_reducible refine gate_dst (N := 5) rfl ?_); refine box_event ?hg (N := 5) ?hd (cs := #[.int .i64 a2_0, .bool a2_1]) (t := 26) ?hr ?_; (case hd => rfl); (case hg => rfl); (case hr => first | (go_simp; done) | (go_simp; rfl)); intro gb238 hg w12 hbox hb; have n0_ := Aside0.mk (blk_below (g := gb237) (o := .cells #[.string a1_0, .int .i64 a1_1, .int .i64 a1_2] 24 (0, 0)) m2_ hb); have n1_ := Aside0.mk (below_step m30_ hb); have n2_ := Aside0.mk (hbox); have n3_ := Aside0.mk ((by rw [hg]; exact (below_size m30_) : w.heap.size ≤ gb238)); have n4_ := Aside0.mk ((by rw [hg]; exact (below_size m30_) : w.heap.size ≤ gb238)); have n5_ := Aside0.mk ((by rw [hg]; exact Nat.ne_of_lt (blk_lt (g := gb237) (o := .cells #[.string a1_0, .int .i64 a1_1, .int .i64 a1_2] 24 (0, 0)) m2_) : gb237 ≠ gb238)); have n6_ := Aside0.mk ((by rw [hg]; exact Nat.ne_of_gt (blk_lt (g := gb237) (o := .cells #[.string a1_0, .int .i64 a1_1, .int .i64 a1_2] 24 (0, 0)) m2_) : gb238 ≠ gb237)); clear BK237; clear HB; have BK237 := n0_; have HB := n1_; have BK238 := n2_; have GW238 := n3_; have GE238 := n4_; have NB237_238 := n5_; have NB238_237 := n6_; clear n0_ n1_ n2_ n3_ n4_ n5_ n6_; clear hb hbox hg) | ((with_reducible refine gate_callee (f := 7) rfl ?_); refine goesL_ (some 15) rfl rfl Try.func7 (by kernel_rfl) rfl #[.slice A0 l0.length c0, .int .i64 1048576] rfl m1_ ?_; (with_reducible refine (laws_szRecPhaseS.calls k _ _ l0 1048576 t239 _ ?side1 ?side2 A4.out).mono ?_); (case side1 => exact m12_); (case side2 => exact HC0.out); rintro e w13 ⟨rfl, hb⟩; refine ⟨_, rfl, ?_⟩; have n0_ := Aside0.mk (blk_below (g := gb237) (o := .cells #[.string a1_0, .int .i64 a1_1, .int .i64 a1_2] 24 (0, 0)) m2_ hb); have n1_ := Aside0.mk (blk_below (g := gb238) (o := .cells #[.int .i64 a2_0, .bool a2_1] 26 (0, 0)) m3_ hb); have n2_ := Aside0.mk (below_step m5_ hb); clear BK237; clear BK238; clear HB; have BK237 := n0_; have BK238 := n1_; have HB := n2_; clear n0_ n1_ n2_; (try clear hb); (try clear hb2); (try clear hk); (try clear hi); have hnb14 := NB237_238.out; have hnc14 := NB238_237.out; obtain ⟨hcz15_0, hcz15_1, hcz15_2⟩ := cz3_ BK237.out; obtain ⟨hfz15_0, hfz15_1, hfz15_2⟩ := fz3_ BK237.out) | ((with_reducible refine gate_callee (f := 8) rfl ?_); refine goesL_ (some 20) rfl rfl Try.func8 (by kernel_rfl) rfl #[.agg #[.string a1_0, .int .i64 a1_1, .int .i64 a1_2], .int .i64 t239] rfl m1_ ?_; (with_reducible refine (laws_szRecState.calls a1_0 a1_1 a1_2 t239 t240 _ A9.out).mono ?_); rintro e w16 ⟨rfl, hb⟩; refine ⟨_, rfl, ?_⟩; have n0_ := Aside0.mk (blk_below (g := gb237) (o := .cells #[.string a1_0, .int .i64 a1_1, .int .i64 a1_2] 24 (0, 0)) m2_ hb); have n1_ := Aside0.mk (blk_below (g := gb238) (o := .cells #[.int .i64 a2_0, .bool a2_1] 26 (0, 0)) m3_ hb); have n2_ := Aside0.mk (below_step m5_ hb); clear BK237; clear BK238; clear HB; have BK237 := n0_; have BK238 := n1_; have HB := n2_; clear n0_ n1_ n2_; (try clear hb); (try clear hb2); (try clear hk); (try clear hi)))
   go_ret
   exact ⟨m7_, m5_⟩
  ·rw [if_neg c10] at H
   have c10b0 : decide (t240 < 0) = false := decide_eq_false c10
   clear c10
   replace H := Option.bind_eq_some_iff.mp H
   obtain ⟨t241, A170, H⟩ := H
   replace H : ((laws_toRecState.f a1_0 a1_1 a1_2).bind fun bt244 => ((laws_toRecSay.f a2_0 a2_1).bind fun bt247 => ((spec_RecGo.f k t241 bt244.1 bt244.2.1 bt244.2.2 bt247.1 bt247.2).bind fun bt249 => ((laws_toRecPhaseS.f k l0).bind fun t254 => ((laws_toRecState.f a1_0 a1_1 a1_2).bind fun bt257 => ((laws_toRecSay.f a2_0 a2_1).bind fun bt260 => ((impl_RecGo.f k t254 bt257.1 bt257.2.1 bt257.2.2 bt260.1 bt260.2).bind fun bt262 => ((laws_eqRecState.f bt262.1 bt262.2.1 bt262.2.2.1 bt249.1 bt249.2.1 bt249.2.2.1).bind fun t267 => (if t267 = true then (laws_FnExactRecGo.j0 k l0 t254 (bt262.2.2.2 != bt249.2.2.2)) else (laws_FnExactRecGo.j0 k l0 t254 true)))))))))) = some r := H
   have A17 := Aside0.mk A170
   clear A170
   replace H := Option.bind_eq_some_iff.mp H
   obtain ⟨⟨t244, t245, t246⟩, A180, H⟩ := H
   replace H : ((laws_toRecSay.f a2_0 a2_1).bind fun bt247 => ((spec_RecGo.f k t241 t244 t245 t246 bt247.1 bt247.2).bind fun bt249 => ((laws_toRecPhaseS.f k l0).bind fun t254 => ((laws_toRecState.f a1_0 a1_1 a1_2).bind fun bt257 => ((laws_toRecSay.f a2_0 a2_1).bind fun bt260 => ((impl_RecGo.f k t254 bt257.1 bt257.2.1 bt257.2.2 bt260.1 bt260.2).bind fun bt262 => ((laws_eqRecState.f bt262.1 bt262.2.1 bt262.2.2.1 bt249.1 bt249.2.1 bt249.2.2.1).bind fun t267 => (if t267 = true then (laws_FnExactRecGo.j0 k l0 t254 (bt262.2.2.2 != bt249.2.2.2)) else (laws_FnExactRecGo.j0 k l0 t254 true))))))))) = some r := H
   have A18 := Aside0.mk A180
   clear A180
   replace H := Option.bind_eq_some_iff.mp H
   obtain ⟨⟨t247, t248⟩, A190, H⟩ := H
   replace H : ((spec_RecGo.f k t241 t244 t245 t246 t247 t248).bind fun bt249 => ((laws_toRecPhaseS.f k l0).bind fun t254 => ((laws_toRecState.f a1_0 a1_1 a1_2).bind fun bt257 => ((laws_toRecSay.f a2_0 a2_1).bind fun bt260 => ((impl_RecGo.f k t254 bt257.1 bt257.2.1 bt257.2.2 bt260.1 bt260.2).bind fun bt262 => ((laws_eqRecState.f bt262.1 bt262.2.1 bt262.2.2.1 bt249.1 bt249.2.1 bt249.2.2.1).bind fun t267 => (if t267 = true then (laws_FnExactRecGo.j0 k l0 t254 (bt262.2.2.2 != bt249.2.2.2)) else (laws_FnExactRecGo.j0 k l0 t254 true)))))))) = some r := H
   have A19 := Aside0.mk A190
   clear A190
   replace H := Option.bind_eq_some_iff.mp H
   obtain ⟨⟨t249, t250, t251, t252⟩, A200, H⟩ := H
   replace H : ((laws_toRecPhaseS.f k l0).bind fun t254 => ((laws_toRecState.f a1_0 a1_1 a1_2).bind fun bt257 => ((laws_toRecSay.f a2_0 a2_1).bind fun bt260 => ((impl_RecGo.f k t254 bt257.1 bt257.2.1 bt257.2.2 bt260.1 bt260.2).bind fun bt262 => ((laws_eqRecState.f bt262.1 bt262.2.1 bt262.2.2.1 t249 t250 t251).bind fun t267 => (if t267 = true then (laws_FnExactRecGo.j0 k l0 t254 (bt262.2.2.2 != t252)) else (laws_FnExactRecGo.j0 k l0 t254 true))))))) = some r := H
   have A20 := Aside0.mk A200
   clear A200
   replace H := Option.bind_eq_some_iff.mp H
   obtain ⟨t254, A210, H⟩ := H
   replace H : ((laws_toRecState.f a1_0 a1_1 a1_2).bind fun bt257 => ((laws_toRecSay.f a2_0 a2_1).bind fun bt260 => ((impl_RecGo.f k t254 bt257.1 bt257.2.1 bt257.2.2 bt260.1 bt260.2).bind fun bt262 => ((laws_eqRecState.f bt262.1 bt262.2.1 bt262.2.2.1 t249 t250 t251).bind fun t267 => (if t267 = true then (laws_FnExactRecGo.j0 k l0 t254 (bt262.2.2.2 != t252)) else (laws_FnExactRecGo.j0 k l0 t254 true)))))) = some r := H
   have A21 := Aside0.mk A210
   clear A210
   replace H := Option.bind_eq_some_iff.mp H
   obtain ⟨⟨t257, t258, t259⟩, A220, H⟩ := H
   replace H : ((laws_toRecSay.f a2_0 a2_1).bind fun bt260 => ((impl_RecGo.f k t254 t257 t258 t259 bt260.1 bt260.2).bind fun bt262 => ((laws_eqRecState.f bt262.1 bt262.2.1 bt262.2.2.1 t249 t250 t251).bind fun t267 => (if t267 = true then (laws_FnExactRecGo.j0 k l0 t254 (bt262.2.2.2 != t252)) else (laws_FnExactRecGo.j0 k l0 t254 true))))) = some r := H
   have A22 := Aside0.mk A220
   clear A220
   replace H := Option.bind_eq_some_iff.mp H
   obtain ⟨⟨t260, t261⟩, A230, H⟩ := H
   replace H : ((impl_RecGo.f k t254 t257 t258 t259 t260 t261).bind fun bt262 => ((laws_eqRecState.f bt262.1 bt262.2.1 bt262.2.2.1 t249 t250 t251).bind fun t267 => (if t267 = true then (laws_FnExactRecGo.j0 k l0 t254 (bt262.2.2.2 != t252)) else (laws_FnExactRecGo.j0 k l0 t254 true)))) = some r := H
   have A23 := Aside0.mk A230
   clear A230
   replace H := Option.bind_eq_some_iff.mp H
   obtain ⟨⟨t262, t263, t264, t265⟩, A240, H⟩ := H
   replace H : ((laws_eqRecState.f t262 t263 t264 t249 t250 t251).bind fun t267 => (if t267 = true then (laws_FnExactRecGo.j0 k l0 t254 (t265 != t252)) else (laws_FnExactRecGo.j0 k l0 t254 true))) = some r := H
   have A24 := Aside0.mk A240
   clear A240
   have HC25 := Aside0.mk H
   clear H
   go_enter Try.func3, Try.ntmps3
   try go_wp2_with (first | ((with_reducible refine gate_dst (N := 4) rfl ?_); refine box_event ?hg (N := 4) ?hd (cs := #[.string a1_0, .int .i64 a1_1, .int .i64 a1_2]) (t := 24) ?hr ?_; (case hd => rfl); (case hg => rfl); (case hr => first | (go_simp; done) | (go_simp; rfl)); intro gb237 hg w26 hbox hb; have n0_ := Aside0.mk (below_step m0_ hb); have n1_ := Aside0.mk (hbox); have n2_ := Aside0.mk ((by rw [hg]; exact (below_size m0_) : w.heap.size ≤ gb237)); have n3_ := Aside0.mk ((by rw [hg]; exact (below_size m0_) : w.heap.size ≤ gb237)); clear HB; have HB := n0_; have BK237 := n1_; have GW237 := n2_; have GE237 := n3_; clear n0_ n1_ n2_ n3_; clear hb hbox hg) | ((with_reducible refine gate_dst (N := 5) rfl ?_); refine box_event ?hg (N := 5) ?hd (cs := #[.int .i64 a2_0, .bool a2_1]) (t := 26) ?hr ?_; (case hd => rfl); (case hg => rfl); (case hr => first | (go_simp; done) | (go_simp; rfl)); intro gb238 hg w27 hbox hb; have n0_ := Aside0.mk (blk_below (g := gb237) (o := .cells #[.string a1_0, .int .i64 a1_1, .int .i64 a1_2] 24 (0, 0)) m2_ hb); have n1_ := Aside0.mk (below_step m30_ hb); have n2_ := Aside0.mk (hbox); have n3_ := Aside0.mk ((by rw [hg]; exact (below_size m30_) : w.heap.size ≤ gb238)); have n4_ := Aside0.mk ((by rw [hg]; exact (below_size m30_) : w.heap.size ≤ gb238)); have n5_ := Aside0.mk ((by rw [hg]; exact Nat.ne_of_lt (blk_lt (g := gb237) (o := .cells #[.string a1_0, .int .i64 a1_1, .int .i64 a1_2] 24 (0, 0)) m2_) : gb237 ≠ gb238)); have n6_ := Aside0.mk ((by rw [hg]; exact Nat.ne_of_gt (blk_lt (g := gb237) (o := .cells #[.string a1_0, .int .i64 a1_1, .int .i64 a1_2] 24 (0, 0)) m2_) : gb238 ≠ gb237)); clear BK237; clear HB; have BK237 := n0_; have HB := n1_; have BK238 := n2_; have GW238 := n3_; have GE238 := n4_; have NB237_238 := n5_; have NB238_237 := n6_; clear n0_ n1_ n2_ n3_ n4_ n5_ n6_; clear hb hbox hg) | ((with_reducible refine gate_callee (f := 7) rfl ?_); refine goesL_ (some 15) rfl rfl Try.func7 (by kernel_rfl) rfl #[.slice A0 l0.length c0, .int .i64 1048576] rfl m1_ ?_; (with_reducible refine (laws_szRecPhaseS.calls k _ _ l0 1048576 t239 _ ?side1 ?side2 A4.out).mono ?_); (case side1 => exact m12_); (case side2 => exact HC0.out); rintro e w28 ⟨rfl, hb⟩; refine ⟨_, rfl, ?_⟩; have n0_ := Aside0.mk (blk_below (g := gb237) (o := .cells #[.string a1_0, .int .i64 a1_1, .int .i64 a1_2] 24 (0, 0)) m2_ hb); have n1_ := Aside0.mk (blk_below (g := gb238) (o := .cells #[.int .i64 a2_0, .bool a2_1] 26 (0, 0)) m3_ hb); have n2_ := Aside0.mk (below_step m5_ hb); clear BK237; clear BK238; clear HB; have BK237 := n0_; have BK238 := n1_; have HB := n2_; clear n0_ n1_ n2_; (try clear hb); (try clear hb2); (try clear hk); (try clear hi); have hnb29 := NB237_238.out; have hnc29 := NB238_237.out; obtain ⟨hcz30_0, hcz30_1, hcz30_2⟩ := cz3_ BK237.out; obtain ⟨hfz30_0, hfz30_1, hfz30_2⟩ := fz3_ BK237.out) | ((with_reducible refine gate_callee (f := 8) rfl ?_); refine goesL_ (some 20) rfl rfl Try.func8 (by kernel_rfl) rfl #[.agg #[.string a1_0, .int .i64 a1_1, .int .i64 a1_2], .int .i64 t239] rfl m1_ ?_; (with_reducible refine (laws_szRecState.calls a1_0 a1_1 a1_2 t239 t240 _ A9.out).mono ?_); rintro e w31 ⟨rfl, hb⟩; refine ⟨_, rfl, ?_⟩; have n0_ := Aside0.mk (blk_below (g := gb237) (o := .cells #[.string a1_0, .int .i64 a1_1, .int .i64 a1_2] 24 (0, 0)) m2_ hb); have n1_ := Aside0.mk (blk_below (g := gb238) (o := .cells #[.int .i64 a2_0, .bool a2_1] 26 (0, 0)) m3_ hb); have n2_ := Aside0.mk (below_step m5_ hb); clear BK237; clear BK238; clear HB; have BK237 := n0_; have BK238 := n1_; have HB := n2_; clear n0_ n1_ n2_; (try clear hb); (try clear hb2); (try clear hk); (try clear hi)))
   have n0_ := Aside0.mk (blk_drew BK237.out)
   have n1_ := Aside0.mk (blk_drew BK238.out)
   have n2_ := Aside0.mk (below_drew1 HB.out)
   clear BK237
   clear BK238
   clear HB
   have BK237 := n0_
   have BK238 := n1_
   have HB := n2_
   clear n0_ n1_ n2_
   refine start_ (n := 13) (S := fun w' => w'.cell? ⟨gb237, 0, none⟩ = some (.string a1_0) ∧ w'.cell? ⟨gb237, 1, none⟩ = some (.int .i64 a1_1) ∧ w'.cell? ⟨gb237, 2, none⟩ = some (.int .i64 a1_2) ∧ w'.cell? ⟨gb238, 0, none⟩ = some (.int .i64 a2_0) ∧ w'.cell? ⟨gb238, 1, none⟩ = some (.bool a2_1)) (ds := []) (bm 13 0) (by kernel_rfl) rfl rfl ⟨(blk_cell BK237.out 0).trans rfl, (blk_cell BK237.out 1).trans rfl, (blk_cell BK237.out 2).trans rfl, (blk_cell BK238.out 0).trans rfl, (blk_cell BK238.out 1).trans rfl⟩ (fun hHeld => ?_); refine with_tabW laws_FnExactRecGo.tab8 laws_FnExactRecGo.bits8 (fun HT_ HW_ => ?_)
   generalize w31.drew = w32 at BK237 BK238 HB hHeld ⊢
   refine pure_ (i := 0) (N := some 24) (v := ?_) (a' := ?_) (bm 13 1) rfl rfl (any_of HT_.out (by kernel_rfl)) (fun _ _ _ h => h) (Or.inl ⟨(by rfl), ?_⟩) ?_ ?_; rotate_left; intro w'; go_simp; with_reducible rfl; rotate_left; simp only [Act.put, List.setIfInBounds_toArray, List.set_cons_zero, List.set_cons_succ, i64_w, i32_w]; rfl
   refine take_ (i := 2) (N := some 26) (v := ?_) (a' := ?_) (bm 13 5) rfl rfl (take_ofW HT_.out HW_.out (by kernel_rfl)) (fun _ _ _ h => h) (Or.inl ⟨(by rfl), ?_⟩) hHeld ?_ ?_; rotate_left; rintro w' ⟨s0, s1, s2, s3, s4⟩; go_simp; with_reducible rfl; rotate_left; simp only [Act.put, List.setIfInBounds_toArray, List.set_cons_zero, List.set_cons_succ, i64_w, i32_w]; rfl
   refine take_ (i := 4) (N := some 28) (v := ?_) (a' := ?_) (bm 13 21) rfl rfl (take_ofW HT_.out HW_.out (by kernel_rfl)) (fun _ _ _ h => h) (Or.inl ⟨(by rfl), ?_⟩) hHeld ?_ ?_; rotate_left; rintro w' ⟨s0, s1, s2, s3, s4⟩; go_simp; with_reducible rfl; rotate_left; simp only [Act.put, List.setIfInBounds_toArray, List.set_cons_zero, List.set_cons_succ, i64_w, i32_w]; rfl
   refine join_ (σ := Value × Nat) 2 (bm 13 2047) (fun s_ => [(25, s_.1), (27, .agg #[.string t244, .int .i64 t245, .int .i64 t246]), (29, .agg #[.int .i64 t247, .bool t248]), (30, .tuple #[.agg #[.string t249, .int .i64 t250, .int .i64 t251], .bool t252]), (8, .pointer (some ⟨s_.2, 0, none⟩)), (23, .tuple #[.agg #[.string t249, .int .i64 t250, .int .i64 t251], .bool t252]), (31, .agg #[.string t249, .int .i64 t250, .int .i64 t251]), (32, .bool t252)]) (fun s_ w' => (w'.cell? ⟨gb237, 0, none⟩ = some (.string a1_0) ∧ w'.cell? ⟨gb237, 1, none⟩ = some (.int .i64 a1_1) ∧ w'.cell? ⟨gb237, 2, none⟩ = some (.int .i64 a1_2) ∧ w'.cell? ⟨gb238, 0, none⟩ = some (.int .i64 a2_0) ∧ w'.cell? ⟨gb238, 1, none⟩ = some (.bool a2_1)) ∧ (Kd.R k44 44 w' w.heap.size (fun _ => True) s_.1 t241) ∧ (w'.heap[gb237]? = some (.cells #[.string a1_0, .int .i64 a1_1, .int .i64 a1_2] 24 (0, 0))) ∧ (w'.heap[gb238]? = some (.cells #[.int .i64 a2_0, .bool a2_1] 26 (0, 0))) ∧ (w'.heap[s_.2]? = some (.cells #[.string (⟨#[]⟩ : ByteArray), .int .i64 0, .int .i64 0] 29 (0, 0))) ∧ (w.heap.size ≤ s_.2) ∧ (w.heap.size ≤ s_.2) ∧ (gb237 ≠ s_.2) ∧ (s_.2 ≠ gb237) ∧ (gb238 ≠ s_.2) ∧ (s_.2 ≠ gb238) ∧ (Below w.heap.size w w')) ?_ ?_
   rotate_left
   ·intro hJ1_3_5_6_10
    refine join_ (σ := Value) 3 (bm 13 1023) (fun s_ => [(25, s_), (27, .agg #[.string t244, .int .i64 t245, .int .i64 t246]), (29, .agg #[.int .i64 t247, .bool t248]), (30, .tuple #[.agg #[.string t249, .int .i64 t250, .int .i64 t251], .bool t252]), (23, .tuple #[.agg #[.string t249, .int .i64 t250, .int .i64 t251], .bool t252]), (31, .agg #[.string t249, .int .i64 t250, .int .i64 t251]), (32, .bool t252)]) (fun s_ w' => (w'.cell? ⟨gb237, 0, none⟩ = some (.string a1_0) ∧ w'.cell? ⟨gb237, 1, none⟩ = some (.int .i64 a1_1) ∧ w'.cell? ⟨gb237, 2, none⟩ = some (.int .i64 a1_2) ∧ w'.cell? ⟨gb238, 0, none⟩ = some (.int .i64 a2_0) ∧ w'.cell? ⟨gb238, 1, none⟩ = some (.bool a2_1)) ∧ (Kd.R k44 44 w' w.heap.size (fun _ => True) s_ t241) ∧ (w'.heap[gb237]? = some (.cells #[.string a1_0, .int .i64 a1_1, .int .i64 a1_2] 24 (0, 0))) ∧ (w'.heap[gb238]? = some (.cells #[.int .i64 a2_0, .bool a2_1] 26 (0, 0))) ∧ (Below w.heap.size w w')) ?_ ?_
    rotate_left
    ·intro hJ1_3_5_6
     refine join_ (σ := Value × Nat) 6 (bm 13 1087) (fun s_ => [(25, s_.1), (27, .agg #[.string t244, .int .i64 t245, .int .i64 t246]), (29, .agg #[.int .i64 t247, .bool t248]), (8, .pointer (some ⟨s_.2, 0, none⟩))]) (fun s_ w' => (w'.cell? ⟨gb237, 0, none⟩ = some (.string a1_0) ∧ w'.cell? ⟨gb237, 1, none⟩ = some (.int .i64 a1_1) ∧ w'.cell? ⟨gb237, 2, none⟩ = some (.int .i64 a1_2) ∧ w'.cell? ⟨gb238, 0, none⟩ = some (.int .i64 a2_0) ∧ w'.cell? ⟨gb238, 1, none⟩ = some (.bool a2_1)) ∧ (Kd.R k44 44 w' w.heap.size (fun _ => True) s_.1 t241) ∧ (w'.heap[gb237]? = some (.cells #[.string a1_0, .int .i64 a1_1, .int .i64 a1_2] 24 (0, 0))) ∧ (w'.heap[gb238]? = some (.cells #[.int .i64 a2_0, .bool a2_1] 26 (0, 0))) ∧ (w'.heap[s_.2]? = some (.cells #[.string (⟨#[]⟩ : ByteArray), .int .i64 0, .int .i64 0] 29 (0, 0))) ∧ (w.heap.size ≤ s_.2) ∧ (w.heap.size ≤ s_.2) ∧ (gb237 ≠ s_.2) ∧ (s_.2 ≠ gb237) ∧ (gb238 ≠ s_.2) ∧ (s_.2 ≠ gb238) ∧ (Below w.heap.size w w')) ?_ ?_
     rotate_left
     ·intro hJ1_3_5_10
      refine join_ (σ := Value) 7 (bm 13 63) (fun s_ => [(25, s_), (27, .agg #[.string t244, .int .i64 t245, .int .i64 t246]), (29, .agg #[.int .i64 t247, .bool t248])]) (fun s_ w' => (w'.cell? ⟨gb237, 0, none⟩ = some (.string a1_0) ∧ w'.cell? ⟨gb237, 1, none⟩ = some (.int .i64 a1_1) ∧ w'.cell? ⟨gb237, 2, none⟩ = some (.int .i64 a1_2) ∧ w'.cell? ⟨gb238, 0, none⟩ = some (.int .i64 a2_0) ∧ w'.cell? ⟨gb238, 1, none⟩ = some (.bool a2_1)) ∧ (Kd.R k44 44 w' w.heap.size (fun _ => True) s_ t241) ∧ (w'.heap[gb237]? = some (.cells #[.string a1_0, .int .i64 a1_1, .int .i64 a1_2] 24 (0, 0))) ∧ (w'.heap[gb238]? = some (.cells #[.int .i64 a2_0, .bool a2_1] 26 (0, 0))) ∧ (Below w.heap.size w w')) ?_ ?_
      rotate_left
      ·intro hJ1_3_5
       refine join_ (σ := Value × Nat) 7 (bm 13 1055) (fun s_ => [(25, s_.1), (27, .agg #[.string t244, .int .i64 t245, .int .i64 t246]), (8, .pointer (some ⟨s_.2, 0, none⟩))]) (fun s_ w' => (w'.cell? ⟨gb237, 0, none⟩ = some (.string a1_0) ∧ w'.cell? ⟨gb237, 1, none⟩ = some (.int .i64 a1_1) ∧ w'.cell? ⟨gb237, 2, none⟩ = some (.int .i64 a1_2) ∧ w'.cell? ⟨gb238, 0, none⟩ = some (.int .i64 a2_0) ∧ w'.cell? ⟨gb238, 1, none⟩ = some (.bool a2_1)) ∧ (Kd.R k44 44 w' w.heap.size (fun _ => True) s_.1 t241) ∧ (w'.heap[gb237]? = some (.cells #[.string a1_0, .int .i64 a1_1, .int .i64 a1_2] 24 (0, 0))) ∧ (w'.heap[gb238]? = some (.cells #[.int .i64 a2_0, .bool a2_1] 26 (0, 0))) ∧ (w'.heap[s_.2]? = some (.cells #[.string (⟨#[]⟩ : ByteArray), .int .i64 0, .int .i64 0] 29 (0, 0))) ∧ (w.heap.size ≤ s_.2) ∧ (w.heap.size ≤ s_.2) ∧ (gb237 ≠ s_.2) ∧ (s_.2 ≠ gb237) ∧ (gb238 ≠ s_.2) ∧ (s_.2 ≠ gb238) ∧ (Below w.heap.size w w')) ?_ ?_
       rotate_left
       ·intro hJ1_3_10
        refine join_ (σ := Value) 8 (bm 13 31) (fun s_ => [(25, s_), (27, .agg #[.string t244, .int .i64 t245, .int .i64 t246])]) (fun s_ w' => (w'.cell? ⟨gb237, 0, none⟩ = some (.string a1_0) ∧ w'.cell? ⟨gb237, 1, none⟩ = some (.int .i64 a1_1) ∧ w'.cell? ⟨gb237, 2, none⟩ = some (.int .i64 a1_2) ∧ w'.cell? ⟨gb238, 0, none⟩ = some (.int .i64 a2_0) ∧ w'.cell? ⟨gb238, 1, none⟩ = some (.bool a2_1)) ∧ (Kd.R k44 44 w' w.heap.size (fun _ => True) s_ t241) ∧ (w'.heap[gb237]? = some (.cells #[.string a1_0, .int .i64 a1_1, .int .i64 a1_2] 24 (0, 0))) ∧ (w'.heap[gb238]? = some (.cells #[.int .i64 a2_0, .bool a2_1] 26 (0, 0))) ∧ (Below w.heap.size w w')) ?_ ?_
        rotate_left
        ·intro hJ1_3
         refine join_ (σ := Value × Nat) 8 (bm 13 1047) (fun s_ => [(25, s_.1), (8, .pointer (some ⟨s_.2, 0, none⟩))]) (fun s_ w' => (w'.cell? ⟨gb237, 0, none⟩ = some (.string a1_0) ∧ w'.cell? ⟨gb237, 1, none⟩ = some (.int .i64 a1_1) ∧ w'.cell? ⟨gb237, 2, none⟩ = some (.int .i64 a1_2) ∧ w'.cell? ⟨gb238, 0, none⟩ = some (.int .i64 a2_0) ∧ w'.cell? ⟨gb238, 1, none⟩ = some (.bool a2_1)) ∧ (Kd.R k44 44 w' w.heap.size (fun _ => True) s_.1 t241) ∧ (w'.heap[gb237]? = some (.cells #[.string a1_0, .int .i64 a1_1, .int .i64 a1_2] 24 (0, 0))) ∧ (w'.heap[gb238]? = some (.cells #[.int .i64 a2_0, .bool a2_1] 26 (0, 0))) ∧ (w'.heap[s_.2]? = some (.cells #[.string (⟨#[]⟩ : ByteArray), .int .i64 0, .int .i64 0] 29 (0, 0))) ∧ (w.heap.size ≤ s_.2) ∧ (w.heap.size ≤ s_.2) ∧ (gb237 ≠ s_.2) ∧ (s_.2 ≠ gb237) ∧ (gb238 ≠ s_.2) ∧ (s_.2 ≠ gb238) ∧ (Below w.heap.size w w')) ?_ ?_
         rotate_left
         ·intro hJ1_10
          refine join_ (σ := Value) 9 (bm 13 23) (fun s_ => [(25, s_)]) (fun s_ w' => (w'.cell? ⟨gb237, 0, none⟩ = some (.string a1_0) ∧ w'.cell? ⟨gb237, 1, none⟩ = some (.int .i64 a1_1) ∧ w'.cell? ⟨gb237, 2, none⟩ = some (.int .i64 a1_2) ∧ w'.cell? ⟨gb238, 0, none⟩ = some (.int .i64 a2_0) ∧ w'.cell? ⟨gb238, 1, none⟩ = some (.bool a2_1)) ∧ (Kd.R k44 44 w' w.heap.size (fun _ => True) s_ t241) ∧ (w'.heap[gb237]? = some (.cells #[.string a1_0, .int .i64 a1_1, .int .i64 a1_2] 24 (0, 0))) ∧ (w'.heap[gb238]? = some (.cells #[.int .i64 a2_0, .bool a2_1] 26 (0, 0))) ∧ (Below w.heap.size w w')) ?_ ?_
          rotate_left
          ·intro hJ1
           refine join_ (σ := Nat) 9 (bm 13 1045) (fun s_ => [(8, .pointer (some ⟨s_, 0, none⟩))]) (fun s_ w' => (w'.cell? ⟨gb237, 0, none⟩ = some (.string a1_0) ∧ w'.cell? ⟨gb237, 1, none⟩ = some (.int .i64 a1_1) ∧ w'.cell? ⟨gb237, 2, none⟩ = some (.int .i64 a1_2) ∧ w'.cell? ⟨gb238, 0, none⟩ = some (.int .i64 a2_0) ∧ w'.cell? ⟨gb238, 1, none⟩ = some (.bool a2_1)) ∧ (w'.heap[gb237]? = some (.cells #[.string a1_0, .int .i64 a1_1, .int .i64 a1_2] 24 (0, 0))) ∧ (w'.heap[gb238]? = some (.cells #[.int .i64 a2_0, .bool a2_1] 26 (0, 0))) ∧ (w'.heap[s_]? = some (.cells #[.string (⟨#[]⟩ : ByteArray), .int .i64 0, .int .i64 0] 29 (0, 0))) ∧ (w.heap.size ≤ s_) ∧ (w.heap.size ≤ s_) ∧ (gb237 ≠ s_) ∧ (s_ ≠ gb237) ∧ (gb238 ≠ s_) ∧ (s_ ≠ gb238) ∧ (Below w.heap.size w w')) ?_ ?_
           rotate_left
           ·intro hJ10
            refine two_ (i := 1) (j := 10) (Ni := some 25) (Nj := some 8) (bm 13 23) (bm 13 1045) rfl rfl rfl rfl (two_of HT_.out (by kernel_rfl)) (by decide) (by decide) (fun K hK => ?_) (fun K hK => ?_)
            ·skip
             refine goes_ Try.func10 (by kernel_rfl) rfl #[.slice A0 l0.length c0] (by rfl) rfl rfl m1_ ?_
             with_reducible refine (laws_toRecPhaseS.calls k _ _ l0 t241 _ ?side1 ?side2 A17.out).mono ?_
             (case side1 => exact m12_)
             (case side2 => exact HC0.out)
             rintro e w33 ⟨v242, rfl, ho0, hb⟩
             refine ⟨_, rfl, ?_⟩
             have n0_ := Aside0.mk (Kd.R_lower ho0 (below_size m5_))
             have n1_ := Aside0.mk (blk_below (g := gb237) (o := .cells #[.string a1_0, .int .i64 a1_1, .int .i64 a1_2] 24 (0, 0)) m2_ hb)
             have n2_ := Aside0.mk (blk_below (g := gb238) (o := .cells #[.int .i64 a2_0, .bool a2_1] 26 (0, 0)) m3_ hb)
             have n3_ := Aside0.mk (below_step m5_ hb)
             clear BK237
             clear BK238
             clear HB
             have HO243 := n0_
             have BK237 := n1_
             have BK238 := n2_
             have HB := n3_
             clear n0_ n1_ n2_ n3_
             (try clear hb)
             (try clear hb2)
             (try clear hk)
             (try clear hi)
             (try clear ho0)
             refine hK.out _ _ ⟨(blk_cell BK237.out 0).trans rfl, (blk_cell BK237.out 1).trans rfl, (blk_cell BK237.out 2).trans rfl, (blk_cell BK238.out 0).trans rfl, (blk_cell BK238.out 1).trans rfl⟩ (fun hHeld => ?_)
             clear hK K
             refine no_ ?_
             exact norm_ m18_ (hJ1 (v242) _ ⟨hHeld, m13_, m2_, m3_, m5_⟩)
            ·skip
             refine box_step ?hg (N := 8) ?hd (cs := #[.string (⟨#[]⟩ : ByteArray), .int .i64 0, .int .i64 0]) (t := 29) ?hr ?_; (case hd => rfl); (case hg => rfl); (case hr => first | (go_simp; done) | (go_simp; rfl))
             intro gb253 hg w33 hbox hb
             have n0_ := Aside0.mk (blk_below (g := gb237) (o := .cells #[.string a1_0, .int .i64 a1_1, .int .i64 a1_2] 24 (0, 0)) m2_ hb)
             have n1_ := Aside0.mk (blk_below (g := gb238) (o := .cells #[.int .i64 a2_0, .bool a2_1] 26 (0, 0)) m3_ hb)
             have n2_ := Aside0.mk (below_step m5_ hb)
             have n3_ := Aside0.mk (hbox)
             have n4_ := Aside0.mk ((by rw [hg]; exact (below_size m5_) : w.heap.size ≤ gb253))
             have n5_ := Aside0.mk ((by rw [hg]; exact (below_size m5_) : w.heap.size ≤ gb253))
             have n6_ := Aside0.mk ((by rw [hg]; exact Nat.ne_of_lt (blk_lt (g := gb237) (o := .cells #[.string a1_0, .int .i64 a1_1, .int .i64 a1_2] 24 (0, 0)) m2_) : gb237 ≠ gb253))
             have n7_ := Aside0.mk ((by rw [hg]; exact Nat.ne_of_gt (blk_lt (g := gb237) (o := .cells #[.string a1_0, .int .i64 a1_1, .int .i64 a1_2] 24 (0, 0)) m2_) : gb253 ≠ gb237))
             have n8_ := Aside0.mk ((by rw [hg]; exact Nat.ne_of_lt (blk_lt (g := gb238) (o := .cells #[.int .i64 a2_0, .bool a2_1] 26 (0, 0)) m3_) : gb238 ≠ gb253))
             have n9_ := Aside0.mk ((by rw [hg]; exact Nat.ne_of_gt (blk_lt (g := gb238) (o := .cells #[.int .i64 a2_0, .bool a2_1] 26 (0, 0)) m3_) : gb253 ≠ gb238))
             clear BK237
             clear BK238
             clear HB
             have BK237 := n0_
             have BK238 := n1_
             have HB := n2_
             have BK253 := n3_
             have GW253 := n4_
             have GE253 := n5_
             have NB237_253 := n6_
             have NB253_237 := n7_
             have NB238_253 := n8_
             have NB253_238 := n9_
             clear n0_ n1_ n2_ n3_ n4_ n5_ n6_ n7_ n8_ n9_
             clear hb hbox hg
             refine hK.out _ _ ⟨(blk_cell BK237.out 0).trans rfl, (blk_cell BK237.out 1).trans rfl, (blk_cell BK237.out 2).trans rfl, (blk_cell BK238.out 0).trans rfl, (blk_cell BK238.out 1).trans rfl⟩ (fun hHeld => ?_)
             clear hK K
             refine no_ ?_
             exact norm_ m18_ (hJ10 (gb253) _ ⟨hHeld, m2_, m3_, m9_, GW253.out, GE253.out, NB237_253.out, NB253_237.out, NB238_253.out, NB253_238.out, m4_⟩)
           ·skip
            rintro gb253 w34 ⟨hS_, h0_, h1_, h2_, h3_, h4_, h5_, h6_, h7_, h8_, h9_⟩
            have n0_ : Aside0 (w34.heap[gb237]? = some (.cells #[.string a1_0, .int .i64 a1_1, .int .i64 a1_2] 24 (0, 0))) := ⟨h0_⟩
            have n1_ : Aside0 (w34.heap[gb238]? = some (.cells #[.int .i64 a2_0, .bool a2_1] 26 (0, 0))) := ⟨h1_⟩
            have n2_ : Aside0 (w34.heap[gb253]? = some (.cells #[.string (⟨#[]⟩ : ByteArray), .int .i64 0, .int .i64 0] 29 (0, 0))) := ⟨h2_⟩
            have n3_ : Aside0 (w.heap.size ≤ gb253) := ⟨h3_⟩
            have n4_ : Aside0 (w.heap.size ≤ gb253) := ⟨h4_⟩
            have n5_ : Aside0 (gb237 ≠ gb253) := ⟨h5_⟩
            have n6_ : Aside0 (gb253 ≠ gb237) := ⟨h6_⟩
            have n7_ : Aside0 (gb238 ≠ gb253) := ⟨h7_⟩
            have n8_ : Aside0 (gb253 ≠ gb238) := ⟨h8_⟩
            have n9_ : Aside0 (Below w.heap.size w w34) := ⟨h9_⟩
            clear BK237
            clear BK238
            clear HB
            clear h0_ h1_ h2_ h3_ h4_ h5_ h6_ h7_ h8_ h9_
            have BK237 := n0_
            have BK238 := n1_
            have BK253 := n2_
            have GW253 := n3_
            have GE253 := n4_
            have NB237_253 := n5_
            have NB253_237 := n6_
            have NB238_253 := n7_
            have NB253_238 := n8_
            have HB := n9_
            clear n0_ n1_ n2_ n3_ n4_ n5_ n6_ n7_ n8_ n9_
            have hHeld : w34.cell? ⟨gb237, 0, none⟩ = some (.string a1_0) ∧ w34.cell? ⟨gb237, 1, none⟩ = some (.int .i64 a1_1) ∧ w34.cell? ⟨gb237, 2, none⟩ = some (.int .i64 a1_2) ∧ w34.cell? ⟨gb238, 0, none⟩ = some (.int .i64 a2_0) ∧ w34.cell? ⟨gb238, 1, none⟩ = some (.bool a2_1) := hS_
            refine norm_ (a' := ?_) ?_ ?_
            rotate_left
            ·simp only [putAll, Act.put, List.setIfInBounds_toArray, List.set_cons_zero, List.set_cons_succ]
             rfl
            refine one_ (i := 1) (N := some 25) (bm 13 1047) rfl rfl (one_of HT_.out (by kernel_rfl)) (by decide) (fun K hK => ?_)
            refine goes_ Try.func10 (by kernel_rfl) rfl #[.slice A0 l0.length c0] (by rfl) rfl rfl m1_ ?_
            with_reducible refine (laws_toRecPhaseS.calls k _ _ l0 t241 _ ?side1 ?side2 A17.out).mono ?_
            (case side1 => exact m12_)
            (case side2 => exact HC0.out)
            rintro e w35 ⟨v242, rfl, ho0, hb⟩
            refine ⟨_, rfl, ?_⟩
            have n0_ := Aside0.mk (Kd.R_lower ho0 (below_size m4_))
            have n1_ := Aside0.mk (blk_below (g := gb237) (o := .cells #[.string a1_0, .int .i64 a1_1, .int .i64 a1_2] 24 (0, 0)) m2_ hb)
            have n2_ := Aside0.mk (blk_below (g := gb238) (o := .cells #[.int .i64 a2_0, .bool a2_1] 26 (0, 0)) m3_ hb)
            have n3_ := Aside0.mk (blk_below (g := gb253) (o := .cells #[.string (⟨#[]⟩ : ByteArray), .int .i64 0, .int .i64 0] 29 (0, 0)) m9_ hb)
            have n4_ := Aside0.mk (below_step m4_ hb)
            clear BK237
            clear BK238
            clear BK253
            clear HB
            have HO243 := n0_
            have BK237 := n1_
            have BK238 := n2_
            have BK253 := n3_
            have HB := n4_
            clear n0_ n1_ n2_ n3_ n4_
            (try clear hb)
            (try clear hb2)
            (try clear hk)
            (try clear hi)
            (try clear ho0)
            refine hK.out _ _ ⟨(blk_cell BK237.out 0).trans rfl, (blk_cell BK237.out 1).trans rfl, (blk_cell BK237.out 2).trans rfl, (blk_cell BK238.out 0).trans rfl, (blk_cell BK238.out 1).trans rfl⟩ (fun hHeld => ?_)
            clear hK K
            refine no_ ?_
            exact norm_ m18_ (hJ1_10 (v242, gb253) _ ⟨hHeld, m13_, m2_, m3_, m9_, GW253.out, GE253.out, NB237_253.out, NB253_237.out, NB238_253.out, NB253_238.out, m4_⟩)
          ·skip
           rintro v242 w34 ⟨hS_, h0_, h1_, h2_, h3_⟩
           have n0_ : Aside0 (Kd.R k44 44 w34 w.heap.size (fun _ => True) v242 t241) := ⟨h0_⟩
           have n1_ : Aside0 (w34.heap[gb237]? = some (.cells #[.string a1_0, .int .i64 a1_1, .int .i64 a1_2] 24 (0, 0))) := ⟨h1_⟩
           have n2_ : Aside0 (w34.heap[gb238]? = some (.cells #[.int .i64 a2_0, .bool a2_1] 26 (0, 0))) := ⟨h2_⟩
           have n3_ : Aside0 (Below w.heap.size w w34) := ⟨h3_⟩
           clear BK237
           clear BK238
           clear HB
           clear h0_ h1_ h2_ h3_
           have HO243 := n0_
           have BK237 := n1_
           have BK238 := n2_
           have HB := n3_
           clear n0_ n1_ n2_ n3_
           have hHeld : w34.cell? ⟨gb237, 0, none⟩ = some (.string a1_0) ∧ w34.cell? ⟨gb237, 1, none⟩ = some (.int .i64 a1_1) ∧ w34.cell? ⟨gb237, 2, none⟩ = some (.int .i64 a1_2) ∧ w34.cell? ⟨gb238, 0, none⟩ = some (.int .i64 a2_0) ∧ w34.cell? ⟨gb238, 1, none⟩ = some (.bool a2_1) := hS_
           refine norm_ (a' := ?_) ?_ ?_
           rotate_left
           ·simp only [putAll, Act.put, List.setIfInBounds_toArray, List.set_cons_zero, List.set_cons_succ]
            rfl
           refine two_ (i := 3) (j := 10) (Ni := some 27) (Nj := some 8) (bm 13 31) (bm 13 1047) rfl rfl rfl rfl (two_of HT_.out (by kernel_rfl)) (by decide) (by decide) (fun K hK => ?_) (fun K hK => ?_)
           ·skip
            refine goes_ Try.func11 (by kernel_rfl) rfl #[.agg #[.string a1_0, .int .i64 a1_1, .int .i64 a1_2]] (by rfl) rfl rfl m1_ ?_
            with_reducible refine (laws_toRecState.calls a1_0 a1_1 a1_2 t244 t245 t246 _ A18.out).mono ?_
            rintro e w35 ⟨rfl, hb⟩
            refine ⟨_, rfl, ?_⟩
            have n0_ := Aside0.mk (Kd.R_below m13_ hb)
            have n1_ := Aside0.mk (blk_below (g := gb237) (o := .cells #[.string a1_0, .int .i64 a1_1, .int .i64 a1_2] 24 (0, 0)) m2_ hb)
            have n2_ := Aside0.mk (blk_below (g := gb238) (o := .cells #[.int .i64 a2_0, .bool a2_1] 26 (0, 0)) m3_ hb)
            have n3_ := Aside0.mk (below_step m5_ hb)
            clear HO243
            clear BK237
            clear BK238
            clear HB
            have HO243 := n0_
            have BK237 := n1_
            have BK238 := n2_
            have HB := n3_
            clear n0_ n1_ n2_ n3_
            (try clear hb)
            (try clear hb2)
            (try clear hk)
            (try clear hi)
            refine hK.out _ _ ⟨(blk_cell BK237.out 0).trans rfl, (blk_cell BK237.out 1).trans rfl, (blk_cell BK237.out 2).trans rfl, (blk_cell BK238.out 0).trans rfl, (blk_cell BK238.out 1).trans rfl⟩ (fun hHeld => ?_)
            clear hK K
            refine no_ ?_
            exact norm_ m18_ (hJ1_3 (v242) _ ⟨hHeld, m13_, m2_, m3_, m5_⟩)
           ·skip
            refine box_step ?hg (N := 8) ?hd (cs := #[.string (⟨#[]⟩ : ByteArray), .int .i64 0, .int .i64 0]) (t := 29) ?hr ?_; (case hd => rfl); (case hg => rfl); (case hr => first | (go_simp; done) | (go_simp; rfl))
            intro gb253 hg w35 hbox hb
            have n0_ := Aside0.mk (Kd.R_below m13_ hb)
            have n1_ := Aside0.mk (blk_below (g := gb237) (o := .cells #[.string a1_0, .int .i64 a1_1, .int .i64 a1_2] 24 (0, 0)) m2_ hb)
            have n2_ := Aside0.mk (blk_below (g := gb238) (o := .cells #[.int .i64 a2_0, .bool a2_1] 26 (0, 0)) m3_ hb)
            have n3_ := Aside0.mk (below_step m5_ hb)
            have n4_ := Aside0.mk (hbox)
            have n5_ := Aside0.mk ((by rw [hg]; exact (below_size m5_) : w.heap.size ≤ gb253))
            have n6_ := Aside0.mk ((by rw [hg]; exact (below_size m5_) : w.heap.size ≤ gb253))
            have n7_ := Aside0.mk ((by rw [hg]; exact Nat.ne_of_lt (blk_lt (g := gb237) (o := .cells #[.string a1_0, .int .i64 a1_1, .int .i64 a1_2] 24 (0, 0)) m2_) : gb237 ≠ gb253))
            have n8_ := Aside0.mk ((by rw [hg]; exact Nat.ne_of_gt (blk_lt (g := gb237) (o := .cells #[.string a1_0, .int .i64 a1_1, .int .i64 a1_2] 24 (0, 0)) m2_) : gb253 ≠ gb237))
            have n9_ := Aside0.mk ((by rw [hg]; exact Nat.ne_of_lt (blk_lt (g := gb238) (o := .cells #[.int .i64 a2_0, .bool a2_1] 26 (0, 0)) m3_) : gb238 ≠ gb253))
            have n10_ := Aside0.mk ((by rw [hg]; exact Nat.ne_of_gt (blk_lt (g := gb238) (o := .cells #[.int .i64 a2_0, .bool a2_1] 26 (0, 0)) m3_) : gb253 ≠ gb238))
            clear HO243
            clear BK237
            clear BK238
            clear HB
            have HO243 := n0_
            have BK237 := n1_
            have BK238 := n2_
            have HB := n3_
            have BK253 := n4_
            have GW253 := n5_
            have GE253 := n6_
            have NB237_253 := n7_
            have NB253_237 := n8_
            have NB238_253 := n9_
            have NB253_238 := n10_
            clear n0_ n1_ n2_ n3_ n4_ n5_ n6_ n7_ n8_ n9_ n10_
            clear hb hbox hg
            refine hK.out _ _ ⟨(blk_cell BK237.out 0).trans rfl, (blk_cell BK237.out 1).trans rfl, (blk_cell BK237.out 2).trans rfl, (blk_cell BK238.out 0).trans rfl, (blk_cell BK238.out 1).trans rfl⟩ (fun hHeld => ?_)
            clear hK K
            refine no_ ?_
            exact norm_ m18_ (hJ1_10 (v242, gb253) _ ⟨hHeld, m13_, m2_, m3_, m9_, GW253.out, GE253.out, NB237_253.out, NB253_237.out, NB238_253.out, NB253_238.out, m4_⟩)
         ·skip
          rintro ⟨v242, gb253⟩ w35 ⟨hS_, h0_, h1_, h2_, h3_, h4_, h5_, h6_, h7_, h8_, h9_, h10_⟩
          have n0_ : Aside0 (Kd.R k44 44 w35 w.heap.size (fun _ => True) v242 t241) := ⟨h0_⟩
          have n1_ : Aside0 (w35.heap[gb237]? = some (.cells #[.string a1_0, .int .i64 a1_1, .int .i64 a1_2] 24 (0, 0))) := ⟨h1_⟩
          have n2_ : Aside0 (w35.heap[gb238]? = some (.cells #[.int .i64 a2_0, .bool a2_1] 26 (0, 0))) := ⟨h2_⟩
          have n3_ : Aside0 (w35.heap[gb253]? = some (.cells #[.string (⟨#[]⟩ : ByteArray), .int .i64 0, .int .i64 0] 29 (0, 0))) := ⟨h3_⟩
          have n4_ : Aside0 (w.heap.size ≤ gb253) := ⟨h4_⟩
          have n5_ : Aside0 (w.heap.size ≤ gb253) := ⟨h5_⟩
          have n6_ : Aside0 (gb237 ≠ gb253) := ⟨h6_⟩
          have n7_ : Aside0 (gb253 ≠ gb237) := ⟨h7_⟩
          have n8_ : Aside0 (gb238 ≠ gb253) := ⟨h8_⟩
          have n9_ : Aside0 (gb253 ≠ gb238) := ⟨h9_⟩
          have n10_ : Aside0 (Below w.heap.size w w35) := ⟨h10_⟩
          clear BK237
          clear BK238
          clear HB
          clear h0_ h1_ h2_ h3_ h4_ h5_ h6_ h7_ h8_ h9_ h10_
          have HO243 := n0_
          have BK237 := n1_
          have BK238 := n2_
          have BK253 := n3_
          have GW253 := n4_
          have GE253 := n5_
          have NB237_253 := n6_
          have NB253_237 := n7_
          have NB238_253 := n8_
          have NB253_238 := n9_
          have HB := n10_
          clear n0_ n1_ n2_ n3_ n4_ n5_ n6_ n7_ n8_ n9_ n10_
          have hHeld : w35.cell? ⟨gb237, 0, none⟩ = some (.string a1_0) ∧ w35.cell? ⟨gb237, 1, none⟩ = some (.int .i64 a1_1) ∧ w35.cell? ⟨gb237, 2, none⟩ = some (.int .i64 a1_2) ∧ w35.cell? ⟨gb238, 0, none⟩ = some (.int .i64 a2_0) ∧ w35.cell? ⟨gb238, 1, none⟩ = some (.bool a2_1) := hS_
          refine norm_ (a' := ?_) ?_ ?_
          rotate_left
          ·simp only [putAll, Act.put, List.setIfInBounds_toArray, List.set_cons_zero, List.set_cons_succ]
           rfl
          refine one_ (i := 3) (N := some 27) (bm 13 1055) rfl rfl (one_of HT_.out (by kernel_rfl)) (by decide) (fun K hK => ?_)
          refine goes_ Try.func11 (by kernel_rfl) rfl #[.agg #[.string a1_0, .int .i64 a1_1, .int .i64 a1_2]] (by rfl) rfl rfl m1_ ?_
          with_reducible refine (laws_toRecState.calls a1_0 a1_1 a1_2 t244 t245 t246 _ A18.out).mono ?_
          rintro e w36 ⟨rfl, hb⟩
          refine ⟨_, rfl, ?_⟩
          have n0_ := Aside0.mk (Kd.R_below m13_ hb)
          have n1_ := Aside0.mk (blk_below (g := gb237) (o := .cells #[.string a1_0, .int .i64 a1_1, .int .i64 a1_2] 24 (0, 0)) m2_ hb)
          have n2_ := Aside0.mk (blk_below (g := gb238) (o := .cells #[.int .i64 a2_0, .bool a2_1] 26 (0, 0)) m3_ hb)
          have n3_ := Aside0.mk (blk_below (g := gb253) (o := .cells #[.string (⟨#[]⟩ : ByteArray), .int .i64 0, .int .i64 0] 29 (0, 0)) m9_ hb)
          have n4_ := Aside0.mk (below_step m4_ hb)
          clear HO243
          clear BK237
          clear BK238
          clear BK253
          clear HB
          have HO243 := n0_
          have BK237 := n1_
          have BK238 := n2_
          have BK253 := n3_
          have HB := n4_
          clear n0_ n1_ n2_ n3_ n4_
          (try clear hb)
          (try clear hb2)
          (try clear hk)
          (try clear hi)
          refine hK.out _ _ ⟨(blk_cell BK237.out 0).trans rfl, (blk_cell BK237.out 1).trans rfl, (blk_cell BK237.out 2).trans rfl, (blk_cell BK238.out 0).trans rfl, (blk_cell BK238.out 1).trans rfl⟩ (fun hHeld => ?_)
          clear hK K
          refine no_ ?_
          exact norm_ m18_ (hJ1_3_10 (v242, gb253) _ ⟨hHeld, m13_, m2_, m3_, m9_, GW253.out, GE253.out, NB237_253.out, NB253_237.out, NB238_253.out, NB253_238.out, m4_⟩)
        ·skip
         rintro v242 w35 ⟨hS_, h0_, h1_, h2_, h3_⟩
         have n0_ : Aside0 (Kd.R k44 44 w35 w.heap.size (fun _ => True) v242 t241) := ⟨h0_⟩
         have n1_ : Aside0 (w35.heap[gb237]? = some (.cells #[.string a1_0, .int .i64 a1_1, .int .i64 a1_2] 24 (0, 0))) := ⟨h1_⟩
         have n2_ : Aside0 (w35.heap[gb238]? = some (.cells #[.int .i64 a2_0, .bool a2_1] 26 (0, 0))) := ⟨h2_⟩
         have n3_ : Aside0 (Below w.heap.size w w35) := ⟨h3_⟩
         clear BK237
         clear BK238
         clear HB
         clear h0_ h1_ h2_ h3_
         have HO243 := n0_
         have BK237 := n1_
         have BK238 := n2_
         have HB := n3_
         clear n0_ n1_ n2_ n3_
         have hHeld : w35.cell? ⟨gb237, 0, none⟩ = some (.string a1_0) ∧ w35.cell? ⟨gb237, 1, none⟩ = some (.int .i64 a1_1) ∧ w35.cell? ⟨gb237, 2, none⟩ = some (.int .i64 a1_2) ∧ w35.cell? ⟨gb238, 0, none⟩ = some (.int .i64 a2_0) ∧ w35.cell? ⟨gb238, 1, none⟩ = some (.bool a2_1) := hS_
         refine norm_ (a' := ?_) ?_ ?_
         rotate_left
         ·simp only [putAll, Act.put, List.setIfInBounds_toArray, List.set_cons_zero, List.set_cons_succ]
          rfl
         refine two_ (i := 5) (j := 10) (Ni := some 29) (Nj := some 8) (bm 13 63) (bm 13 1055) rfl rfl rfl rfl (two_of HT_.out (by kernel_rfl)) (by decide) (by decide) (fun K hK => ?_) (fun K hK => ?_)
         ·skip
          refine goes_ Try.func12 (by kernel_rfl) rfl #[.agg #[.int .i64 a2_0, .bool a2_1]] (by rfl) rfl rfl m1_ ?_
          with_reducible refine (laws_toRecSay.calls a2_0 a2_1 t247 t248 _ A19.out).mono ?_
          rintro e w36 ⟨rfl, hb⟩
          refine ⟨_, rfl, ?_⟩
          have n0_ := Aside0.mk (Kd.R_below m13_ hb)
          have n1_ := Aside0.mk (blk_below (g := gb237) (o := .cells #[.string a1_0, .int .i64 a1_1, .int .i64 a1_2] 24 (0, 0)) m2_ hb)
          have n2_ := Aside0.mk (blk_below (g := gb238) (o := .cells #[.int .i64 a2_0, .bool a2_1] 26 (0, 0)) m3_ hb)
          have n3_ := Aside0.mk (below_step m5_ hb)
          clear HO243
          clear BK237
          clear BK238
          clear HB
          have HO243 := n0_
          have BK237 := n1_
          have BK238 := n2_
          have HB := n3_
          clear n0_ n1_ n2_ n3_
          (try clear hb)
          (try clear hb2)
          (try clear hk)
          (try clear hi)
          refine hK.out _ _ ⟨(blk_cell BK237.out 0).trans rfl, (blk_cell BK237.out 1).trans rfl, (blk_cell BK237.out 2).trans rfl, (blk_cell BK238.out 0).trans rfl, (blk_cell BK238.out 1).trans rfl⟩ (fun hHeld => ?_)
          clear hK K
          refine no_ ?_
          exact norm_ m18_ (hJ1_3_5 (v242) _ ⟨hHeld, m13_, m2_, m3_, m5_⟩)
         ·skip
          refine box_step ?hg (N := 8) ?hd (cs := #[.string (⟨#[]⟩ : ByteArray), .int .i64 0, .int .i64 0]) (t := 29) ?hr ?_; (case hd => rfl); (case hg => rfl); (case hr => first | (go_simp; done) | (go_simp; rfl))
          intro gb253 hg w36 hbox hb
          have n0_ := Aside0.mk (Kd.R_below m13_ hb)
          have n1_ := Aside0.mk (blk_below (g := gb237) (o := .cells #[.string a1_0, .int .i64 a1_1, .int .i64 a1_2] 24 (0, 0)) m2_ hb)
          have n2_ := Aside0.mk (blk_below (g := gb238) (o := .cells #[.int .i64 a2_0, .bool a2_1] 26 (0, 0)) m3_ hb)
          have n3_ := Aside0.mk (below_step m5_ hb)
          have n4_ := Aside0.mk (hbox)
          have n5_ := Aside0.mk ((by rw [hg]; exact (below_size m5_) : w.heap.size ≤ gb253))
          have n6_ := Aside0.mk ((by rw [hg]; exact (below_size m5_) : w.heap.size ≤ gb253))
          have n7_ := Aside0.mk ((by rw [hg]; exact Nat.ne_of_lt (blk_lt (g := gb237) (o := .cells #[.string a1_0, .int .i64 a1_1, .int .i64 a1_2] 24 (0, 0)) m2_) : gb237 ≠ gb253))
          have n8_ := Aside0.mk ((by rw [hg]; exact Nat.ne_of_gt (blk_lt (g := gb237) (o := .cells #[.string a1_0, .int .i64 a1_1, .int .i64 a1_2] 24 (0, 0)) m2_) : gb253 ≠ gb237))
          have n9_ := Aside0.mk ((by rw [hg]; exact Nat.ne_of_lt (blk_lt (g := gb238) (o := .cells #[.int .i64 a2_0, .bool a2_1] 26 (0, 0)) m3_) : gb238 ≠ gb253))
          have n10_ := Aside0.mk ((by rw [hg]; exact Nat.ne_of_gt (blk_lt (g := gb238) (o := .cells #[.int .i64 a2_0, .bool a2_1] 26 (0, 0)) m3_) : gb253 ≠ gb238))
          clear HO243
          clear BK237
          clear BK238
          clear HB
          have HO243 := n0_
          have BK237 := n1_
          have BK238 := n2_
          have HB := n3_
          have BK253 := n4_
          have GW253 := n5_
          have GE253 := n6_
          have NB237_253 := n7_
          have NB253_237 := n8_
          have NB238_253 := n9_
          have NB253_238 := n10_
          clear n0_ n1_ n2_ n3_ n4_ n5_ n6_ n7_ n8_ n9_ n10_
          clear hb hbox hg
          refine hK.out _ _ ⟨(blk_cell BK237.out 0).trans rfl, (blk_cell BK237.out 1).trans rfl, (blk_cell BK237.out 2).trans rfl, (blk_cell BK238.out 0).trans rfl, (blk_cell BK238.out 1).trans rfl⟩ (fun hHeld => ?_)
          clear hK K
          refine no_ ?_
          exact norm_ m18_ (hJ1_3_10 (v242, gb253) _ ⟨hHeld, m13_, m2_, m3_, m9_, GW253.out, GE253.out, NB237_253.out, NB253_237.out, NB238_253.out, NB253_238.out, m4_⟩)
       ·skip
        rintro ⟨v242, gb253⟩ w36 ⟨hS_, h0_, h1_, h2_, h3_, h4_, h5_, h6_, h7_, h8_, h9_, h10_⟩
        have n0_ : Aside0 (Kd.R k44 44 w36 w.heap.size (fun _ => True) v242 t241) := ⟨h0_⟩
        have n1_ : Aside0 (w36.heap[gb237]? = some (.cells #[.string a1_0, .int .i64 a1_1, .int .i64 a1_2] 24 (0, 0))) := ⟨h1_⟩
        have n2_ : Aside0 (w36.heap[gb238]? = some (.cells #[.int .i64 a2_0, .bool a2_1] 26 (0, 0))) := ⟨h2_⟩
        have n3_ : Aside0 (w36.heap[gb253]? = some (.cells #[.string (⟨#[]⟩ : ByteArray), .int .i64 0, .int .i64 0] 29 (0, 0))) := ⟨h3_⟩
        have n4_ : Aside0 (w.heap.size ≤ gb253) := ⟨h4_⟩
        have n5_ : Aside0 (w.heap.size ≤ gb253) := ⟨h5_⟩
        have n6_ : Aside0 (gb237 ≠ gb253) := ⟨h6_⟩
        have n7_ : Aside0 (gb253 ≠ gb237) := ⟨h7_⟩
        have n8_ : Aside0 (gb238 ≠ gb253) := ⟨h8_⟩
        have n9_ : Aside0 (gb253 ≠ gb238) := ⟨h9_⟩
        have n10_ : Aside0 (Below w.heap.size w w36) := ⟨h10_⟩
        clear BK237
        clear BK238
        clear HB
        clear h0_ h1_ h2_ h3_ h4_ h5_ h6_ h7_ h8_ h9_ h10_
        have HO243 := n0_
        have BK237 := n1_
        have BK238 := n2_
        have BK253 := n3_
        have GW253 := n4_
        have GE253 := n5_
        have NB237_253 := n6_
        have NB253_237 := n7_
        have NB238_253 := n8_
        have NB253_238 := n9_
        have HB := n10_
        clear n0_ n1_ n2_ n3_ n4_ n5_ n6_ n7_ n8_ n9_ n10_
        have hHeld : w36.cell? ⟨gb237, 0, none⟩ = some (.string a1_0) ∧ w36.cell? ⟨gb237, 1, none⟩ = some (.int .i64 a1_1) ∧ w36.cell? ⟨gb237, 2, none⟩ = some (.int .i64 a1_2) ∧ w36.cell? ⟨gb238, 0, none⟩ = some (.int .i64 a2_0) ∧ w36.cell? ⟨gb238, 1, none⟩ = some (.bool a2_1) := hS_
        refine norm_ (a' := ?_) ?_ ?_
        rotate_left
        ·simp only [putAll, Act.put, List.setIfInBounds_toArray, List.set_cons_zero, List.set_cons_succ]
         rfl
        refine one_ (i := 5) (N := some 29) (bm 13 1087) rfl rfl (one_of HT_.out (by kernel_rfl)) (by decide) (fun K hK => ?_)
        refine goes_ Try.func12 (by kernel_rfl) rfl #[.agg #[.int .i64 a2_0, .bool a2_1]] (by rfl) rfl rfl m1_ ?_
        with_reducible refine (laws_toRecSay.calls a2_0 a2_1 t247 t248 _ A19.out).mono ?_
        rintro e w37 ⟨rfl, hb⟩
        refine ⟨_, rfl, ?_⟩
        have n0_ := Aside0.mk (Kd.R_below m13_ hb)
        have n1_ := Aside0.mk (blk_below (g := gb237) (o := .cells #[.string a1_0, .int .i64 a1_1, .int .i64 a1_2] 24 (0, 0)) m2_ hb)
        have n2_ := Aside0.mk (blk_below (g := gb238) (o := .cells #[.int .i64 a2_0, .bool a2_1] 26 (0, 0)) m3_ hb)
        have n3_ := Aside0.mk (blk_below (g := gb253) (o := .cells #[.string (⟨#[]⟩ : ByteArray), .int .i64 0, .int .i64 0] 29 (0, 0)) m9_ hb)
        have n4_ := Aside0.mk (below_step m4_ hb)
        clear HO243
        clear BK237
        clear BK238
        clear BK253
        clear HB
        have HO243 := n0_
        have BK237 := n1_
        have BK238 := n2_
        have BK253 := n3_
        have HB := n4_
        clear n0_ n1_ n2_ n3_ n4_
        (try clear hb)
        (try clear hb2)
        (try clear hk)
        (try clear hi)
        refine hK.out _ _ ⟨(blk_cell BK237.out 0).trans rfl, (blk_cell BK237.out 1).trans rfl, (blk_cell BK237.out 2).trans rfl, (blk_cell BK238.out 0).trans rfl, (blk_cell BK238.out 1).trans rfl⟩ (fun hHeld => ?_)
        clear hK K
        refine no_ ?_
        exact norm_ m18_ (hJ1_3_5_10 (v242, gb253) _ ⟨hHeld, m13_, m2_, m3_, m9_, GW253.out, GE253.out, NB237_253.out, NB253_237.out, NB238_253.out, NB253_238.out, m4_⟩)
      ·skip
       rintro v242 w36 ⟨hS_, h0_, h1_, h2_, h3_⟩
       have n0_ : Aside0 (Kd.R k44 44 w36 w.heap.size (fun _ => True) v242 t241) := ⟨h0_⟩
       have n1_ : Aside0 (w36.heap[gb237]? = some (.cells #[.string a1_0, .int .i64 a1_1, .int .i64 a1_2] 24 (0, 0))) := ⟨h1_⟩
       have n2_ : Aside0 (w36.heap[gb238]? = some (.cells #[.int .i64 a2_0, .bool a2_1] 26 (0, 0))) := ⟨h2_⟩
       have n3_ : Aside0 (Below w.heap.size w w36) := ⟨h3_⟩
       clear BK237
       clear BK238
       clear HB
       clear h0_ h1_ h2_ h3_
       have HO243 := n0_
       have BK237 := n1_
       have BK238 := n2_
       have HB := n3_
       clear n0_ n1_ n2_ n3_
       have hHeld : w36.cell? ⟨gb237, 0, none⟩ = some (.string a1_0) ∧ w36.cell? ⟨gb237, 1, none⟩ = some (.int .i64 a1_1) ∧ w36.cell? ⟨gb237, 2, none⟩ = some (.int .i64 a1_2) ∧ w36.cell? ⟨gb238, 0, none⟩ = some (.int .i64 a2_0) ∧ w36.cell? ⟨gb238, 1, none⟩ = some (.bool a2_1) := hS_
       obtain ⟨Ao37, co37, eo37⟩ := Kd.R_slice HO243.out
       (first | subst eo37 | (injection eo37 with f1_ f2_ f3_; have f4_ := f1_.symm; have f5_ := f3_.symm; clear f1_ f2_ f3_; subst f4_; subst f5_))
       refine norm_ (a' := ?_) ?_ ?_
       rotate_left
       ·simp only [putAll, Act.put, List.setIfInBounds_toArray, List.set_cons_zero, List.set_cons_succ]
        rfl
       refine two_ (i := 6) (j := 10) (Ni := some 30) (Nj := some 8) (bm 13 127) (bm 13 1087) rfl rfl rfl rfl (two_of HT_.out (by kernel_rfl)) (by decide) (by decide) (fun K hK => ?_) (fun K hK => ?_)
       ·skip
        refine goes_ Try.func9 (by kernel_rfl) rfl #[.slice Ao37 t241.length co37, .agg #[.string t244, .int .i64 t245, .int .i64 t246], .agg #[.int .i64 t247, .bool t248]] (by rfl) rfl rfl m1_ ?_
        with_reducible refine (spec_RecGo.calls k _ _ t241 t244 t245 t246 t247 t248 t249 t250 t251 t252 _ ?side1 ?side2 A20.out).mono ?_
        (case side1 => exact (by repeat (first | exact (Kd.R_reads' HO243.out).2.2 | (with_reducible refine Kd.C_alloc ?_ _) | (with_reducible refine Kd.C_drewN ?_ _) | (with_reducible refine Kd.C_drew ?_))))
        (case side2 => exact (Kd.R_reads' HO243.out).2.1)
        rintro e w38 ⟨rfl, hb⟩
        refine ⟨_, rfl, ?_⟩
        have n0_ := Aside0.mk (Kd.R_below m13_ hb)
        have n1_ := Aside0.mk (blk_below (g := gb237) (o := .cells #[.string a1_0, .int .i64 a1_1, .int .i64 a1_2] 24 (0, 0)) m2_ hb)
        have n2_ := Aside0.mk (blk_below (g := gb238) (o := .cells #[.int .i64 a2_0, .bool a2_1] 26 (0, 0)) m3_ hb)
        have n3_ := Aside0.mk (below_step m5_ hb)
        clear HO243
        clear BK237
        clear BK238
        clear HB
        have HO243 := n0_
        have BK237 := n1_
        have BK238 := n2_
        have HB := n3_
        clear n0_ n1_ n2_ n3_
        (try clear hb)
        (try clear hb2)
        (try clear hk)
        (try clear hi)
        refine hK.out _ _ ⟨(blk_cell BK237.out 0).trans rfl, (blk_cell BK237.out 1).trans rfl, (blk_cell BK237.out 2).trans rfl, (blk_cell BK238.out 0).trans rfl, (blk_cell BK238.out 1).trans rfl⟩ (fun hHeld => ?_)
        clear hK K
        refine no_ ?_
        refine pure_ (i := 7) (N := some 23) (v := ?_) (a' := ?_) (bm 13 255) rfl rfl (any_of HT_.out (by kernel_rfl)) (fun _ _ _ h => h) (Or.inl ⟨(by rfl), ?_⟩) ?_ ?_; rotate_left; intro w'; go_simp; with_reducible rfl; rotate_left; simp only [Act.put, List.setIfInBounds_toArray, List.set_cons_zero, List.set_cons_succ, i64_w, i32_w]; rfl
        refine pure_ (i := 8) (N := some 31) (v := ?_) (a' := ?_) (bm 13 511) rfl rfl (any_of HT_.out (by kernel_rfl)) (fun _ _ _ h => h) (Or.inl ⟨(by rfl), ?_⟩) ?_ ?_; rotate_left; intro w'; go_simp; with_reducible rfl; rotate_left; simp only [Act.put, List.setIfInBounds_toArray, List.set_cons_zero, List.set_cons_succ, i64_w, i32_w]; rfl
        refine pure_ (i := 9) (N := some 32) (v := ?_) (a' := ?_) (bm 13 1023) rfl rfl (any_of HT_.out (by kernel_rfl)) (fun _ _ _ h => h) (Or.inl ⟨(by rfl), ?_⟩) ?_ ?_; rotate_left; intro w'; go_simp; with_reducible rfl; rotate_left; simp only [Act.put, List.setIfInBounds_toArray, List.set_cons_zero, List.set_cons_succ, i64_w, i32_w]; rfl
        exact norm_ m18_ (hJ1_3_5_6 (.slice Ao37 t241.length co37) _ ⟨hHeld, m13_, m2_, m3_, m5_⟩)
       ·skip
        refine box_step ?hg (N := 8) ?hd (cs := #[.string (⟨#[]⟩ : ByteArray), .int .i64 0, .int .i64 0]) (t := 29) ?hr ?_; (case hd => rfl); (case hg => rfl); (case hr => first | (go_simp; done) | (go_simp; rfl))
        intro gb253 hg w37 hbox hb
        have n0_ := Aside0.mk (Kd.R_below m13_ hb)
        have n1_ := Aside0.mk (blk_below (g := gb237) (o := .cells #[.string a1_0, .int .i64 a1_1, .int .i64 a1_2] 24 (0, 0)) m2_ hb)
        have n2_ := Aside0.mk (blk_below (g := gb238) (o := .cells #[.int .i64 a2_0, .bool a2_1] 26 (0, 0)) m3_ hb)
        have n3_ := Aside0.mk (below_step m5_ hb)
        have n4_ := Aside0.mk (hbox)
        have n5_ := Aside0.mk ((by rw [hg]; exact (below_size m5_) : w.heap.size ≤ gb253))
        have n6_ := Aside0.mk ((by rw [hg]; exact (below_size m5_) : w.heap.size ≤ gb253))
        have n7_ := Aside0.mk ((by rw [hg]; exact Nat.ne_of_lt (blk_lt (g := gb237) (o := .cells #[.string a1_0, .int .i64 a1_1, .int .i64 a1_2] 24 (0, 0)) m2_) : gb237 ≠ gb253))
        have n8_ := Aside0.mk ((by rw [hg]; exact Nat.ne_of_gt (blk_lt (g := gb237) (o := .cells #[.string a1_0, .int .i64 a1_1, .int .i64 a1_2] 24 (0, 0)) m2_) : gb253 ≠ gb237))
        have n9_ := Aside0.mk ((by rw [hg]; exact Nat.ne_of_lt (blk_lt (g := gb238) (o := .cells #[.int .i64 a2_0, .bool a2_1] 26 (0, 0)) m3_) : gb238 ≠ gb253))
        have n10_ := Aside0.mk ((by rw [hg]; exact Nat.ne_of_gt (blk_lt (g := gb238) (o := .cells #[.int .i64 a2_0, .bool a2_1] 26 (0, 0)) m3_) : gb253 ≠ gb238))
        clear HO243
        clear BK237
        clear BK238
        clear HB
        have HO243 := n0_
        have BK237 := n1_
        have BK238 := n2_
        have HB := n3_
        have BK253 := n4_
        have GW253 := n5_
        have GE253 := n6_
        have NB237_253 := n7_
        have NB253_237 := n8_
        have NB238_253 := n9_
        have NB253_238 := n10_
        clear n0_ n1_ n2_ n3_ n4_ n5_ n6_ n7_ n8_ n9_ n10_
        clear hb hbox hg
        refine hK.out _ _ ⟨(blk_cell BK237.out 0).trans rfl, (blk_cell BK237.out 1).trans rfl, (blk_cell BK237.out 2).trans rfl, (blk_cell BK238.out 0).trans rfl, (blk_cell BK238.out 1).trans rfl⟩ (fun hHeld => ?_)
        clear hK K
        refine no_ ?_
        exact norm_ m18_ (hJ1_3_5_10 (v242, gb253) _ ⟨hHeld, m13_, m2_, m3_, m9_, GW253.out, GE253.out, NB237_253.out, NB253_237.out, NB238_253.out, NB253_238.out, m4_⟩)
     ·skip
      rintro ⟨v242, gb253⟩ w37 ⟨hS_, h0_, h1_, h2_, h3_, h4_, h5_, h6_, h7_, h8_, h9_, h10_⟩
      have n0_ : Aside0 (Kd.R k44 44 w37 w.heap.size (fun _ => True) v242 t241) := ⟨h0_⟩
      have n1_ : Aside0 (w37.heap[gb237]? = some (.cells #[.string a1_0, .int .i64 a1_1, .int .i64 a1_2] 24 (0, 0))) := ⟨h1_⟩
      have n2_ : Aside0 (w37.heap[gb238]? = some (.cells #[.int .i64 a2_0, .bool a2_1] 26 (0, 0))) := ⟨h2_⟩
      have n3_ : Aside0 (w37.heap[gb253]? = some (.cells #[.string (⟨#[]⟩ : ByteArray), .int .i64 0, .int .i64 0] 29 (0, 0))) := ⟨h3_⟩
      have n4_ : Aside0 (w.heap.size ≤ gb253) := ⟨h4_⟩
      have n5_ : Aside0 (w.heap.size ≤ gb253) := ⟨h5_⟩
      have n6_ : Aside0 (gb237 ≠ gb253) := ⟨h6_⟩
      have n7_ : Aside0 (gb253 ≠ gb237) := ⟨h7_⟩
      have n8_ : Aside0 (gb238 ≠ gb253) := ⟨h8_⟩
      have n9_ : Aside0 (gb253 ≠ gb238) := ⟨h9_⟩
      have n10_ : Aside0 (Below w.heap.size w w37) := ⟨h10_⟩
      clear BK237
      clear BK238
      clear HB
      clear h0_ h1_ h2_ h3_ h4_ h5_ h6_ h7_ h8_ h9_ h10_
      have HO243 := n0_
      have BK237 := n1_
      have BK238 := n2_
      have BK253 := n3_
      have GW253 := n4_
      have GE253 := n5_
      have NB237_253 := n6_
      have NB253_237 := n7_
      have NB238_253 := n8_
      have NB253_238 := n9_
      have HB := n10_
      clear n0_ n1_ n2_ n3_ n4_ n5_ n6_ n7_ n8_ n9_ n10_
      have hHeld : w37.cell? ⟨gb237, 0, none⟩ = some (.string a1_0) ∧ w37.cell? ⟨gb237, 1, none⟩ = some (.int .i64 a1_1) ∧ w37.cell? ⟨gb237, 2, none⟩ = some (.int .i64 a1_2) ∧ w37.cell? ⟨gb238, 0, none⟩ = some (.int .i64 a2_0) ∧ w37.cell? ⟨gb238, 1, none⟩ = some (.bool a2_1) := hS_
      obtain ⟨Ao38, co38, eo38⟩ := Kd.R_slice HO243.out
      (first | subst eo38 | (injection eo38 with f1_ f2_ f3_; have f4_ := f1_.symm; have f5_ := f3_.symm; clear f1_ f2_ f3_; subst f4_; subst f5_))
      refine norm_ (a' := ?_) ?_ ?_
      rotate_left
      ·simp only [putAll, Act.put, List.setIfInBounds_toArray, List.set_cons_zero, List.set_cons_succ]
       rfl
      refine one_ (i := 6) (N := some 30) (bm 13 1151) rfl rfl (one_of HT_.out (by kernel_rfl)) (by decide) (fun K hK => ?_)
      refine goes_ Try.func9 (by kernel_rfl) rfl #[.slice Ao38 t241.length co38, .agg #[.string t244, .int .i64 t245, .int .i64 t246], .agg #[.int .i64 t247, .bool t248]] (by rfl) rfl rfl m1_ ?_
      with_reducible refine (spec_RecGo.calls k _ _ t241 t244 t245 t246 t247 t248 t249 t250 t251 t252 _ ?side1 ?side2 A20.out).mono ?_
      (case side1 => exact (by repeat (first | exact (Kd.R_reads' HO243.out).2.2 | (with_reducible refine Kd.C_alloc ?_ _) | (with_reducible refine Kd.C_drewN ?_ _) | (with_reducible refine Kd.C_drew ?_))))
      (case side2 => exact (Kd.R_reads' HO243.out).2.1)
      rintro e w39 ⟨rfl, hb⟩
      refine ⟨_, rfl, ?_⟩
      have n0_ := Aside0.mk (Kd.R_below m13_ hb)
      have n1_ := Aside0.mk (blk_below (g := gb237) (o := .cells #[.string a1_0, .int .i64 a1_1, .int .i64 a1_2] 24 (0, 0)) m2_ hb)
      have n2_ := Aside0.mk (blk_below (g := gb238) (o := .cells #[.int .i64 a2_0, .bool a2_1] 26 (0, 0)) m3_ hb)
      have n3_ := Aside0.mk (blk_below (g := gb253) (o := .cells #[.string (⟨#[]⟩ : ByteArray), .int .i64 0, .int .i64 0] 29 (0, 0)) m9_ hb)
      have n4_ := Aside0.mk (below_step m4_ hb)
      clear HO243
      clear BK237
      clear BK238
      clear BK253
      clear HB
      have HO243 := n0_
      have BK237 := n1_
      have BK238 := n2_
      have BK253 := n3_
      have HB := n4_
      clear n0_ n1_ n2_ n3_ n4_
      (try clear hb)
      (try clear hb2)
      (try clear hk)
      (try clear hi)
      refine hK.out _ _ ⟨(blk_cell BK237.out 0).trans rfl, (blk_cell BK237.out 1).trans rfl, (blk_cell BK237.out 2).trans rfl, (blk_cell BK238.out 0).trans rfl, (blk_cell BK238.out 1).trans rfl⟩ (fun hHeld => ?_)
      clear hK K
      refine no_ ?_
      refine pure_ (i := 7) (N := some 23) (v := ?_) (a' := ?_) (bm 13 1279) rfl rfl (any_of HT_.out (by kernel_rfl)) (fun _ _ _ h => h) (Or.inl ⟨(by rfl), ?_⟩) ?_ ?_; rotate_left; intro w'; go_simp; with_reducible rfl; rotate_left; simp only [Act.put, List.setIfInBounds_toArray, List.set_cons_zero, List.set_cons_succ, i64_w, i32_w]; rfl
      refine pure_ (i := 8) (N := some 31) (v := ?_) (a' := ?_) (bm 13 1535) rfl rfl (any_of HT_.out (by kernel_rfl)) (fun _ _ _ h => h) (Or.inl ⟨(by rfl), ?_⟩) ?_ ?_; rotate_left; intro w'; go_simp; with_reducible rfl; rotate_left; simp only [Act.put, List.setIfInBounds_toArray, List.set_cons_zero, List.set_cons_succ, i64_w, i32_w]; rfl
      refine pure_ (i := 9) (N := some 32) (v := ?_) (a' := ?_) (bm 13 2047) rfl rfl (any_of HT_.out (by kernel_rfl)) (fun _ _ _ h => h) (Or.inl ⟨(by rfl), ?_⟩) ?_ ?_; rotate_left; intro w'; go_simp; with_reducible rfl; rotate_left; simp only [Act.put, List.setIfInBounds_toArray, List.set_cons_zero, List.set_cons_succ, i64_w, i32_w]; rfl
      exact norm_ m18_ (hJ1_3_5_6_10 (.slice Ao38 t241.length co38, gb253) _ ⟨hHeld, m13_, m2_, m3_, m9_, GW253.out, GE253.out, NB237_253.out, NB253_237.out, NB238_253.out, NB253_238.out, m4_⟩)
    ·skip
     rintro v242 w38 ⟨hS_, h0_, h1_, h2_, h3_⟩
     have n0_ : Aside0 (Kd.R k44 44 w38 w.heap.size (fun _ => True) v242 t241) := ⟨h0_⟩
     have n1_ : Aside0 (w38.heap[gb237]? = some (.cells #[.string a1_0, .int .i64 a1_1, .int .i64 a1_2] 24 (0, 0))) := ⟨h1_⟩
     have n2_ : Aside0 (w38.heap[gb238]? = some (.cells #[.int .i64 a2_0, .bool a2_1] 26 (0, 0))) := ⟨h2_⟩
     have n3_ : Aside0 (Below w.heap.size w w38) := ⟨h3_⟩
     clear BK237
     clear BK238
     clear HB
     clear h0_ h1_ h2_ h3_
     have HO243 := n0_
     have BK237 := n1_
     have BK238 := n2_
     have HB := n3_
     clear n0_ n1_ n2_ n3_
     have hHeld : w38.cell? ⟨gb237, 0, none⟩ = some (.string a1_0) ∧ w38.cell? ⟨gb237, 1, none⟩ = some (.int .i64 a1_1) ∧ w38.cell? ⟨gb237, 2, none⟩ = some (.int .i64 a1_2) ∧ w38.cell? ⟨gb238, 0, none⟩ = some (.int .i64 a2_0) ∧ w38.cell? ⟨gb238, 1, none⟩ = some (.bool a2_1) := hS_
     refine norm_ (a' := ?_) ?_ ?_
     rotate_left
     ·simp only [putAll, Act.put, List.setIfInBounds_toArray, List.set_cons_zero, List.set_cons_succ]
      rfl
     refine one_ (i := 10) (N := some 8) (bm 13 2047) rfl rfl (one_of HT_.out (by kernel_rfl)) (by decide) (fun K hK => ?_)
     refine box_step ?hg (N := 8) ?hd (cs := #[.string (⟨#[]⟩ : ByteArray), .int .i64 0, .int .i64 0]) (t := 29) ?hr ?_; (case hd => rfl); (case hg => rfl); (case hr => first | (go_simp; done) | (go_simp; rfl))
     intro gb253 hg w39 hbox hb
     have n0_ := Aside0.mk (Kd.R_below m13_ hb)
     have n1_ := Aside0.mk (blk_below (g := gb237) (o := .cells #[.string a1_0, .int .i64 a1_1, .int .i64 a1_2] 24 (0, 0)) m2_ hb)
     have n2_ := Aside0.mk (blk_below (g := gb238) (o := .cells #[.int .i64 a2_0, .bool a2_1] 26 (0, 0)) m3_ hb)
     have n3_ := Aside0.mk (below_step m5_ hb)
     have n4_ := Aside0.mk (hbox)
     have n5_ := Aside0.mk ((by rw [hg]; exact (below_size m5_) : w.heap.size ≤ gb253))
     have n6_ := Aside0.mk ((by rw [hg]; exact (below_size m5_) : w.heap.size ≤ gb253))
     have n7_ := Aside0.mk ((by rw [hg]; exact Nat.ne_of_lt (blk_lt (g := gb237) (o := .cells #[.string a1_0, .int .i64 a1_1, .int .i64 a1_2] 24 (0, 0)) m2_) : gb237 ≠ gb253))
     have n8_ := Aside0.mk ((by rw [hg]; exact Nat.ne_of_gt (blk_lt (g := gb237) (o := .cells #[.string a1_0, .int .i64 a1_1, .int .i64 a1_2] 24 (0, 0)) m2_) : gb253 ≠ gb237))
     have n9_ := Aside0.mk ((by rw [hg]; exact Nat.ne_of_lt (blk_lt (g := gb238) (o := .cells #[.int .i64 a2_0, .bool a2_1] 26 (0, 0)) m3_) : gb238 ≠ gb253))
     have n10_ := Aside0.mk ((by rw [hg]; exact Nat.ne_of_gt (blk_lt (g := gb238) (o := .cells #[.int .i64 a2_0, .bool a2_1] 26 (0, 0)) m3_) : gb253 ≠ gb238))
     clear HO243
     clear BK237
     clear BK238
     clear HB
     have HO243 := n0_
     have BK237 := n1_
     have BK238 := n2_
     have HB := n3_
     have BK253 := n4_
     have GW253 := n5_
     have GE253 := n6_
     have NB237_253 := n7_
     have NB253_237 := n8_
     have NB238_253 := n9_
     have NB253_238 := n10_
     clear n0_ n1_ n2_ n3_ n4_ n5_ n6_ n7_ n8_ n9_ n10_
     clear hb hbox hg
     refine hK.out _ _ ⟨(blk_cell BK237.out 0).trans rfl, (blk_cell BK237.out 1).trans rfl, (blk_cell BK237.out 2).trans rfl, (blk_cell BK238.out 0).trans rfl, (blk_cell BK238.out 1).trans rfl⟩ (fun hHeld => ?_)
     clear hK K
     refine no_ ?_
     exact norm_ m18_ (hJ1_3_5_6_10 (v242, gb253) _ ⟨hHeld, m13_, m2_, m3_, m9_, GW253.out, GE253.out, NB237_253.out, NB253_237.out, NB238_253.out, NB253_238.out, m4_⟩)
   rintro ⟨v242, gb253⟩ w39 ⟨hS_, h0_, h1_, h2_, h3_, h4_, h5_, h6_, h7_, h8_, h9_, h10_⟩
   have n0_ : Aside0 (Kd.R k44 44 w39 w.heap.size (fun _ => True) v242 t241) := ⟨h0_⟩
   have n1_ : Aside0 (w39.heap[gb237]? = some (.cells #[.string a1_0, .int .i64 a1_1, .int .i64 a1_2] 24 (0, 0))) := ⟨h1_⟩
   have n2_ : Aside0 (w39.heap[gb238]? = some (.cells #[.int .i64 a2_0, .bool a2_1] 26 (0, 0))) := ⟨h2_⟩
   have n3_ : Aside0 (w39.heap[gb253]? = some (.cells #[.string (⟨#[]⟩ : ByteArray), .int .i64 0, .int .i64 0] 29 (0, 0))) := ⟨h3_⟩
   have n4_ : Aside0 (w.heap.size ≤ gb253) := ⟨h4_⟩
   have n5_ : Aside0 (w.heap.size ≤ gb253) := ⟨h5_⟩
   have n6_ : Aside0 (gb237 ≠ gb253) := ⟨h6_⟩
   have n7_ : Aside0 (gb253 ≠ gb237) := ⟨h7_⟩
   have n8_ : Aside0 (gb238 ≠ gb253) := ⟨h8_⟩
   have n9_ : Aside0 (gb253 ≠ gb238) := ⟨h9_⟩
   have n10_ : Aside0 (Below w.heap.size w w39) := ⟨h10_⟩
   clear BK237
   clear BK238
   clear HB
   clear h0_ h1_ h2_ h3_ h4_ h5_ h6_ h7_ h8_ h9_ h10_
   have HO243 := n0_
   have BK237 := n1_
   have BK238 := n2_
   have BK253 := n3_
   have GW253 := n4_
   have GE253 := n5_
   have NB237_253 := n6_
   have NB253_237 := n7_
   have NB238_253 := n8_
   have NB253_238 := n9_
   have HB := n10_
   clear n0_ n1_ n2_ n3_ n4_ n5_ n6_ n7_ n8_ n9_ n10_
   have hHeld : w39.cell? ⟨gb237, 0, none⟩ = some (.string a1_0) ∧ w39.cell? ⟨gb237, 1, none⟩ = some (.int .i64 a1_1) ∧ w39.cell? ⟨gb237, 2, none⟩ = some (.int .i64 a1_2) ∧ w39.cell? ⟨gb238, 0, none⟩ = some (.int .i64 a2_0) ∧ w39.cell? ⟨gb238, 1, none⟩ = some (.bool a2_1) := hS_
   refine norm_ (a' := ?_) ?_ ?_
   rotate_left
   ·simp only [putAll, Act.put, List.setIfInBounds_toArray, List.set_cons_zero, List.set_cons_succ]
    rfl
   refine one_ (i := 11) (N := none) (bm 13 4095) rfl rfl (one_of HT_.out (by kernel_rfl)) (by decide) (fun K hK => ?_)
   have hs40 : w39.cell? ⟨gb253, 0, none⟩ = some (.string (⟨#[]⟩ : ByteArray)) := (blk_cell BK253.out 0).trans rfl
   have hfs40 := blk_frozen BK253.out 0
   have hns40_0 := NB237_253.out
   have hns40_1 := NB238_253.out
   have hms40_0 := NB253_237.out
   have hms40_1 := NB253_238.out
   have hs41 : w39.cell? ⟨gb253, 1, none⟩ = some (.int .i64 0) := (blk_cell BK253.out 1).trans rfl
   have hfs41 := blk_frozen BK253.out 1
   have hns41_0 := NB237_253.out
   have hns41_1 := NB238_253.out
   have hms41_0 := NB253_237.out
   have hms41_1 := NB253_238.out
   have hs42 : w39.cell? ⟨gb253, 2, none⟩ = some (.int .i64 0) := (blk_cell BK253.out 2).trans rfl
   have hfs42 := blk_frozen BK253.out 2
   have hns42_0 := NB237_253.out
   have hns42_1 := NB238_253.out
   have hms42_0 := NB253_237.out
   have hms42_1 := NB253_238.out
   refine skip_ (w1 := ?_) (by rfl) rfl ?_ ?_
   rotate_left
   ·go_simp
    rfl
   refine hK.out _ _ ⟨((cell_far (p := ⟨gb253, _, none⟩) NB237_253.out _).trans (((cell_far (p := ⟨gb253, _, none⟩) NB237_253.out _).trans (((cell_far (p := ⟨gb253, _, none⟩) NB237_253.out _).trans (hHeld.1)))))), ((cell_far (p := ⟨gb253, _, none⟩) NB237_253.out _).trans (((cell_far (p := ⟨gb253, _, none⟩) NB237_253.out _).trans (((cell_far (p := ⟨gb253, _, none⟩) NB237_253.out _).trans (hHeld.2.1)))))), ((cell_far (p := ⟨gb253, _, none⟩) NB237_253.out _).trans (((cell_far (p := ⟨gb253, _, none⟩) NB237_253.out _).trans (((cell_far (p := ⟨gb253, _, none⟩) NB237_253.out _).trans (hHeld.2.2.1)))))), ((cell_far (p := ⟨gb253, _, none⟩) NB238_253.out _).trans (((cell_far (p := ⟨gb253, _, none⟩) NB238_253.out _).trans (((cell_far (p := ⟨gb253, _, none⟩) NB238_253.out _).trans (hHeld.2.2.2.1)))))), ((cell_far (p := ⟨gb253, _, none⟩) NB238_253.out _).trans (((cell_far (p := ⟨gb253, _, none⟩) NB238_253.out _).trans (((cell_far (p := ⟨gb253, _, none⟩) NB238_253.out _).trans (hHeld.2.2.2.2))))))⟩ (fun hHeld => ?_)
   clear hK K
   refine pure_ (i := 12) (N := some 9) (v := ?_) (a' := ?_) (bm 13 8191) rfl rfl (any_of HT_.out (by kernel_rfl)) (fun _ _ _ h => h) (Or.inl ⟨(by rfl), ?_⟩) ?_ ?_; rotate_left; intro w'; go_simp; with_reducible rfl; rotate_left; simp only [Act.put, List.setIfInBounds_toArray, List.set_cons_zero, List.set_cons_succ, i64_w, i32_w]; rfl
   refine done_ (done_of HT_.out (by kernel_rfl)) ?_
   try go_wp2_with (first | ((with_reducible refine gate_callee (f := 10) rfl ?_); refine goesL_ (some 34) rfl rfl Try.func10 (by kernel_rfl) rfl #[.slice A0 l0.length c0] rfl m1_ ?_; (with_reducible refine (laws_toRecPhaseS.calls k _ _ l0 t254 _ ?side1 ?side2 A21.out).mono ?_); (case side1 => exact Kd.C_below HR0.out m4_); (case side2 => exact HC0.out); rintro e w43 ⟨v255, rfl, ho0, hb⟩; refine ⟨_, rfl, ?_⟩; have n0_ := Aside0.mk (Kd.R_elder' m61_ (Kd.R_base ho0) hb); have n1_ := Aside0.mk (Kd.R_lower (Kd.R_new' ho0 (Kd.R_lt m61_)) (below_size m4_)); have n2_ := Aside0.mk (blk_below (g := gb237) (o := .cells #[.string a1_0, .int .i64 a1_1, .int .i64 a1_2] 24 (0, 0)) (by (with_reducible repeat (first | refine blk_drewN ?_ _ | refine blk_drew ?_ | refine blk_alloc ?_ _)); refine blk_far ?_ NB237_253.out _; (with_reducible repeat (first | refine blk_drewN ?_ _ | refine blk_drew ?_ | refine blk_alloc ?_ _)); refine blk_far ?_ NB237_253.out _; (with_reducible repeat (first | refine blk_drewN ?_ _ | refine blk_drew ?_ | refine blk_alloc ?_ _)); refine blk_far ?_ NB237_253.out _; (with_reducible repeat (first | refine blk_drewN ?_ _ | refine blk_drew ?_ | refine blk_alloc ?_ _)); exact BK237.out) hb); have n3_ := Aside0.mk (blk_below (g := gb238) (o := .cells #[.int .i64 a2_0, .bool a2_1] 26 (0, 0)) (by (with_reducible repeat (first | refine blk_drewN ?_ _ | refine blk_drew ?_ | refine blk_alloc ?_ _)); refine blk_far ?_ NB238_253.out _; (with_reducible repeat (first | refine blk_drewN ?_ _ | refine blk_drew ?_ | refine blk_alloc ?_ _)); refine blk_far ?_ NB238_253.out _; (with_reducible repeat (first | refine blk_drewN ?_ _ | refine blk_drew ?_ | refine blk_alloc ?_ _)); refine blk_far ?_ NB238_253.out _; (with_reducible repeat (first | refine blk_drewN ?_ _ | refine blk_drew ?_ | refine blk_alloc ?_ _)); exact BK238.out) hb); have n4_ := Aside0.mk (blk_below (g := gb253) (o := .cells #[.string t249, .int .i64 t250, .int .i64 t251] 29 (0, 0)) (by (with_reducible repeat (first | refine blk_drewN ?_ _ | refine blk_drew ?_ | refine blk_alloc ?_ _)); refine blk_put (cs := #[.string t249, .int .i64 t250, .int .i64 0]) ?_ 2 _ rfl; (with_reducible repeat (first | refine blk_drewN ?_ _ | refine blk_drew ?_ | refine blk_alloc ?_ _)); refine blk_put (cs := #[.string t249, .int .i64 0, .int .i64 0]) ?_ 1 _ rfl; (with_reducible repeat (first | refine blk_drewN ?_ _ | refine blk_drew ?_ | refine blk_alloc ?_ _)); refine blk_put (cs := #[.string (⟨#[]⟩ : ByteArray), .int .i64 0, .int .i64 0]) ?_ 0 _ rfl; (with_reducible repeat (first | refine blk_drewN ?_ _ | refine blk_drew ?_ | refine blk_alloc ?_ _)); exact BK253.out) hb); have n5_ := Aside0.mk (below_step m4_ hb); clear HO243; clear BK237; clear BK238; clear BK253; clear HB; have HO243 := n0_; have HO256 := n1_; have BK237 := n2_; have BK238 := n3_; have BK253 := n4_; have HB := n5_; clear n0_ n1_ n2_ n3_ n4_ n5_; (try clear hb); (try clear hb2); (try clear hk); (try clear hi); (try clear ho0); obtain ⟨Ao44, co44, eo44⟩ := Kd.R_slice HO256.out; subst eo44))
   have n0_ := Aside0.mk (Kd.R_drew HO243.out)
   have n1_ := Aside0.mk (Kd.R_drew HO256.out)
   have n2_ := Aside0.mk (blk_drew BK237.out)
   have n3_ := Aside0.mk (blk_drew BK238.out)
   have n4_ := Aside0.mk (blk_drew BK253.out)
   have n5_ := Aside0.mk (below_drew1 HB.out)
   clear HO243
   clear HO256
   clear BK237
   clear BK238
   clear BK253
   clear HB
   have HO243 := n0_
   have HO256 := n1_
   have BK237 := n2_
   have BK238 := n3_
   have BK253 := n4_
   have HB := n5_
   clear n0_ n1_ n2_ n3_ n4_ n5_
   refine start_ (n := 12) (S := fun w' => w'.cell? ⟨gb237, 0, none⟩ = some (.string a1_0) ∧ w'.cell? ⟨gb237, 1, none⟩ = some (.int .i64 a1_1) ∧ w'.cell? ⟨gb237, 2, none⟩ = some (.int .i64 a1_2) ∧ w'.cell? ⟨gb238, 0, none⟩ = some (.int .i64 a2_0) ∧ w'.cell? ⟨gb238, 1, none⟩ = some (.bool a2_1)) (ds := []) (bm 12 0) (by kernel_rfl) rfl rfl ⟨(blk_cell BK237.out 0).trans rfl, (blk_cell BK237.out 1).trans rfl, (blk_cell BK237.out 2).trans rfl, (blk_cell BK238.out 0).trans rfl, (blk_cell BK238.out 1).trans rfl⟩ (fun hHeld => ?_); refine with_tabW laws_FnExactRecGo.tab10 laws_FnExactRecGo.bits10 (fun HT_ HW_ => ?_)
   generalize w43.drew = w45 at HO243 HO256 BK237 BK238 BK253 HB hHeld ⊢
   refine pure_ (i := 0) (N := some 36) (v := ?_) (a' := ?_) (bm 12 1) rfl rfl (any_of HT_.out (by kernel_rfl)) (fun _ _ _ h => h) (Or.inl ⟨(by rfl), ?_⟩) ?_ ?_; rotate_left; intro w'; go_simp; with_reducible rfl; rotate_left; simp only [Act.put, List.setIfInBounds_toArray, List.set_cons_zero, List.set_cons_succ, i64_w, i32_w]; rfl
   refine take_ (i := 1) (N := some 37) (v := ?_) (a' := ?_) (bm 12 3) rfl rfl (take_ofW HT_.out HW_.out (by kernel_rfl)) (fun _ _ _ h => h) (Or.inl ⟨(by rfl), ?_⟩) hHeld ?_ ?_; rotate_left; rintro w' ⟨s0, s1, s2, s3, s4⟩; go_simp; with_reducible rfl; rotate_left; simp only [Act.put, List.setIfInBounds_toArray, List.set_cons_zero, List.set_cons_succ, i64_w, i32_w]; rfl
   refine take_ (i := 3) (N := some 39) (v := ?_) (a' := ?_) (bm 12 11) rfl rfl (take_ofW HT_.out HW_.out (by kernel_rfl)) (fun _ _ _ h => h) (Or.inl ⟨(by rfl), ?_⟩) hHeld ?_ ?_; rotate_left; rintro w' ⟨s0, s1, s2, s3, s4⟩; go_simp; with_reducible rfl; rotate_left; simp only [Act.put, List.setIfInBounds_toArray, List.set_cons_zero, List.set_cons_succ, i64_w, i32_w]; rfl
   refine join_ (σ := Nat) 2 (bm 12 1023) (fun s_ => [(38, .agg #[.string t257, .int .i64 t258, .int .i64 t259]), (40, .agg #[.int .i64 t260, .bool t261]), (41, .tuple #[.agg #[.string t262, .int .i64 t263, .int .i64 t264], .bool t265]), (11, .pointer (some ⟨s_, 0, none⟩)), (35, .tuple #[.agg #[.string t262, .int .i64 t263, .int .i64 t264], .bool t265]), (42, .agg #[.string t262, .int .i64 t263, .int .i64 t264]), (43, .bool t265)]) (fun s_ w' => (w'.cell? ⟨gb237, 0, none⟩ = some (.string a1_0) ∧ w'.cell? ⟨gb237, 1, none⟩ = some (.int .i64 a1_1) ∧ w'.cell? ⟨gb237, 2, none⟩ = some (.int .i64 a1_2) ∧ w'.cell? ⟨gb238, 0, none⟩ = some (.int .i64 a2_0) ∧ w'.cell? ⟨gb238, 1, none⟩ = some (.bool a2_1)) ∧ (Kd.R k44 44 w' w.heap.size (fun k_ => some k_ ≠ (.slice Ao44 t254.length co44 : Value).ownBlock) v242 t241) ∧ (Kd.R k44 44 w' w.heap.size (fun k_ => some k_ ≠ (v242 : Value).ownBlock) (.slice Ao44 t254.length co44) t254) ∧ (w'.heap[gb237]? = some (.cells #[.string a1_0, .int .i64 a1_1, .int .i64 a1_2] 24 (0, 0))) ∧ (w'.heap[gb238]? = some (.cells #[.int .i64 a2_0, .bool a2_1] 26 (0, 0))) ∧ (w'.heap[gb253]? = some (.cells #[.string t249, .int .i64 t250, .int .i64 t251] 29 (0, 0))) ∧ (w'.heap[s_]? = some (.cells #[.string (⟨#[]⟩ : ByteArray), .int .i64 0, .int .i64 0] 29 (0, 0))) ∧ (w.heap.size ≤ s_) ∧ (w.heap.size ≤ s_) ∧ (gb237 ≠ s_) ∧ (s_ ≠ gb237) ∧ (gb238 ≠ s_) ∧ (s_ ≠ gb238) ∧ (gb253 ≠ s_) ∧ (s_ ≠ gb253) ∧ (Below w.heap.size w w')) ?_ ?_
   rotate_left
   ·intro hCont
    refine two_ (i := 2) (j := 9) (Ni := some 38) (Nj := some 11) (bm 12 15) (bm 12 523) rfl rfl rfl rfl (two_of HT_.out (by kernel_rfl)) (by decide) (by decide) (fun K hK => ?_) (fun K hK => ?_)
    ·skip
     refine goes_ Try.func11 (by kernel_rfl) rfl #[.agg #[.string a1_0, .int .i64 a1_1, .int .i64 a1_2]] (by rfl) rfl rfl m1_ ?_
     with_reducible refine (laws_toRecState.calls a1_0 a1_1 a1_2 t257 t258 t259 _ A22.out).mono ?_
     rintro e w46 ⟨rfl, hb⟩
     refine ⟨_, rfl, ?_⟩
     have n0_ := Aside0.mk (Kd.R_below m13_ hb)
     have n1_ := Aside0.mk (Kd.R_below m31_ hb)
     have n2_ := Aside0.mk (blk_below (g := gb237) (o := .cells #[.string a1_0, .int .i64 a1_1, .int .i64 a1_2] 24 (0, 0)) m2_ hb)
     have n3_ := Aside0.mk (blk_below (g := gb238) (o := .cells #[.int .i64 a2_0, .bool a2_1] 26 (0, 0)) m3_ hb)
     have n4_ := Aside0.mk (blk_below (g := gb253) (o := .cells #[.string t249, .int .i64 t250, .int .i64 t251] 29 (0, 0)) m9_ hb)
     have n5_ := Aside0.mk (below_step m4_ hb)
     clear HO243
     clear HO256
     clear BK237
     clear BK238
     clear BK253
     clear HB
     have HO243 := n0_
     have HO256 := n1_
     have BK237 := n2_
     have BK238 := n3_
     have BK253 := n4_
     have HB := n5_
     clear n0_ n1_ n2_ n3_ n4_ n5_
     (try clear hb)
     (try clear hb2)
     (try clear hk)
     (try clear hi)
     refine hK.out _ _ ⟨(blk_cell BK237.out 0).trans rfl, (blk_cell BK237.out 1).trans rfl, (blk_cell BK237.out 2).trans rfl, (blk_cell BK238.out 0).trans rfl, (blk_cell BK238.out 1).trans rfl⟩ (fun hHeld => ?_)
     clear hK K
     refine no_ ?_
     refine two_ (i := 4) (j := 9) (Ni := some 40) (Nj := some 11) (bm 12 31) (bm 12 527) rfl rfl rfl rfl (two_of HT_.out (by kernel_rfl)) (by decide) (by decide) (fun K hK => ?_) (fun K hK => ?_)
     ·skip
      refine goes_ Try.func12 (by kernel_rfl) rfl #[.agg #[.int .i64 a2_0, .bool a2_1]] (by rfl) rfl rfl m1_ ?_
      with_reducible refine (laws_toRecSay.calls a2_0 a2_1 t260 t261 _ A23.out).mono ?_
      rintro e w47 ⟨rfl, hb⟩
      refine ⟨_, rfl, ?_⟩
      have n0_ := Aside0.mk (Kd.R_below m13_ hb)
      have n1_ := Aside0.mk (Kd.R_below m31_ hb)
      have n2_ := Aside0.mk (blk_below (g := gb237) (o := .cells #[.string a1_0, .int .i64 a1_1, .int .i64 a1_2] 24 (0, 0)) m2_ hb)
      have n3_ := Aside0.mk (blk_below (g := gb238) (o := .cells #[.int .i64 a2_0, .bool a2_1] 26 (0, 0)) m3_ hb)
      have n4_ := Aside0.mk (blk_below (g := gb253) (o := .cells #[.string t249, .int .i64 t250, .int .i64 t251] 29 (0, 0)) m9_ hb)
      have n5_ := Aside0.mk (below_step m4_ hb)
      clear HO243
      clear HO256
      clear BK237
      clear BK238
      clear BK253
      clear HB
      have HO243 := n0_
      have HO256 := n1_
      have BK237 := n2_
      have BK238 := n3_
      have BK253 := n4_
      have HB := n5_
      clear n0_ n1_ n2_ n3_ n4_ n5_
      (try clear hb)
      (try clear hb2)
      (try clear hk)
      (try clear hi)
      refine hK.out _ _ ⟨(blk_cell BK237.out 0).trans rfl, (blk_cell BK237.out 1).trans rfl, (blk_cell BK237.out 2).trans rfl, (blk_cell BK238.out 0).trans rfl, (blk_cell BK238.out 1).trans rfl⟩ (fun hHeld => ?_)
      clear hK K
      refine no_ ?_
      refine two_ (i := 5) (j := 9) (Ni := some 41) (Nj := some 11) (bm 12 63) (bm 12 543) rfl rfl rfl rfl (two_of HT_.out (by kernel_rfl)) (by decide) (by decide) (fun K hK => ?_) (fun K hK => ?_)
      ·skip
       refine goes_ Try.func13 (by kernel_rfl) rfl #[.slice Ao44 t254.length co44, .agg #[.string t257, .int .i64 t258, .int .i64 t259], .agg #[.int .i64 t260, .bool t261]] (by rfl) rfl rfl m1_ ?_
       with_reducible refine (impl_RecGo.calls k _ _ t254 t257 t258 t259 t260 t261 t262 t263 t264 t265 _ ?side1 ?side2 A24.out).mono ?_
       (case side1 => exact m46_)
       (case side2 => exact (Kd.R_reads' HO256.out).2.1)
       rintro e w48 ⟨rfl, hb⟩
       refine ⟨_, rfl, ?_⟩
       have n0_ := Aside0.mk (Kd.R_below m13_ hb)
       have n1_ := Aside0.mk (Kd.R_below m31_ hb)
       have n2_ := Aside0.mk (blk_below (g := gb237) (o := .cells #[.string a1_0, .int .i64 a1_1, .int .i64 a1_2] 24 (0, 0)) m2_ hb)
       have n3_ := Aside0.mk (blk_below (g := gb238) (o := .cells #[.int .i64 a2_0, .bool a2_1] 26 (0, 0)) m3_ hb)
       have n4_ := Aside0.mk (blk_below (g := gb253) (o := .cells #[.string t249, .int .i64 t250, .int .i64 t251] 29 (0, 0)) m9_ hb)
       have n5_ := Aside0.mk (below_step m4_ hb)
       clear HO243
       clear HO256
       clear BK237
       clear BK238
       clear BK253
       clear HB
       have HO243 := n0_
       have HO256 := n1_
       have BK237 := n2_
       have BK238 := n3_
       have BK253 := n4_
       have HB := n5_
       clear n0_ n1_ n2_ n3_ n4_ n5_
       (try clear hb)
       (try clear hb2)
       (try clear hk)
       (try clear hi)
       refine hK.out _ _ ⟨(blk_cell BK237.out 0).trans rfl, (blk_cell BK237.out 1).trans rfl, (blk_cell BK237.out 2).trans rfl, (blk_cell BK238.out 0).trans rfl, (blk_cell BK238.out 1).trans rfl⟩ (fun hHeld => ?_)
       clear hK K
       refine no_ ?_
       refine pure_ (i := 6) (N := some 35) (v := ?_) (a' := ?_) (bm 12 127) rfl rfl (any_of HT_.out (by kernel_rfl)) (fun _ _ _ h => h) (Or.inl ⟨(by rfl), ?_⟩) ?_ ?_; rotate_left; intro w'; go_simp; with_reducible rfl; rotate_left; simp only [Act.put, List.setIfInBounds_toArray, List.set_cons_zero, List.set_cons_succ, i64_w, i32_w]; rfl
       refine pure_ (i := 7) (N := some 42) (v := ?_) (a' := ?_) (bm 12 255) rfl rfl (any_of HT_.out (by kernel_rfl)) (fun _ _ _ h => h) (Or.inl ⟨(by rfl), ?_⟩) ?_ ?_; rotate_left; intro w'; go_simp; with_reducible rfl; rotate_left; simp only [Act.put, List.setIfInBounds_toArray, List.set_cons_zero, List.set_cons_succ, i64_w, i32_w]; rfl
       refine pure_ (i := 8) (N := some 43) (v := ?_) (a' := ?_) (bm 12 511) rfl rfl (any_of HT_.out (by kernel_rfl)) (fun _ _ _ h => h) (Or.inl ⟨(by rfl), ?_⟩) ?_ ?_; rotate_left; intro w'; go_simp; with_reducible rfl; rotate_left; simp only [Act.put, List.setIfInBounds_toArray, List.set_cons_zero, List.set_cons_succ, i64_w, i32_w]; rfl
       refine one_ (i := 9) (N := some 11) (bm 12 1023) rfl rfl (one_of HT_.out (by kernel_rfl)) (by decide) (fun K hK => ?_)
       refine box_step ?hg (N := 11) ?hd (cs := #[.string (⟨#[]⟩ : ByteArray), .int .i64 0, .int .i64 0]) (t := 29) ?hr ?_; (case hd => rfl); (case hg => rfl); (case hr => first | (go_simp; done) | (go_simp; rfl))
       intro gb266 hg w49 hbox hb
       have n0_ := Aside0.mk (Kd.R_below m13_ hb)
       have n1_ := Aside0.mk (Kd.R_below m31_ hb)
       have n2_ := Aside0.mk (blk_below (g := gb237) (o := .cells #[.string a1_0, .int .i64 a1_1, .int .i64 a1_2] 24 (0, 0)) m2_ hb)
       have n3_ := Aside0.mk (blk_below (g := gb238) (o := .cells #[.int .i64 a2_0, .bool a2_1] 26 (0, 0)) m3_ hb)
       have n4_ := Aside0.mk (blk_below (g := gb253) (o := .cells #[.string t249, .int .i64 t250, .int .i64 t251] 29 (0, 0)) m9_ hb)
       have n5_ := Aside0.mk (below_step m4_ hb)
       have n6_ := Aside0.mk (hbox)
       have n7_ := Aside0.mk ((by rw [hg]; exact (below_size m4_) : w.heap.size ≤ gb266))
       have n8_ := Aside0.mk ((by rw [hg]; exact (below_size m4_) : w.heap.size ≤ gb266))
       have n9_ := Aside0.mk ((by rw [hg]; exact Nat.ne_of_lt (blk_lt (g := gb237) (o := .cells #[.string a1_0, .int .i64 a1_1, .int .i64 a1_2] 24 (0, 0)) m2_) : gb237 ≠ gb266))
       have n10_ := Aside0.mk ((by rw [hg]; exact Nat.ne_of_gt (blk_lt (g := gb237) (o := .cells #[.string a1_0, .int .i64 a1_1, .int .i64 a1_2] 24 (0, 0)) m2_) : gb266 ≠ gb237))
       have n11_ := Aside0.mk ((by rw [hg]; exact Nat.ne_of_lt (blk_lt (g := gb238) (o := .cells #[.int .i64 a2_0, .bool a2_1] 26 (0, 0)) m3_) : gb238 ≠ gb266))
       have n12_ := Aside0.mk ((by rw [hg]; exact Nat.ne_of_gt (blk_lt (g := gb238) (o := .cells #[.int .i64 a2_0, .bool a2_1] 26 (0, 0)) m3_) : gb266 ≠ gb238))
       have n13_ := Aside0.mk ((by rw [hg]; exact Nat.ne_of_lt (blk_lt (g := gb253) (o := .cells #[.string t249, .int .i64 t250, .int .i64 t251] 29 (0, 0)) m9_) : gb253 ≠ gb266))
       have n14_ := Aside0.mk ((by rw [hg]; exact Nat.ne_of_gt (blk_lt (g := gb253) (o := .cells #[.string t249, .int .i64 t250, .int .i64 t251] 29 (0, 0)) m9_) : gb266 ≠ gb253))
       clear HO243
       clear HO256
       clear BK237
       clear BK238
       clear BK253
       clear HB
       have HO243 := n0_
       have HO256 := n1_
       have BK237 := n2_
       have BK238 := n3_
       have BK253 := n4_
       have HB := n5_
       have BK266 := n6_
       have GW266 := n7_
       have GE266 := n8_
       have NB237_266 := n9_
       have NB266_237 := n10_
       have NB238_266 := n11_
       have NB266_238 := n12_
       have NB253_266 := n13_
       have NB266_253 := n14_
       clear n0_ n1_ n2_ n3_ n4_ n5_ n6_ n7_ n8_ n9_ n10_ n11_ n12_ n13_ n14_
       clear hb hbox hg
       refine hK.out _ _ ⟨(blk_cell BK237.out 0).trans rfl, (blk_cell BK237.out 1).trans rfl, (blk_cell BK237.out 2).trans rfl, (blk_cell BK238.out 0).trans rfl, (blk_cell BK238.out 1).trans rfl⟩ (fun hHeld => ?_)
       clear hK K
       refine no_ ?_
       exact norm_ m74_ (hCont (gb266) _ ⟨hHeld, m53_, m54_, m2_, m3_, m9_, m26_, GW266.out, GE266.out, NB237_266.out, NB266_237.out, NB238_266.out, NB266_238.out, NB253_266.out, NB266_253.out, m10_⟩)
      ·skip
       refine box_step ?hg (N := 11) ?hd (cs := #[.string (⟨#[]⟩ : ByteArray), .int .i64 0, .int .i64 0]) (t := 29) ?hr ?_; (case hd => rfl); (case hg => rfl); (case hr => first | (go_simp; done) | (go_simp; rfl))
       intro gb266 hg w48 hbox hb
       have n0_ := Aside0.mk (Kd.R_below m13_ hb)
       have n1_ := Aside0.mk (Kd.R_below m31_ hb)
       have n2_ := Aside0.mk (blk_below (g := gb237) (o := .cells #[.string a1_0, .int .i64 a1_1, .int .i64 a1_2] 24 (0, 0)) m2_ hb)
       have n3_ := Aside0.mk (blk_below (g := gb238) (o := .cells #[.int .i64 a2_0, .bool a2_1] 26 (0, 0)) m3_ hb)
       have n4_ := Aside0.mk (blk_below (g := gb253) (o := .cells #[.string t249, .int .i64 t250, .int .i64 t251] 29 (0, 0)) m9_ hb)
       have n5_ := Aside0.mk (below_step m4_ hb)
       have n6_ := Aside0.mk (hbox)
       have n7_ := Aside0.mk ((by rw [hg]; exact (below_size m4_) : w.heap.size ≤ gb266))
       have n8_ := Aside0.mk ((by rw [hg]; exact (below_size m4_) : w.heap.size ≤ gb266))
       have n9_ := Aside0.mk ((by rw [hg]; exact Nat.ne_of_lt (blk_lt (g := gb237) (o := .cells #[.string a1_0, .int .i64 a1_1, .int .i64 a1_2] 24 (0, 0)) m2_) : gb237 ≠ gb266))
       have n10_ := Aside0.mk ((by rw [hg]; exact Nat.ne_of_gt (blk_lt (g := gb237) (o := .cells #[.string a1_0, .int .i64 a1_1, .int .i64 a1_2] 24 (0, 0)) m2_) : gb266 ≠ gb237))
       have n11_ := Aside0.mk ((by rw [hg]; exact Nat.ne_of_lt (blk_lt (g := gb238) (o := .cells #[.int .i64 a2_0, .bool a2_1] 26 (0, 0)) m3_) : gb238 ≠ gb266))
       have n12_ := Aside0.mk ((by rw [hg]; exact Nat.ne_of_gt (blk_lt (g := gb238) (o := .cells #[.int .i64 a2_0, .bool a2_1] 26 (0, 0)) m3_) : gb266 ≠ gb238))
       have n13_ := Aside0.mk ((by rw [hg]; exact Nat.ne_of_lt (blk_lt (g := gb253) (o := .cells #[.string t249, .int .i64 t250, .int .i64 t251] 29 (0, 0)) m9_) : gb253 ≠ gb266))
       have n14_ := Aside0.mk ((by rw [hg]; exact Nat.ne_of_gt (blk_lt (g := gb253) (o := .cells #[.string t249, .int .i64 t250, .int .i64 t251] 29 (0, 0)) m9_) : gb266 ≠ gb253))
       clear HO243
       clear HO256
       clear BK237
       clear BK238
       clear BK253
       clear HB
       have HO243 := n0_
       have HO256 := n1_
       have BK237 := n2_
       have BK238 := n3_
       have BK253 := n4_
       have HB := n5_
       have BK266 := n6_
       have GW266 := n7_
       have GE266 := n8_
       have NB237_266 := n9_
       have NB266_237 := n10_
       have NB238_266 := n11_
       have NB266_238 := n12_
       have NB253_266 := n13_
       have NB266_253 := n14_
       clear n0_ n1_ n2_ n3_ n4_ n5_ n6_ n7_ n8_ n9_ n10_ n11_ n12_ n13_ n14_
       clear hb hbox hg
       refine hK.out _ _ ⟨(blk_cell BK237.out 0).trans rfl, (blk_cell BK237.out 1).trans rfl, (blk_cell BK237.out 2).trans rfl, (blk_cell BK238.out 0).trans rfl, (blk_cell BK238.out 1).trans rfl⟩ (fun hHeld => ?_)
       clear hK K
       refine no_ ?_
       refine one_ (i := 5) (N := some 41) (bm 12 575) rfl rfl (one_of HT_.out (by kernel_rfl)) (by decide) (fun K hK => ?_)
       refine goes_ Try.func13 (by kernel_rfl) rfl #[.slice Ao44 t254.length co44, .agg #[.string t257, .int .i64 t258, .int .i64 t259], .agg #[.int .i64 t260, .bool t261]] (by rfl) rfl rfl m1_ ?_
       with_reducible refine (impl_RecGo.calls k _ _ t254 t257 t258 t259 t260 t261 t262 t263 t264 t265 _ ?side1 ?side2 A24.out).mono ?_
       (case side1 => exact m46_)
       (case side2 => exact (Kd.R_reads' HO256.out).2.1)
       rintro e w49 ⟨rfl, hb⟩
       refine ⟨_, rfl, ?_⟩
       have n0_ := Aside0.mk (Kd.R_below m13_ hb)
       have n1_ := Aside0.mk (Kd.R_below m31_ hb)
       have n2_ := Aside0.mk (blk_below (g := gb237) (o := .cells #[.string a1_0, .int .i64 a1_1, .int .i64 a1_2] 24 (0, 0)) m2_ hb)
       have n3_ := Aside0.mk (blk_below (g := gb238) (o := .cells #[.int .i64 a2_0, .bool a2_1] 26 (0, 0)) m3_ hb)
       have n4_ := Aside0.mk (blk_below (g := gb253) (o := .cells #[.string t249, .int .i64 t250, .int .i64 t251] 29 (0, 0)) m9_ hb)
       have n5_ := Aside0.mk (blk_below (g := gb266) (o := .cells #[.string (⟨#[]⟩ : ByteArray), .int .i64 0, .int .i64 0] 29 (0, 0)) m26_ hb)
       have n6_ := Aside0.mk (below_step m10_ hb)
       clear HO243
       clear HO256
       clear BK237
       clear BK238
       clear BK253
       clear BK266
       clear HB
       have HO243 := n0_
       have HO256 := n1_
       have BK237 := n2_
       have BK238 := n3_
       have BK253 := n4_
       have BK266 := n5_
       have HB := n6_
       clear n0_ n1_ n2_ n3_ n4_ n5_ n6_
       (try clear hb)
       (try clear hb2)
       (try clear hk)
       (try clear hi)
       refine hK.out _ _ ⟨(blk_cell BK237.out 0).trans rfl, (blk_cell BK237.out 1).trans rfl, (blk_cell BK237.out 2).trans rfl, (blk_cell BK238.out 0).trans rfl, (blk_cell BK238.out 1).trans rfl⟩ (fun hHeld => ?_)
       clear hK K
       refine no_ ?_
       refine pure_ (i := 6) (N := some 35) (v := ?_) (a' := ?_) (bm 12 639) rfl rfl (any_of HT_.out (by kernel_rfl)) (fun _ _ _ h => h) (Or.inl ⟨(by rfl), ?_⟩) ?_ ?_; rotate_left; intro w'; go_simp; with_reducible rfl; rotate_left; simp only [Act.put, List.setIfInBounds_toArray, List.set_cons_zero, List.set_cons_succ, i64_w, i32_w]; rfl
       refine pure_ (i := 7) (N := some 42) (v := ?_) (a' := ?_) (bm 12 767) rfl rfl (any_of HT_.out (by kernel_rfl)) (fun _ _ _ h => h) (Or.inl ⟨(by rfl), ?_⟩) ?_ ?_; rotate_left; intro w'; go_simp; with_reducible rfl; rotate_left; simp only [Act.put, List.setIfInBounds_toArray, List.set_cons_zero, List.set_cons_succ, i64_w, i32_w]; rfl
       refine pure_ (i := 8) (N := some 43) (v := ?_) (a' := ?_) (bm 12 1023) rfl rfl (any_of HT_.out (by kernel_rfl)) (fun _ _ _ h => h) (Or.inl ⟨(by rfl), ?_⟩) ?_ ?_; rotate_left; intro w'; go_simp; with_reducible rfl; rotate_left; simp only [Act.put, List.setIfInBounds_toArray, List.set_cons_zero, List.set_cons_succ, i64_w, i32_w]; rfl
       exact norm_ m74_ (hCont (gb266) _ ⟨hHeld, m53_, m54_, m2_, m3_, m9_, m26_, GW266.out, GE266.out, NB237_266.out, NB266_237.out, NB238_266.out, NB266_238.out, NB253_266.out, NB266_253.out, m10_⟩)
     ·skip
      refine box_step ?hg (N := 11) ?hd (cs := #[.string (⟨#[]⟩ : ByteArray), .int .i64 0, .int .i64 0]) (t := 29) ?hr ?_; (case hd => rfl); (case hg => rfl); (case hr => first | (go_simp; done) | (go_simp; rfl))
      intro gb266 hg w47 hbox hb
      have n0_ := Aside0.mk (Kd.R_below m13_ hb)
      have n1_ := Aside0.mk (Kd.R_below m31_ hb)
      have n2_ := Aside0.mk (blk_below (g := gb237) (o := .cells #[.string a1_0, .int .i64 a1_1, .int .i64 a1_2] 24 (0, 0)) m2_ hb)
      have n3_ := Aside0.mk (blk_below (g := gb238) (o := .cells #[.int .i64 a2_0, .bool a2_1] 26 (0, 0)) m3_ hb)
      have n4_ := Aside0.mk (blk_below (g := gb253) (o := .cells #[.string t249, .int .i64 t250, .int .i64 t251] 29 (0, 0)) m9_ hb)
      have n5_ := Aside0.mk (below_step m4_ hb)
      have n6_ := Aside0.mk (hbox)
      have n7_ := Aside0.mk ((by rw [hg]; exact (below_size m4_) : w.heap.size ≤ gb266))
      have n8_ := Aside0.mk ((by rw [hg]; exact (below_size m4_) : w.heap.size ≤ gb266))
      have n9_ := Aside0.mk ((by rw [hg]; exact Nat.ne_of_lt (blk_lt (g := gb237) (o := .cells #[.string a1_0, .int .i64 a1_1, .int .i64 a1_2] 24 (0, 0)) m2_) : gb237 ≠ gb266))
      have n10_ := Aside0.mk ((by rw [hg]; exact Nat.ne_of_gt (blk_lt (g := gb237) (o := .cells #[.string a1_0, .int .i64 a1_1, .int .i64 a1_2] 24 (0, 0)) m2_) : gb266 ≠ gb237))
      have n11_ := Aside0.mk ((by rw [hg]; exact Nat.ne_of_lt (blk_lt (g := gb238) (o := .cells #[.int .i64 a2_0, .bool a2_1] 26 (0, 0)) m3_) : gb238 ≠ gb266))
      have n12_ := Aside0.mk ((by rw [hg]; exact Nat.ne_of_gt (blk_lt (g := gb238) (o := .cells #[.int .i64 a2_0, .bool a2_1] 26 (0, 0)) m3_) : gb266 ≠ gb238))
      have n13_ := Aside0.mk ((by rw [hg]; exact Nat.ne_of_lt (blk_lt (g := gb253) (o := .cells #[.string t249, .int .i64 t250, .int .i64 t251] 29 (0, 0)) m9_) : gb253 ≠ gb266))
      have n14_ := Aside0.mk ((by rw [hg]; exact Nat.ne_of_gt (blk_lt (g := gb253) (o := .cells #[.string t249, .int .i64 t250, .int .i64 t251] 29 (0, 0)) m9_) : gb266 ≠ gb253))
      clear HO243
      clear HO256
      clear BK237
      clear BK238
      clear BK253
      clear HB
      have HO243 := n0_
      have HO256 := n1_
      have BK237 := n2_
      have BK238 := n3_
      have BK253 := n4_
      have HB := n5_
      have BK266 := n6_
      have GW266 := n7_
      have GE266 := n8_
      have NB237_266 := n9_
      have NB266_237 := n10_
      have NB238_266 := n11_
      have NB266_238 := n12_
      have NB253_266 := n13_
      have NB266_253 := n14_
      clear n0_ n1_ n2_ n3_ n4_ n5_ n6_ n7_ n8_ n9_ n10_ n11_ n12_ n13_ n14_
      clear hb hbox hg
      refine hK.out _ _ ⟨(blk_cell BK237.out 0).trans rfl, (blk_cell BK237.out 1).trans rfl, (blk_cell BK237.out 2).trans rfl, (blk_cell BK238.out 0).trans rfl, (blk_cell BK238.out 1).trans rfl⟩ (fun hHeld => ?_)
      clear hK K
      refine no_ ?_
      refine one_ (i := 4) (N := some 40) (bm 12 543) rfl rfl (one_of HT_.out (by kernel_rfl)) (by decide) (fun K hK => ?_)
      refine goes_ Try.func12 (by kernel_rfl) rfl #[.agg #[.int .i64 a2_0, .bool a2_1]] (by rfl) rfl rfl m1_ ?_
      with_reducible refine (laws_toRecSay.calls a2_0 a2_1 t260 t261 _ A23.out).mono ?_
      rintro e w48 ⟨rfl, hb⟩
      refine ⟨_, rfl, ?_⟩
      have n0_ := Aside0.mk (Kd.R_below m13_ hb)
      have n1_ := Aside0.mk (Kd.R_below m31_ hb)
      have n2_ := Aside0.mk (blk_below (g := gb237) (o := .cells #[.string a1_0, .int .i64 a1_1, .int .i64 a1_2] 24 (0, 0)) m2_ hb)
      have n3_ := Aside0.mk (blk_below (g := gb238) (o := .cells #[.int .i64 a2_0, .bool a2_1] 26 (0, 0)) m3_ hb)
      have n4_ := Aside0.mk (blk_below (g := gb253) (o := .cells #[.string t249, .int .i64 t250, .int .i64 t251] 29 (0, 0)) m9_ hb)
      have n5_ := Aside0.mk (blk_below (g := gb266) (o := .cells #[.string (⟨#[]⟩ : ByteArray), .int .i64 0, .int .i64 0] 29 (0, 0)) m26_ hb)
      have n6_ := Aside0.mk (below_step m10_ hb)
      clear HO243
      clear HO256
      clear BK237
      clear BK238
      clear BK253
      clear BK266
      clear HB
      have HO243 := n0_
      have HO256 := n1_
      have BK237 := n2_
      have BK238 := n3_
      have BK253 := n4_
      have BK266 := n5_
      have HB := n6_
      clear n0_ n1_ n2_ n3_ n4_ n5_ n6_
      (try clear hb)
      (try clear hb2)
      (try clear hk)
      (try clear hi)
      refine hK.out _ _ ⟨(blk_cell BK237.out 0).trans rfl, (blk_cell BK237.out 1).trans rfl, (blk_cell BK237.out 2).trans rfl, (blk_cell BK238.out 0).trans rfl, (blk_cell BK238.out 1).trans rfl⟩ (fun hHeld => ?_)
      clear hK K
      refine no_ ?_
      refine one_ (i := 5) (N := some 41) (bm 12 575) rfl rfl (one_of HT_.out (by kernel_rfl)) (by decide) (fun K hK => ?_)
      refine goes_ Try.func13 (by kernel_rfl) rfl #[.slice Ao44 t254.length co44, .agg #[.string t257, .int .i64 t258, .int .i64 t259], .agg #[.int .i64 t260, .bool t261]] (by rfl) rfl rfl m1_ ?_
      with_reducible refine (impl_RecGo.calls k _ _ t254 t257 t258 t259 t260 t261 t262 t263 t264 t265 _ ?side1 ?side2 A24.out).mono ?_
      (case side1 => exact m46_)
      (case side2 => exact (Kd.R_reads' HO256.out).2.1)
      rintro e w49 ⟨rfl, hb⟩
      refine ⟨_, rfl, ?_⟩
      have n0_ := Aside0.mk (Kd.R_below m13_ hb)
      have n1_ := Aside0.mk (Kd.R_below m31_ hb)
      have n2_ := Aside0.mk (blk_below (g := gb237) (o := .cells #[.string a1_0, .int .i64 a1_1, .int .i64 a1_2] 24 (0, 0)) m2_ hb)
      have n3_ := Aside0.mk (blk_below (g := gb238) (o := .cells #[.int .i64 a2_0, .bool a2_1] 26 (0, 0)) m3_ hb)
      have n4_ := Aside0.mk (blk_below (g := gb253) (o := .cells #[.string t249, .int .i64 t250, .int .i64 t251] 29 (0, 0)) m9_ hb)
      have n5_ := Aside0.mk (blk_below (g := gb266) (o := .cells #[.string (⟨#[]⟩ : ByteArray), .int .i64 0, .int .i64 0] 29 (0, 0)) m26_ hb)
      have n6_ := Aside0.mk (below_step m10_ hb)
      clear HO243
      clear HO256
      clear BK237
      clear BK238
      clear BK253
      clear BK266
      clear HB
      have HO243 := n0_
      have HO256 := n1_
      have BK237 := n2_
      have BK238 := n3_
      have BK253 := n4_
      have BK266 := n5_
      have HB := n6_
      clear n0_ n1_ n2_ n3_ n4_ n5_ n6_
      (try clear hb)
      (try clear hb2)
      (try clear hk)
      (try clear hi)
      refine hK.out _ _ ⟨(blk_cell BK237.out 0).trans rfl, (blk_cell BK237.out 1).trans rfl, (blk_cell BK237.out 2).trans rfl, (blk_cell BK238.out 0).trans rfl, (blk_cell BK238.out 1).trans rfl⟩ (fun hHeld => ?_)
      clear hK K
      refine no_ ?_
      refine pure_ (i := 6) (N := some 35) (v := ?_) (a' := ?_) (bm 12 639) rfl rfl (any_of HT_.out (by kernel_rfl)) (fun _ _ _ h => h) (Or.inl ⟨(by rfl), ?_⟩) ?_ ?_; rotate_left; intro w'; go_simp; with_reducible rfl; rotate_left; simp only [Act.put, List.setIfInBounds_toArray, List.set_cons_zero, List.set_cons_succ, i64_w, i32_w]; rfl
      refine pure_ (i := 7) (N := some 42) (v := ?_) (a' := ?_) (bm 12 767) rfl rfl (any_of HT_.out (by kernel_rfl)) (fun _ _ _ h => h) (Or.inl ⟨(by rfl), ?_⟩) ?_ ?_; rotate_left; intro w'; go_simp; with_reducible rfl; rotate_left; simp only [Act.put, List.setIfInBounds_toArray, List.set_cons_zero, List.set_cons_succ, i64_w, i32_w]; rfl
      refine pure_ (i := 8) (N := some 43) (v := ?_) (a' := ?_) (bm 12 1023) rfl rfl (any_of HT_.out (by kernel_rfl)) (fun _ _ _ h => h) (Or.inl ⟨(by rfl), ?_⟩) ?_ ?_; rotate_left; intro w'; go_simp; with_reducible rfl; rotate_left; simp only [Act.put, List.setIfInBounds_toArray, List.set_cons_zero, List.set_cons_succ, i64_w, i32_w]; rfl
      exact norm_ m74_ (hCont (gb266) _ ⟨hHeld, m53_, m54_, m2_, m3_, m9_, m26_, GW266.out, GE266.out, NB237_266.out, NB266_237.out, NB238_266.out, NB266_238.out, NB253_266.out, NB266_253.out, m10_⟩)
    ·skip
     refine box_step ?hg (N := 11) ?hd (cs := #[.string (⟨#[]⟩ : ByteArray), .int .i64 0, .int .i64 0]) (t := 29) ?hr ?_; (case hd => rfl); (case hg => rfl); (case hr => first | (go_simp; done) | (go_simp; rfl))
     intro gb266 hg w46 hbox hb
     have n0_ := Aside0.mk (Kd.R_below m13_ hb)
     have n1_ := Aside0.mk (Kd.R_below m31_ hb)
     have n2_ := Aside0.mk (blk_below (g := gb237) (o := .cells #[.string a1_0, .int .i64 a1_1, .int .i64 a1_2] 24 (0, 0)) m2_ hb)
     have n3_ := Aside0.mk (blk_below (g := gb238) (o := .cells #[.int .i64 a2_0, .bool a2_1] 26 (0, 0)) m3_ hb)
     have n4_ := Aside0.mk (blk_below (g := gb253) (o := .cells #[.string t249, .int .i64 t250, .int .i64 t251] 29 (0, 0)) m9_ hb)
     have n5_ := Aside0.mk (below_step m4_ hb)
     have n6_ := Aside0.mk (hbox)
     have n7_ := Aside0.mk ((by rw [hg]; exact (below_size m4_) : w.heap.size ≤ gb266))
     have n8_ := Aside0.mk ((by rw [hg]; exact (below_size m4_) : w.heap.size ≤ gb266))
     have n9_ := Aside0.mk ((by rw [hg]; exact Nat.ne_of_lt (blk_lt (g := gb237) (o := .cells #[.string a1_0, .int .i64 a1_1, .int .i64 a1_2] 24 (0, 0)) m2_) : gb237 ≠ gb266))
     have n10_ := Aside0.mk ((by rw [hg]; exact Nat.ne_of_gt (blk_lt (g := gb237) (o := .cells #[.string a1_0, .int .i64 a1_1, .int .i64 a1_2] 24 (0, 0)) m2_) : gb266 ≠ gb237))
     have n11_ := Aside0.mk ((by rw [hg]; exact Nat.ne_of_lt (blk_lt (g := gb238) (o := .cells #[.int .i64 a2_0, .bool a2_1] 26 (0, 0)) m3_) : gb238 ≠ gb266))
     have n12_ := Aside0.mk ((by rw [hg]; exact Nat.ne_of_gt (blk_lt (g := gb238) (o := .cells #[.int .i64 a2_0, .bool a2_1] 26 (0, 0)) m3_) : gb266 ≠ gb238))
     have n13_ := Aside0.mk ((by rw [hg]; exact Nat.ne_of_lt (blk_lt (g := gb253) (o := .cells #[.string t249, .int .i64 t250, .int .i64 t251] 29 (0, 0)) m9_) : gb253 ≠ gb266))
     have n14_ := Aside0.mk ((by rw [hg]; exact Nat.ne_of_gt (blk_lt (g := gb253) (o := .cells #[.string t249, .int .i64 t250, .int .i64 t251] 29 (0, 0)) m9_) : gb266 ≠ gb253))
     clear HO243
     clear HO256
     clear BK237
     clear BK238
     clear BK253
     clear HB
     have HO243 := n0_
     have HO256 := n1_
     have BK237 := n2_
     have BK238 := n3_
     have BK253 := n4_
     have HB := n5_
     have BK266 := n6_
     have GW266 := n7_
     have GE266 := n8_
     have NB237_266 := n9_
     have NB266_237 := n10_
     have NB238_266 := n11_
     have NB266_238 := n12_
     have NB253_266 := n13_
     have NB266_253 := n14_
     clear n0_ n1_ n2_ n3_ n4_ n5_ n6_ n7_ n8_ n9_ n10_ n11_ n12_ n13_ n14_
     clear hb hbox hg
     refine hK.out _ _ ⟨(blk_cell BK237.out 0).trans rfl, (blk_cell BK237.out 1).trans rfl, (blk_cell BK237.out 2).trans rfl, (blk_cell BK238.out 0).trans rfl, (blk_cell BK238.out 1).trans rfl⟩ (fun hHeld => ?_)
     clear hK K
     refine no_ ?_
     refine one_ (i := 2) (N := some 38) (bm 12 527) rfl rfl (one_of HT_.out (by kernel_rfl)) (by decide) (fun K hK => ?_)
     refine goes_ Try.func11 (by kernel_rfl) rfl #[.agg #[.string a1_0, .int .i64 a1_1, .int .i64 a1_2]] (by rfl) rfl rfl m1_ ?_
     with_reducible refine (laws_toRecState.calls a1_0 a1_1 a1_2 t257 t258 t259 _ A22.out).mono ?_
     rintro e w47 ⟨rfl, hb⟩
     refine ⟨_, rfl, ?_⟩
     have n0_ := Aside0.mk (Kd.R_below m13_ hb)
     have n1_ := Aside0.mk (Kd.R_below m31_ hb)
     have n2_ := Aside0.mk (blk_below (g := gb237) (o := .cells #[.string a1_0, .int .i64 a1_1, .int .i64 a1_2] 24 (0, 0)) m2_ hb)
     have n3_ := Aside0.mk (blk_below (g := gb238) (o := .cells #[.int .i64 a2_0, .bool a2_1] 26 (0, 0)) m3_ hb)
     have n4_ := Aside0.mk (blk_below (g := gb253) (o := .cells #[.string t249, .int .i64 t250, .int .i64 t251] 29 (0, 0)) m9_ hb)
     have n5_ := Aside0.mk (blk_below (g := gb266) (o := .cells #[.string (⟨#[]⟩ : ByteArray), .int .i64 0, .int .i64 0] 29 (0, 0)) m26_ hb)
     have n6_ := Aside0.mk (below_step m10_ hb)
     clear HO243
     clear HO256
     clear BK237
     clear BK238
     clear BK253
     clear BK266
     clear HB
     have HO243 := n0_
     have HO256 := n1_
     have BK237 := n2_
     have BK238 := n3_
     have BK253 := n4_
     have BK266 := n5_
     have HB := n6_
     clear n0_ n1_ n2_ n3_ n4_ n5_ n6_
     (try clear hb)
     (try clear hb2)
     (try clear hk)
     (try clear hi)
     refine hK.out _ _ ⟨(blk_cell BK237.out 0).trans rfl, (blk_cell BK237.out 1).trans rfl, (blk_cell BK237.out 2).trans rfl, (blk_cell BK238.out 0).trans rfl, (blk_cell BK238.out 1).trans rfl⟩ (fun hHeld => ?_)
     clear hK K
     refine no_ ?_
     refine one_ (i := 4) (N := some 40) (bm 12 543) rfl rfl (one_of HT_.out (by kernel_rfl)) (by decide) (fun K hK => ?_)
     refine goes_ Try.func12 (by kernel_rfl) rfl #[.agg #[.int .i64 a2_0, .bool a2_1]] (by rfl) rfl rfl m1_ ?_
     with_reducible refine (laws_toRecSay.calls a2_0 a2_1 t260 t261 _ A23.out).mono ?_
     rintro e w48 ⟨rfl, hb⟩
     refine ⟨_, rfl, ?_⟩
     have n0_ := Aside0.mk (Kd.R_below m13_ hb)
     have n1_ := Aside0.mk (Kd.R_below m31_ hb)
     have n2_ := Aside0.mk (blk_below (g := gb237) (o := .cells #[.string a1_0, .int .i64 a1_1, .int .i64 a1_2] 24 (0, 0)) m2_ hb)
     have n3_ := Aside0.mk (blk_below (g := gb238) (o := .cells #[.int .i64 a2_0, .bool a2_1] 26 (0, 0)) m3_ hb)
     have n4_ := Aside0.mk (blk_below (g := gb253) (o := .cells #[.string t249, .int .i64 t250, .int .i64 t251] 29 (0, 0)) m9_ hb)
     have n5_ := Aside0.mk (blk_below (g := gb266) (o := .cells #[.string (⟨#[]⟩ : ByteArray), .int .i64 0, .int .i64 0] 29 (0, 0)) m26_ hb)
     have n6_ := Aside0.mk (below_step m10_ hb)
     clear HO243
     clear HO256
     clear BK237
     clear BK238
     clear BK253
     clear BK266
     clear HB
     have HO243 := n0_
     have HO256 := n1_
     have BK237 := n2_
     have BK238 := n3_
     have BK253 := n4_
     have BK266 := n5_
     have HB := n6_
     clear n0_ n1_ n2_ n3_ n4_ n5_ n6_
     (try clear hb)
     (try clear hb2)
     (try clear hk)
     (try clear hi)
     refine hK.out _ _ ⟨(blk_cell BK237.out 0).trans rfl, (blk_cell BK237.out 1).trans rfl, (blk_cell BK237.out 2).trans rfl, (blk_cell BK238.out 0).trans rfl, (blk_cell BK238.out 1).trans rfl⟩ (fun hHeld => ?_)
     clear hK K
     refine no_ ?_
     refine one_ (i := 5) (N := some 41) (bm 12 575) rfl rfl (one_of HT_.out (by kernel_rfl)) (by decide) (fun K hK => ?_)
     refine goes_ Try.func13 (by kernel_rfl) rfl #[.slice Ao44 t254.length co44, .agg #[.string t257, .int .i64 t258, .int .i64 t259], .agg #[.int .i64 t260, .bool t261]] (by rfl) rfl rfl m1_ ?_
     with_reducible refine (impl_RecGo.calls k _ _ t254 t257 t258 t259 t260 t261 t262 t263 t264 t265 _ ?side1 ?side2 A24.out).mono ?_
     (case side1 => exact m46_)
     (case side2 => exact (Kd.R_reads' HO256.out).2.1)
     rintro e w49 ⟨rfl, hb⟩
     refine ⟨_, rfl, ?_⟩
     have n0_ := Aside0.mk (Kd.R_below m13_ hb)
     have n1_ := Aside0.mk (Kd.R_below m31_ hb)
     have n2_ := Aside0.mk (blk_below (g := gb237) (o := .cells #[.string a1_0, .int .i64 a1_1, .int .i64 a1_2] 24 (0, 0)) m2_ hb)
     have n3_ := Aside0.mk (blk_below (g := gb238) (o := .cells #[.int .i64 a2_0, .bool a2_1] 26 (0, 0)) m3_ hb)
     have n4_ := Aside0.mk (blk_below (g := gb253) (o := .cells #[.string t249, .int .i64 t250, .int .i64 t251] 29 (0, 0)) m9_ hb)
     have n5_ := Aside0.mk (blk_below (g := gb266) (o := .cells #[.string (⟨#[]⟩ : ByteArray), .int .i64 0, .int .i64 0] 29 (0, 0)) m26_ hb)
     have n6_ := Aside0.mk (below_step m10_ hb)
     clear HO243
     clear HO256
     clear BK237
     clear BK238
     clear BK253
     clear BK266
     clear HB
     have HO243 := n0_
     have HO256 := n1_
     have BK237 := n2_
     have BK238 := n3_
     have BK253 := n4_
     have BK266 := n5_
     have HB := n6_
     clear n0_ n1_ n2_ n3_ n4_ n5_ n6_
     (try clear hb)
     (try clear hb2)
     (try clear hk)
     (try clear hi)
     refine hK.out _ _ ⟨(blk_cell BK237.out 0).trans rfl, (blk_cell BK237.out 1).trans rfl, (blk_cell BK237.out 2).trans rfl, (blk_cell BK238.out 0).trans rfl, (blk_cell BK238.out 1).trans rfl⟩ (fun hHeld => ?_)
     clear hK K
     refine no_ ?_
     refine pure_ (i := 6) (N := some 35) (v := ?_) (a' := ?_) (bm 12 639) rfl rfl (any_of HT_.out (by kernel_rfl)) (fun _ _ _ h => h) (Or.inl ⟨(by rfl), ?_⟩) ?_ ?_; rotate_left; intro w'; go_simp; with_reducible rfl; rotate_left; simp only [Act.put, List.setIfInBounds_toArray, List.set_cons_zero, List.set_cons_succ, i64_w, i32_w]; rfl
     refine pure_ (i := 7) (N := some 42) (v := ?_) (a' := ?_) (bm 12 767) rfl rfl (any_of HT_.out (by kernel_rfl)) (fun _ _ _ h => h) (Or.inl ⟨(by rfl), ?_⟩) ?_ ?_; rotate_left; intro w'; go_simp; with_reducible rfl; rotate_left; simp only [Act.put, List.setIfInBounds_toArray, List.set_cons_zero, List.set_cons_succ, i64_w, i32_w]; rfl
     refine pure_ (i := 8) (N := some 43) (v := ?_) (a' := ?_) (bm 12 1023) rfl rfl (any_of HT_.out (by kernel_rfl)) (fun _ _ _ h => h) (Or.inl ⟨(by rfl), ?_⟩) ?_ ?_; rotate_left; intro w'; go_simp; with_reducible rfl; rotate_left; simp only [Act.put, List.setIfInBounds_toArray, List.set_cons_zero, List.set_cons_succ, i64_w, i32_w]; rfl
     exact norm_ m74_ (hCont (gb266) _ ⟨hHeld, m53_, m54_, m2_, m3_, m9_, m26_, GW266.out, GE266.out, NB237_266.out, NB266_237.out, NB238_266.out, NB266_238.out, NB253_266.out, NB266_253.out, m10_⟩)
   rintro gb266 w50 ⟨hS_, h0_, h1_, h2_, h3_, h4_, h5_, h6_, h7_, h8_, h9_, h10_, h11_, h12_, h13_, h14_⟩
   have n0_ : Aside0 (Kd.R k44 44 w50 w.heap.size (fun k_ => some k_ ≠ (.slice Ao44 t254.length co44 : Value).ownBlock) v242 t241) := ⟨h0_⟩
   have n1_ : Aside0 (Kd.R k44 44 w50 w.heap.size (fun k_ => some k_ ≠ (v242 : Value).ownBlock) (.slice Ao44 t254.length co44) t254) := ⟨h1_⟩
   have n2_ : Aside0 (w50.heap[gb237]? = some (.cells #[.string a1_0, .int .i64 a1_1, .int .i64 a1_2] 24 (0, 0))) := ⟨h2_⟩
   have n3_ : Aside0 (w50.heap[gb238]? = some (.cells #[.int .i64 a2_0, .bool a2_1] 26 (0, 0))) := ⟨h3_⟩
   have n4_ : Aside0 (w50.heap[gb253]? = some (.cells #[.string t249, .int .i64 t250, .int .i64 t251] 29 (0, 0))) := ⟨h4_⟩
   have n5_ : Aside0 (w50.heap[gb266]? = some (.cells #[.string (⟨#[]⟩ : ByteArray), .int .i64 0, .int .i64 0] 29 (0, 0))) := ⟨h5_⟩
   have n6_ : Aside0 (w.heap.size ≤ gb266) := ⟨h6_⟩
   have n7_ : Aside0 (w.heap.size ≤ gb266) := ⟨h7_⟩
   have n8_ : Aside0 (gb237 ≠ gb266) := ⟨h8_⟩
   have n9_ : Aside0 (gb266 ≠ gb237) := ⟨h9_⟩
   have n10_ : Aside0 (gb238 ≠ gb266) := ⟨h10_⟩
   have n11_ : Aside0 (gb266 ≠ gb238) := ⟨h11_⟩
   have n12_ : Aside0 (gb253 ≠ gb266) := ⟨h12_⟩
   have n13_ : Aside0 (gb266 ≠ gb253) := ⟨h13_⟩
   have n14_ : Aside0 (Below w.heap.size w w50) := ⟨h14_⟩
   clear HO243
   clear HO256
   clear BK237
   clear BK238
   clear BK253
   clear HB
   clear h0_ h1_ h2_ h3_ h4_ h5_ h6_ h7_ h8_ h9_ h10_ h11_ h12_ h13_ h14_
   have HO243 := n0_
   have HO256 := n1_
   have BK237 := n2_
   have BK238 := n3_
   have BK253 := n4_
   have BK266 := n5_
   have GW266 := n6_
   have GE266 := n7_
   have NB237_266 := n8_
   have NB266_237 := n9_
   have NB238_266 := n10_
   have NB266_238 := n11_
   have NB253_266 := n12_
   have NB266_253 := n13_
   have HB := n14_
   clear n0_ n1_ n2_ n3_ n4_ n5_ n6_ n7_ n8_ n9_ n10_ n11_ n12_ n13_ n14_
   have hHeld : w50.cell? ⟨gb237, 0, none⟩ = some (.string a1_0) ∧ w50.cell? ⟨gb237, 1, none⟩ = some (.int .i64 a1_1) ∧ w50.cell? ⟨gb237, 2, none⟩ = some (.int .i64 a1_2) ∧ w50.cell? ⟨gb238, 0, none⟩ = some (.int .i64 a2_0) ∧ w50.cell? ⟨gb238, 1, none⟩ = some (.bool a2_1) := hS_
   refine norm_ (a' := ?_) ?_ ?_
   rotate_left
   ·simp only [putAll, Act.put, List.setIfInBounds_toArray, List.set_cons_zero, List.set_cons_succ]
    rfl
   refine one_ (i := 10) (N := none) (bm 12 2047) rfl rfl (one_of HT_.out (by kernel_rfl)) (by decide) (fun K hK => ?_)
   have hs51 : w50.cell? ⟨gb266, 0, none⟩ = some (.string (⟨#[]⟩ : ByteArray)) := (blk_cell BK266.out 0).trans rfl
   have hfs51 := blk_frozen BK266.out 0
   have hns51_0 := NB237_266.out
   have hns51_1 := NB238_266.out
   have hns51_2 := NB253_266.out
   have hms51_0 := NB266_237.out
   have hms51_1 := NB266_238.out
   have hms51_2 := NB266_253.out
   have hs52 : w50.cell? ⟨gb266, 1, none⟩ = some (.int .i64 0) := (blk_cell BK266.out 1).trans rfl
   have hfs52 := blk_frozen BK266.out 1
   have hns52_0 := NB237_266.out
   have hns52_1 := NB238_266.out
   have hns52_2 := NB253_266.out
   have hms52_0 := NB266_237.out
   have hms52_1 := NB266_238.out
   have hms52_2 := NB266_253.out
   have hs53 : w50.cell? ⟨gb266, 2, none⟩ = some (.int .i64 0) := (blk_cell BK266.out 2).trans rfl
   have hfs53 := blk_frozen BK266.out 2
   have hns53_0 := NB237_266.out
   have hns53_1 := NB238_266.out
   have hns53_2 := NB253_266.out
   have hms53_0 := NB266_237.out
   have hms53_1 := NB266_238.out
   have hms53_2 := NB266_253.out
   refine skip_ (w1 := ?_) (by rfl) rfl ?_ ?_
   rotate_left
   ·go_simp
    rfl
   refine hK.out _ _ ⟨((cell_far (p := ⟨gb266, _, none⟩) NB237_266.out _).trans (((cell_far (p := ⟨gb266, _, none⟩) NB237_266.out _).trans (((cell_far (p := ⟨gb266, _, none⟩) NB237_266.out _).trans (hHeld.1)))))), ((cell_far (p := ⟨gb266, _, none⟩) NB237_266.out _).trans (((cell_far (p := ⟨gb266, _, none⟩) NB237_266.out _).trans (((cell_far (p := ⟨gb266, _, none⟩) NB237_266.out _).trans (hHeld.2.1)))))), ((cell_far (p := ⟨gb266, _, none⟩) NB237_266.out _).trans (((cell_far (p := ⟨gb266, _, none⟩) NB237_266.out _).trans (((cell_far (p := ⟨gb266, _, none⟩) NB237_266.out _).trans (hHeld.2.2.1)))))), ((cell_far (p := ⟨gb266, _, none⟩) NB238_266.out _).trans (((cell_far (p := ⟨gb266, _, none⟩) NB238_266.out _).trans (((cell_far (p := ⟨gb266, _, none⟩) NB238_266.out _).trans (hHeld.2.2.2.1)))))), ((cell_far (p := ⟨gb266, _, none⟩) NB238_266.out _).trans (((cell_far (p := ⟨gb266, _, none⟩) NB238_266.out _).trans (((cell_far (p := ⟨gb266, _, none⟩) NB238_266.out _).trans (hHeld.2.2.2.2))))))⟩ (fun hHeld => ?_)
   clear hK K
   refine pure_ (i := 11) (N := some 12) (v := ?_) (a' := ?_) (bm 12 4095) rfl rfl (any_of HT_.out (by kernel_rfl)) (fun _ _ _ h => h) (Or.inl ⟨(by rfl), ?_⟩) ?_ ?_; rotate_left; intro w'; go_simp; with_reducible rfl; rotate_left; simp only [Act.put, List.setIfInBounds_toArray, List.set_cons_zero, List.set_cons_succ, i64_w, i32_w]; rfl
   refine done_ (done_of HT_.out (by kernel_rfl)) ?_
   go_upto_region 11 with (fail)
   go_cut [52] (fun v52 wc => ∃ (kq : Nat) (x52_24 : Bool), v52 = .bool x52_24 ∧ Aside0 (laws_FnExactRecGo.j0 kq l0 t254 x52_24 = some r) ∧ Aside0 (kq ≤ k) ∧ Aside0 (Kd.R k44 44 wc w.heap.size (fun _ => True) (.slice Ao44 t254.length co44) t254) ∧ Aside0 (wc.heap[gb237]? = some (.cells #[.string a1_0, .int .i64 a1_1, .int .i64 a1_2] 24 (0, 0))) ∧ Aside0 (wc.heap[gb238]? = some (.cells #[.int .i64 a2_0, .bool a2_1] 26 (0, 0))) ∧ Aside0 (wc.heap[gb253]? = some (.cells #[.string t249, .int .i64 t250, .int .i64 t251] 29 (0, 0))) ∧ Aside0 (wc.heap[gb266]? = some (.cells #[.string t262, .int .i64 t263, .int .i64 t264] 29 (0, 0))) ∧ Aside0 (Below w.heap.size w wc))
   case first =>
    have H := HC25.out
    clear HC25
    replace H := Option.bind_eq_some_iff.mp H
    obtain ⟨t267, A540, H⟩ := H
    replace H : (if t267 = true then (laws_FnExactRecGo.j0 k l0 t254 (t265 != t252)) else (laws_FnExactRecGo.j0 k l0 t254 true)) = some r := H
    have A54 := Aside0.mk A540
    clear A540
    by_cases c55 : t267 = true
    ·subst c55
     have H1 : (laws_FnExactRecGo.j0 k l0 t254 (t265 != t252)) = some r := by rw [if_pos rfl] at H; exact H
     clear H
     have H := H1
     clear H1
     have H' := Aside0.mk H
     clear H
     have hnb56 := NB266_237.out
     have hnc56 := NB237_266.out
     have hnb57 := NB266_238.out
     have hnc57 := NB238_266.out
     have hnb58 := NB266_253.out
     have hnc58 := NB253_266.out
     obtain ⟨hcz59_0, hcz59_1, hcz59_2⟩ := cz3_ BK266.out
     obtain ⟨hfz59_0, hfz59_1, hfz59_2⟩ := fz3_ BK266.out
     have hnb60 := NB253_237.out
     have hnc60 := NB237_253.out
     have hnb61 := NB253_238.out
     have hnc61 := NB238_253.out
     obtain ⟨hcz62_0, hcz62_1, hcz62_2⟩ := cz3_ BK253.out
     obtain ⟨hfz62_0, hfz62_1, hfz62_2⟩ := fz3_ BK253.out
     go_wp2_with (first | ((with_reducible refine gate_callee (f := 14) rfl ?_); refine goesL_ (some 46) rfl rfl Try.func14 (by kernel_rfl) rfl #[.agg #[.string t262, .int .i64 t263, .int .i64 t264], .agg #[.string t249, .int .i64 t250, .int .i64 t251]] rfl m1_ ?_; (with_reducible refine (laws_eqRecState.calls t262 t263 t264 t249 t250 t251 true _ A54.out).mono ?_); rintro e w63 ⟨rfl, hb⟩; refine ⟨_, rfl, ?_⟩; have n0_ := Aside0.mk (Kd.R_below m62_ hb); have n1_ := Aside0.mk (Kd.R_below m63_ hb); have n2_ := Aside0.mk (blk_below (g := gb237) (o := .cells #[.string a1_0, .int .i64 a1_1, .int .i64 a1_2] 24 (0, 0)) m47_ hb); have n3_ := Aside0.mk (blk_below (g := gb238) (o := .cells #[.int .i64 a2_0, .bool a2_1] 26 (0, 0)) m48_ hb); have n4_ := Aside0.mk (blk_below (g := gb253) (o := .cells #[.string t249, .int .i64 t250, .int .i64 t251] 29 (0, 0)) m49_ hb); have n5_ := Aside0.mk (blk_below (g := gb266) (o := .cells #[.string t262, .int .i64 t263, .int .i64 t264] 29 (0, 0)) m41_ hb); have n6_ := Aside0.mk (below_step m10_ hb); clear HO243; clear HO256; clear BK237; clear BK238; clear BK253; clear BK266; clear HB; have HO243 := n0_; have HO256 := n1_; have BK237 := n2_; have BK238 := n3_; have BK253 := n4_; have BK266 := n5_; have HB := n6_; clear n0_ n1_ n2_ n3_ n4_ n5_ n6_; (try clear hb); (try clear hb2); (try clear hk); (try clear hi)))
     go_meet
     case rel => exact ⟨_, ((t265 != t252)), m11_, H', ⟨m42_⟩, ⟨(by (with_reducible repeat (first | apply Kd.R_alloc | apply Kd.R_drewN | apply Kd.R_drew)); exact Kd.R_mono HO256.out (fun _ hk => trivial))⟩, ⟨m2_⟩, ⟨m3_⟩, ⟨m9_⟩, ⟨m26_⟩, ⟨m10_⟩⟩
    ·replace c55 := Bool.eq_false_iff.mpr c55
     subst c55
     have H1 : (laws_FnExactRecGo.j0 k l0 t254 true) = some r := by rw [if_neg (show ¬ (false = true) by decide)] at H; exact H
     clear H
     have H := H1
     clear H1
     have H' := Aside0.mk H
     clear H
     have hnb64 := NB266_237.out
     have hnc64 := NB237_266.out
     have hnb65 := NB266_238.out
     have hnc65 := NB238_266.out
     have hnb66 := NB266_253.out
     have hnc66 := NB253_266.out
     obtain ⟨hcz67_0, hcz67_1, hcz67_2⟩ := cz3_ BK266.out
     obtain ⟨hfz67_0, hfz67_1, hfz67_2⟩ := fz3_ BK266.out
     have hnb68 := NB253_237.out
     have hnc68 := NB237_253.out
     have hnb69 := NB253_238.out
     have hnc69 := NB238_253.out
     obtain ⟨hcz70_0, hcz70_1, hcz70_2⟩ := cz3_ BK253.out
     obtain ⟨hfz70_0, hfz70_1, hfz70_2⟩ := fz3_ BK253.out
     go_wp2_with (first | ((with_reducible refine gate_callee (f := 14) rfl ?_); refine goesL_ (some 46) rfl rfl Try.func14 (by kernel_rfl) rfl #[.agg #[.string t262, .int .i64 t263, .int .i64 t264], .agg #[.string t249, .int .i64 t250, .int .i64 t251]] rfl m1_ ?_; (with_reducible refine (laws_eqRecState.calls t262 t263 t264 t249 t250 t251 false _ A54.out).mono ?_); rintro e w71 ⟨rfl, hb⟩; refine ⟨_, rfl, ?_⟩; have n0_ := Aside0.mk (Kd.R_below m62_ hb); have n1_ := Aside0.mk (Kd.R_below m63_ hb); have n2_ := Aside0.mk (blk_below (g := gb237) (o := .cells #[.string a1_0, .int .i64 a1_1, .int .i64 a1_2] 24 (0, 0)) m47_ hb); have n3_ := Aside0.mk (blk_below (g := gb238) (o := .cells #[.int .i64 a2_0, .bool a2_1] 26 (0, 0)) m48_ hb); have n4_ := Aside0.mk (blk_below (g := gb253) (o := .cells #[.string t249, .int .i64 t250, .int .i64 t251] 29 (0, 0)) m49_ hb); have n5_ := Aside0.mk (blk_below (g := gb266) (o := .cells #[.string t262, .int .i64 t263, .int .i64 t264] 29 (0, 0)) m41_ hb); have n6_ := Aside0.mk (below_step m10_ hb); clear HO243; clear HO256; clear BK237; clear BK238; clear BK253; clear BK266; clear HB; have HO243 := n0_; have HO256 := n1_; have BK237 := n2_; have BK238 := n3_; have BK253 := n4_; have BK266 := n5_; have HB := n6_; clear n0_ n1_ n2_ n3_ n4_ n5_ n6_; (try clear hb); (try clear hb2); (try clear hk); (try clear hi)))
     go_meet
     case rel => exact ⟨_, (true), m11_, H', ⟨m42_⟩, ⟨(by (with_reducible repeat (first | apply Kd.R_alloc | apply Kd.R_drewN | apply Kd.R_drew)); exact Kd.R_mono HO256.out (fun _ hk => trivial))⟩, ⟨m2_⟩, ⟨m3_⟩, ⟨m9_⟩, ⟨m26_⟩, ⟨m10_⟩⟩
   case rest =>
    clear HC25
    try clear c1
    try clear p2
    try clear c5
    try clear c6
    try clear c11
    try clear c12
    try clear c13
    try clear c14
    try clear c55
    try clear c56
    try clear c57
    try clear c58
    try clear c60
    try clear c61
    try clear c64
    try clear c65
    try clear c66
    try clear c68
    try clear c69
    try clear hcz59_0
    try clear hcz59_1
    try clear hcz59_2
    try clear hcz62_0
    try clear hcz62_1
    try clear hcz62_2
    try clear hcz67_0
    try clear hcz67_1
    try clear hcz67_2
    try clear hcz70_0
    try clear hcz70_1
    try clear hcz70_2
    try clear hfz59_0
    try clear hfz59_1
    try clear hfz59_2
    try clear hfz62_0
    try clear hfz62_1
    try clear hfz62_2
    try clear hfz67_0
    try clear hfz67_1
    try clear hfz67_2
    try clear hfz70_0
    try clear hfz70_1
    try clear hfz70_2
    obtain ⟨kq, x52_24, rfl, HA, HJ24, HO_10, BK237, BK238, BK253, BK266, HB⟩ := hcut
    cases kq with
    | zero => exact absurd HA.out (by simp [laws_FnExactRecGo.j0])
    | succ kj24 =>
     have H := HA.out
     clear HA
     simp only [laws_FnExactRecGo.j0] at H
     refine (Classical.em (x52_24 = true)).elim (fun c72 => ?yes26) (fun c72 => ?no26)
     case' yes26 =>
      subst c72
      have H1 : (some false) = some r := by rw [if_pos rfl] at H; exact H
      clear H
      have H := H1
      clear H1
      obtain rfl := Option.some.inj H
     case' no26 =>
      replace c72 := Bool.eq_false_iff.mpr c72
      subst c72
      have H1 : ((laws_toRecPhaseS.f kj24 l0).bind fun t268 => ((laws_eqRecPhaseS.f kj24 t254 t268).bind fun t271 => (if t271 = true then (some true) else (some false)))) = some r := by rw [if_neg (show ¬ (false = true) by decide)] at H; exact H
      clear H
      have H := H1
      clear H1
      replace H := Option.bind_eq_some_iff.mp H
      obtain ⟨t268, A730, H⟩ := H
      replace H : ((laws_eqRecPhaseS.f kj24 t254 t268).bind fun t271 => (if t271 = true then (some true) else (some false))) = some r := H
      have A73 := Aside0.mk A730
      clear A730
      replace H := Option.bind_eq_some_iff.mp H
      obtain ⟨t271, A740, H⟩ := H
      replace H : (if t271 = true then (some true) else (some false)) = some r := H
      have A74 := Aside0.mk A740
      clear A740
      refine (Classical.em (t271 = true)).elim (fun c75 => ?yes27) (fun c75 => ?no27)
      case' yes27 =>
       subst c75
       have H1 : (some true) = some r := by rw [if_pos rfl] at H; exact H
       clear H
       have H := H1
       clear H1
       obtain rfl := Option.some.inj H
      case' no27 =>
       replace c75 := Bool.eq_false_iff.mpr c75
       subst c75
       have H1 : (some false) = some r := by rw [if_neg (show ¬ (false = true) by decide)] at H; exact H
       clear H
       have H := H1
       clear H1
       obtain rfl := Option.some.inj H
     all_goals
      first
       | (
        go_wp2
        go_ret
        exact ⟨m7_, m10_⟩)
       | (
        go_wp2_with (first | ((with_reducible refine gate_callee (f := 10) rfl ?_); refine goesL_ (some 55) rfl rfl Try.func10 (by kernel_rfl) rfl #[.slice A0 l0.length c0] rfl m1_ ?_; (with_reducible refine (laws_toRecPhaseS.calls kj24 _ _ l0 _ _ ?side1 ?side2 (Aside0.out (by assumption))).mono ?_); (case side1 => exact m12_); (case side2 => exact HC0.out); rintro e w76 ⟨v269, rfl, ho0, hb⟩; refine ⟨_, rfl, ?_⟩; have n0_ := Aside0.mk (Kd.R_elder' (by (with_reducible repeat (first | apply Kd.R_alloc | apply Kd.R_drewN | apply Kd.R_drew)); exact HO_10.out) (Kd.R_base ho0) hb); have n1_ := Aside0.mk (Kd.R_lower (Kd.R_new' ho0 (Kd.R_lt (by (with_reducible repeat (first | apply Kd.R_alloc | apply Kd.R_drewN | apply Kd.R_drew)); exact HO_10.out))) (below_size m10_)); have n2_ := Aside0.mk (blk_below (g := gb237) (o := .cells #[.string a1_0, .int .i64 a1_1, .int .i64 a1_2] 24 (0, 0)) m2_ hb); have n3_ := Aside0.mk (blk_below (g := gb238) (o := .cells #[.int .i64 a2_0, .bool a2_1] 26 (0, 0)) m3_ hb); have n4_ := Aside0.mk (blk_below (g := gb253) (o := .cells #[.string t249, .int .i64 t250, .int .i64 t251] 29 (0, 0)) m9_ hb); have n5_ := Aside0.mk (blk_below (g := gb266) (o := .cells #[.string t262, .int .i64 t263, .int .i64 t264] 29 (0, 0)) m26_ hb); have n6_ := Aside0.mk (below_step m10_ hb); clear HO_10; clear BK237; clear BK238; clear BK253; clear BK266; clear HB; have HO_10 := n0_; have HO270 := n1_; have BK237 := n2_; have BK238 := n3_; have BK253 := n4_; have BK266 := n5_; have HB := n6_; clear n0_ n1_ n2_ n3_ n4_ n5_ n6_; (try clear hb); (try clear hb2); (try clear hk); (try clear hi); (try clear ho0); obtain ⟨Ao77, co77, eo77⟩ := Kd.R_slice HO270.out; subst eo77) | ((with_reducible refine gate_callee (f := 15) rfl ?_); refine goesL_ (some 56) rfl rfl Try.func15 (by kernel_rfl) rfl #[.slice Ao44 t254.length co44, .slice Ao77 t268.length co77] rfl m1_ ?_; (with_reducible refine (laws_eqRecPhaseS.calls kj24 _ _ t254 _ _ t268 _ _ ?side1 ?side2 ?side3 ?side4 (Aside0.out (by assumption))).mono ?_); (case side1 => exact (by repeat (first | exact (Kd.R_reads' HO_10.out).2.2 | (with_reducible refine Kd.C_alloc ?_ _) | (with_reducible refine Kd.C_drewN ?_ _) | (with_reducible refine Kd.C_drew ?_)))); (case side2 => exact (Kd.R_reads' HO_10.out).2.1); (case side3 => exact (by repeat (first | exact (Kd.R_reads' HO270.out).2.2 | (with_reducible refine Kd.C_alloc ?_ _) | (with_reducible refine Kd.C_drewN ?_ _) | (with_reducible refine Kd.C_drew ?_)))); (case side4 => exact (Kd.R_reads' HO270.out).2.1); rintro e w78 ⟨rfl, hb⟩; refine ⟨_, rfl, ?_⟩; have n0_ := Aside0.mk (Kd.R_below (by (with_reducible repeat (first | apply Kd.R_alloc | apply Kd.R_drewN | apply Kd.R_drew)); exact HO_10.out) hb); have n1_ := Aside0.mk (Kd.R_below (by (with_reducible repeat (first | apply Kd.R_alloc | apply Kd.R_drewN | apply Kd.R_drew)); exact HO270.out) hb); have n2_ := Aside0.mk (blk_below (g := gb237) (o := .cells #[.string a1_0, .int .i64 a1_1, .int .i64 a1_2] 24 (0, 0)) m2_ hb); have n3_ := Aside0.mk (blk_below (g := gb238) (o := .cells #[.int .i64 a2_0, .bool a2_1] 26 (0, 0)) m3_ hb); have n4_ := Aside0.mk (blk_below (g := gb253) (o := .cells #[.string t249, .int .i64 t250, .int .i64 t251] 29 (0, 0)) m9_ hb); have n5_ := Aside0.mk (blk_below (g := gb266) (o := .cells #[.string t262, .int .i64 t263, .int .i64 t264] 29 (0, 0)) m26_ hb); have n6_ := Aside0.mk (below_step m10_ hb); clear HO_10; clear HO270; clear BK237; clear BK238; clear BK253; clear BK266; clear HB; have HO_10 := n0_; have HO270 := n1_; have BK237 := n2_; have BK238 := n3_; have BK253 := n4_; have BK266 := n5_; have HB := n6_; clear n0_ n1_ n2_ n3_ n4_ n5_ n6_; (try clear hb); (try clear hb2); (try clear hk); (try clear hi)))
        go_ret
        exact ⟨m7_, m10_⟩)

end Go.Proofs.Ytpihcdbkdldbcaa.QFnExactRecGo
