/- Laid by a program of this session: the texts of one law, joined, without what it does not come to. -/
import Derived.Test.YtpihcdbkdldbcaaZFnExactRecGo4
namespace Go.Proofs.Ytpihcdbkdldbcaa.QFnExactRecGo
open Go.RowKit Go.Proofs.YtpihcdbkdldbcaaW.PrintWords Go.Proofs.YtpihcdbkdldbcaaW.PrintLast Go.Proofs.YtpihcdbkdldbcaaW.PrintMore
attribute [local go_sem] str_geq str_gtr str_leq max2_int min2_int max_two min_two max_three min_three max_four min_four   -- for this text's walks alone
set_option linter.unusedVariables false
set_option linter.unusedSimpArgs false
mutual
def impl_RecPhaseOk.j0 : Nat → Bool → ByteArray → Int → ByteArray → ByteArray → Int → Int → ByteArray → ByteArray → Option (Bool)
 | 0, _, _, _, _, _, _, _, _, _ => none
 | k + 1, x42, x197000, x197001, x197002, x197003, x197004, x197005, x197006, x197007 => if x42 = true then (some false) else (if x197001 = 1 then ((impl_isName.f k x197003).bind fun t202 => (if t202 = true then (if x197004 ≤ 1000 then (if x197004 ≥ 1 then (some true) else (some false)) else (some false)) else (some false))) else (if x197001 = 2 then (if x197002.toList = x197003.toList then (some false) else ((impl_isName.f k x197003).bind fun t203 => (if t203 = true then (if x197004 ≤ 1000 then (if x197004 ≥ 1 then (some true) else (some false)) else (some false)) else (some false)))) else (if x197001 = 3 then (if x197003.toList = ([] : List UInt8) then (if x197004 ≤ x197005 then (if x197004 ≥ 1 then (some true) else (if x197005 = 0 then (some (x197004 == 0)) else (some false))) else (some false)) else (some false)) else (if x197001 = 4 then (impl_RecPhaseOk.j1 k false (x197001 == 4) x197000 x197001 x197002 x197003 x197004 x197005 x197006 x197007) else (impl_RecPhaseOk.j1 k false (x197001 == 5) x197000 x197001 x197002 x197003 x197004 x197005 x197006 x197007)))))
def impl_RecPhaseOk.j1 : Nat → Bool → Bool → ByteArray → Int → ByteArray → ByteArray → Int → Int → ByteArray → ByteArray → Option (Bool)
 | 0, _, _, _, _, _, _, _, _, _, _ => none
 | k + 1, x4, x58, x197000, x197001, x197002, x197003, x197004, x197005, x197006, x197007 => if x58 = true then (if x4 = true then ((impl_isName.f k x197003).bind fun t204 => (if t204 = true then (if x197004 ≤ 0 then (if x197004 ≥ 1 then (some true) else (some (x197004 == 0))) else (some false)) else (some false))) else (if x197003.toList = ([] : List UInt8) then (if x197004 ≤ 0 then (if x197004 ≥ 1 then (some true) else (some (x197004 == 0))) else (some false)) else (some false))) else (some false)
end
def impl_RecPhaseOk.f (k : Nat) (a0_0 : ByteArray) (a0_1 : Int) (a0_2 : ByteArray) (a0_3 : ByteArray) (a0_4 : Int) (a0_5 : Int) (a0_6 : ByteArray) (a0_7 : ByteArray) : Option (Bool) := (impl_isName.f k a0_0).bind fun t197 => (if t197 = true then ((impl_RecEnd.f a0_0).bind fun t198 => (if t198 = 0 then (if a0_5 < 1 then (impl_RecPhaseOk.j0 k true a0_0 a0_1 a0_2 a0_3 a0_4 a0_5 a0_6 a0_7) else (if a0_5 > 1000 then (impl_RecPhaseOk.j0 k true a0_0 a0_1 a0_2 a0_3 a0_4 a0_5 a0_6 a0_7) else ((impl_isName.f k a0_2).bind fun t199 => (if t199 = true then ((impl_isName.f k a0_6).bind fun t200 => (if t200 = true then ((impl_isName.f k a0_7).bind fun t201 => (impl_RecPhaseOk.j0 k (!t201) a0_0 a0_1 a0_2 a0_3 a0_4 a0_5 a0_6 a0_7)) else (impl_RecPhaseOk.j0 k true a0_0 a0_1 a0_2 a0_3 a0_4 a0_5 a0_6 a0_7))) else (impl_RecPhaseOk.j0 k true a0_0 a0_1 a0_2 a0_3 a0_4 a0_5 a0_6 a0_7))))) else (impl_RecPhaseOk.j0 k true a0_0 a0_1 a0_2 a0_3 a0_4 a0_5 a0_6 a0_7))) else (impl_RecPhaseOk.j0 k true a0_0 a0_1 a0_2 a0_3 a0_4 a0_5 a0_6 a0_7))
theorem impl_RecPhaseOk.mono_l : ∀ k, (∀ y0 y1 y2 y3 y4 y5 y6 y7 y8, LeO (impl_RecPhaseOk.j0 k y0 y1 y2 y3 y4 y5 y6 y7 y8) (impl_RecPhaseOk.j0 (k + 1) y0 y1 y2 y3 y4 y5 y6 y7 y8)) ∧ (∀ y0 y1 y2 y3 y4 y5 y6 y7 y8 y9, LeO (impl_RecPhaseOk.j1 k y0 y1 y2 y3 y4 y5 y6 y7 y8 y9) (impl_RecPhaseOk.j1 (k + 1) y0 y1 y2 y3 y4 y5 y6 y7 y8 y9))
 | 0 => ⟨fun _ _ _ _ _ _ _ _ _ r h => by simp [impl_RecPhaseOk.j0] at h, fun _ _ _ _ _ _ _ _ _ _ r h => by simp [impl_RecPhaseOk.j1] at h⟩
 | k + 1 => by
  obtain ⟨ih0, ih1⟩ := impl_RecPhaseOk.mono_l k
  refine ⟨?_, ?_⟩
  ·intro y0 y1 y2 y3 y4 y5 y6 y7 y8
   unfold impl_RecPhaseOk.j0
   repeat' first
   | (with_reducible exact ih0 _ _ _ _ _ _ _ _ _)
   | (with_reducible exact ih1 _ _ _ _ _ _ _ _ _ _)
   | (with_reducible exact impl_isName.mono _ _)
   | (with_reducible exact LeO.refl _)
   | (with_reducible exact LeO.none _)
   | (with_reducible refine LeO.ite ?_ ?_)
   | (with_reducible refine LeO.bind ?_ (fun _ => ?_))
   | exact ih0 _ _ _ _ _ _ _ _ _
   | exact ih1 _ _ _ _ _ _ _ _ _ _
   | exact impl_isName.mono _ _
   | exact LeO.none _
   | refine LeO.ite ?_ ?_
   | refine LeO.bind ?_ (fun _ => ?_)
  ·intro y0 y1 y2 y3 y4 y5 y6 y7 y8 y9
   unfold impl_RecPhaseOk.j1
   repeat' first
   | (with_reducible exact ih0 _ _ _ _ _ _ _ _ _)
   | (with_reducible exact ih1 _ _ _ _ _ _ _ _ _ _)
   | (with_reducible exact impl_isName.mono _ _)
   | (with_reducible exact LeO.refl _)
   | (with_reducible exact LeO.none _)
   | (with_reducible refine LeO.ite ?_ ?_)
   | (with_reducible refine LeO.bind ?_ (fun _ => ?_))
   | exact ih0 _ _ _ _ _ _ _ _ _
   | exact ih1 _ _ _ _ _ _ _ _ _ _
   | exact impl_isName.mono _ _
   | exact LeO.none _
   | refine LeO.ite ?_ ?_
   | refine LeO.bind ?_ (fun _ => ?_)
theorem impl_RecPhaseOk.mono : ∀ a0 a1 a2 a3 a4 a5 a6 a7 k, LeO (impl_RecPhaseOk.f k a0 a1 a2 a3 a4 a5 a6 a7) (impl_RecPhaseOk.f (k + 1) a0 a1 a2 a3 a4 a5 a6 a7) := by
 intro a0 a1 a2 a3 a4 a5 a6 a7 k
 obtain ⟨ih0, ih1⟩ := impl_RecPhaseOk.mono_l k
 unfold impl_RecPhaseOk.f
 repeat' first
   | (with_reducible exact ih0 _ _ _ _ _ _ _ _ _)
   | (with_reducible exact ih1 _ _ _ _ _ _ _ _ _ _)
   | (with_reducible exact impl_isName.mono _ _)
   | (with_reducible exact LeO.refl _)
   | (with_reducible exact LeO.none _)
   | (with_reducible refine LeO.ite ?_ ?_)
   | (with_reducible refine LeO.bind ?_ (fun _ => ?_))
   | exact ih0 _ _ _ _ _ _ _ _ _
   | exact ih1 _ _ _ _ _ _ _ _ _ _
   | exact impl_isName.mono _ _
   | exact LeO.none _
   | refine LeO.ite ?_ ?_
   | refine LeO.bind ?_ (fun _ => ?_)
set_option maxHeartbeats 8000000 in
set_option maxRecDepth 100000 in
theorem impl_RecPhaseOk.calls (k : Nat) (a0_0 : ByteArray) (a0_1 : Int) (a0_2 : ByteArray) (a0_3 : ByteArray) (a0_4 : Int) (a0_5 : Int) (a0_6 : ByteArray) (a0_7 : ByteArray) (r : Bool) (w : World) (h : impl_RecPhaseOk.f k a0_0 a0_1 a0_2 a0_3 a0_4 a0_5 a0_6 a0_7 = some r) :
  Calls Try.prog 54 #[.agg #[.string a0_0, .int .i64 a0_1, .string a0_2, .string a0_3, .int .i64 a0_4, .int .i64 a0_5, .string a0_6, .string a0_7]] w fun e w' => e = .returned (.bool r) ∧ Below w.heap.size w w' := by
 have hu44 := Try.underlying44
 have HB := Aside0.mk (Below.refl w.heap.size w)
 have H : ((impl_isName.f k a0_0).bind fun t197 => (if t197 = true then ((impl_RecEnd.f a0_0).bind fun t198 => (if t198 = 0 then (if a0_5 < 1 then (impl_RecPhaseOk.j0 k true a0_0 a0_1 a0_2 a0_3 a0_4 a0_5 a0_6 a0_7) else (if a0_5 > 1000 then (impl_RecPhaseOk.j0 k true a0_0 a0_1 a0_2 a0_3 a0_4 a0_5 a0_6 a0_7) else ((impl_isName.f k a0_2).bind fun t199 => (if t199 = true then ((impl_isName.f k a0_6).bind fun t200 => (if t200 = true then ((impl_isName.f k a0_7).bind fun t201 => (impl_RecPhaseOk.j0 k (!t201) a0_0 a0_1 a0_2 a0_3 a0_4 a0_5 a0_6 a0_7)) else (impl_RecPhaseOk.j0 k true a0_0 a0_1 a0_2 a0_3 a0_4 a0_5 a0_6 a0_7))) else (impl_RecPhaseOk.j0 k true a0_0 a0_1 a0_2 a0_3 a0_4 a0_5 a0_6 a0_7))))) else (impl_RecPhaseOk.j0 k true a0_0 a0_1 a0_2 a0_3 a0_4 a0_5 a0_6 a0_7))) else (impl_RecPhaseOk.j0 k true a0_0 a0_1 a0_2 a0_3 a0_4 a0_5 a0_6 a0_7))) = some r := h
 clear h
 have HC2 := Aside0.mk H
 clear H
 go_enter Try.func54, Try.ntmps54
 go_upto_region 1 with (first | ((with_reducible refine gate_dst (N := 1) rfl ?_); refine box_event ?hg (N := 1) ?hd (cs := #[.string a0_0, .int .i64 a0_1, .string a0_2, .string a0_3, .int .i64 a0_4, .int .i64 a0_5, .string a0_6, .string a0_7]) (t := 44) ?hr ?_; (case hd => rfl); (case hg => rfl); (case hr => first | (go_simp; done) | (go_simp; rfl)); intro gb196 hg w3 hbox hb; have n0_ := Aside0.mk (below_step m0_ hb); have n1_ := Aside0.mk (hbox); have n2_ := Aside0.mk ((by rw [hg]; exact (below_size m0_) : w.heap.size ≤ gb196)); have n3_ := Aside0.mk ((by rw [hg]; exact (below_size m0_) : w.heap.size ≤ gb196)); clear HB; have HB := n0_; have BK196 := n1_; have GW196 := n2_; have GE196 := n3_; clear n0_ n1_ n2_ n3_; clear hb hbox hg))
 (try simp only [Act.put, List.setIfInBounds_toArray, List.set_cons_zero, List.set_cons_succ])
 go_cut [42] (fun v42 wc => ∃ (kq : Nat) (x42_1 : Bool), v42 = .bool x42_1 ∧ Aside0 (impl_RecPhaseOk.j0 kq x42_1 a0_0 a0_1 a0_2 a0_3 a0_4 a0_5 a0_6 a0_7 = some r) ∧ Aside0 (kq ≤ k) ∧ Aside0 (wc.heap[gb196]? = some (.cells #[.string a0_0, .int .i64 a0_1, .string a0_2, .string a0_3, .int .i64 a0_4, .int .i64 a0_5, .string a0_6, .string a0_7] 44 (0, 0))) ∧ Aside0 (Below w.heap.size w wc))
 case first =>
  have H := HC2.out
  clear HC2
  replace H := Option.bind_eq_some_iff.mp H
  obtain ⟨t197, A40, H⟩ := H
  replace H : (if t197 = true then ((impl_RecEnd.f a0_0).bind fun t198 => (if t198 = 0 then (if a0_5 < 1 then (impl_RecPhaseOk.j0 k true a0_0 a0_1 a0_2 a0_3 a0_4 a0_5 a0_6 a0_7) else (if a0_5 > 1000 then (impl_RecPhaseOk.j0 k true a0_0 a0_1 a0_2 a0_3 a0_4 a0_5 a0_6 a0_7) else ((impl_isName.f k a0_2).bind fun t199 => (if t199 = true then ((impl_isName.f k a0_6).bind fun t200 => (if t200 = true then ((impl_isName.f k a0_7).bind fun t201 => (impl_RecPhaseOk.j0 k (!t201) a0_0 a0_1 a0_2 a0_3 a0_4 a0_5 a0_6 a0_7)) else (impl_RecPhaseOk.j0 k true a0_0 a0_1 a0_2 a0_3 a0_4 a0_5 a0_6 a0_7))) else (impl_RecPhaseOk.j0 k true a0_0 a0_1 a0_2 a0_3 a0_4 a0_5 a0_6 a0_7))))) else (impl_RecPhaseOk.j0 k true a0_0 a0_1 a0_2 a0_3 a0_4 a0_5 a0_6 a0_7))) else (impl_RecPhaseOk.j0 k true a0_0 a0_1 a0_2 a0_3 a0_4 a0_5 a0_6 a0_7)) = some r := H
  have A4 := Aside0.mk A40
  clear A40
  refine (Classical.em (t197 = true)).elim (fun c5 => ?yes73) (fun c5 => ?no73)
  case' yes73 =>
   subst c5
   have H1 : ((impl_RecEnd.f a0_0).bind fun t198 => (if t198 = 0 then (if a0_5 < 1 then (impl_RecPhaseOk.j0 k true a0_0 a0_1 a0_2 a0_3 a0_4 a0_5 a0_6 a0_7) else (if a0_5 > 1000 then (impl_RecPhaseOk.j0 k true a0_0 a0_1 a0_2 a0_3 a0_4 a0_5 a0_6 a0_7) else ((impl_isName.f k a0_2).bind fun t199 => (if t199 = true then ((impl_isName.f k a0_6).bind fun t200 => (if t200 = true then ((impl_isName.f k a0_7).bind fun t201 => (impl_RecPhaseOk.j0 k (!t201) a0_0 a0_1 a0_2 a0_3 a0_4 a0_5 a0_6 a0_7)) else (impl_RecPhaseOk.j0 k true a0_0 a0_1 a0_2 a0_3 a0_4 a0_5 a0_6 a0_7))) else (impl_RecPhaseOk.j0 k true a0_0 a0_1 a0_2 a0_3 a0_4 a0_5 a0_6 a0_7))))) else (impl_RecPhaseOk.j0 k true a0_0 a0_1 a0_2 a0_3 a0_4 a0_5 a0_6 a0_7))) = some r := by rw [if_pos rfl] at H; exact H
   clear H
   have H := H1
   clear H1
   replace H := Option.bind_eq_some_iff.mp H
   obtain ⟨t198, A60, H⟩ := H
   replace H : (if t198 = 0 then (if a0_5 < 1 then (impl_RecPhaseOk.j0 k true a0_0 a0_1 a0_2 a0_3 a0_4 a0_5 a0_6 a0_7) else (if a0_5 > 1000 then (impl_RecPhaseOk.j0 k true a0_0 a0_1 a0_2 a0_3 a0_4 a0_5 a0_6 a0_7) else ((impl_isName.f k a0_2).bind fun t199 => (if t199 = true then ((impl_isName.f k a0_6).bind fun t200 => (if t200 = true then ((impl_isName.f k a0_7).bind fun t201 => (impl_RecPhaseOk.j0 k (!t201) a0_0 a0_1 a0_2 a0_3 a0_4 a0_5 a0_6 a0_7)) else (impl_RecPhaseOk.j0 k true a0_0 a0_1 a0_2 a0_3 a0_4 a0_5 a0_6 a0_7))) else (impl_RecPhaseOk.j0 k true a0_0 a0_1 a0_2 a0_3 a0_4 a0_5 a0_6 a0_7))))) else (impl_RecPhaseOk.j0 k true a0_0 a0_1 a0_2 a0_3 a0_4 a0_5 a0_6 a0_7)) = some r := H
   have A6 := Aside0.mk A60
   clear A60
   refine (Classical.em (t198 = 0)).elim (fun c7 => ?yes74) (fun c7 => ?no74)
   case' yes74 =>
    rw [if_pos c7] at H
    have c7b0 : (t198 == 0) = true := beq_iff_eq.mpr c7
    have c7b1 : (t198 != 0) = false := bne_eq_false_iff_eq.mpr c7
    clear c7
    (first | rw [c7b0] | (simp only [i64_w, i32_w]; rw [c7b0]) | skip)
    refine (Classical.em (a0_5 < 1)).elim (fun c8 => ?yes75) (fun c8 => ?no75)
    case' yes75 =>
     rw [if_pos c8] at H
     have c8b0 : decide (a0_5 < 1) = true := decide_eq_true c8
     clear c8
     have H' := Aside0.mk H
     clear H
    case' no75 =>
     rw [if_neg c8] at H
     have c8b0 : decide (a0_5 < 1) = false := decide_eq_false c8
     clear c8
     refine (Classical.em (a0_5 > 1000)).elim (fun c10 => ?yes76) (fun c10 => ?no76)
     case' yes76 =>
      rw [if_pos c10] at H
      have c10b0 : decide (1000 < a0_5) = true := decide_eq_true c10
      clear c10
      have H' := Aside0.mk H
      clear H
     case' no76 =>
      rw [if_neg c10] at H
      have c10b0 : decide (1000 < a0_5) = false := decide_eq_false c10
      clear c10
      replace H := Option.bind_eq_some_iff.mp H
      obtain ⟨t199, A120, H⟩ := H
      replace H : (if t199 = true then ((impl_isName.f k a0_6).bind fun t200 => (if t200 = true then ((impl_isName.f k a0_7).bind fun t201 => (impl_RecPhaseOk.j0 k (!t201) a0_0 a0_1 a0_2 a0_3 a0_4 a0_5 a0_6 a0_7)) else (impl_RecPhaseOk.j0 k true a0_0 a0_1 a0_2 a0_3 a0_4 a0_5 a0_6 a0_7))) else (impl_RecPhaseOk.j0 k true a0_0 a0_1 a0_2 a0_3 a0_4 a0_5 a0_6 a0_7)) = some r := H
      have A12 := Aside0.mk A120
      clear A120
      refine (Classical.em (t199 = true)).elim (fun c13 => ?yes77) (fun c13 => ?no77)
      case' yes77 =>
       subst c13
       have H1 : ((impl_isName.f k a0_6).bind fun t200 => (if t200 = true then ((impl_isName.f k a0_7).bind fun t201 => (impl_RecPhaseOk.j0 k (!t201) a0_0 a0_1 a0_2 a0_3 a0_4 a0_5 a0_6 a0_7)) else (impl_RecPhaseOk.j0 k true a0_0 a0_1 a0_2 a0_3 a0_4 a0_5 a0_6 a0_7))) = some r := by rw [if_pos rfl] at H; exact H
       clear H
       have H := H1
       clear H1
       replace H := Option.bind_eq_some_iff.mp H
       obtain ⟨t200, A140, H⟩ := H
       replace H : (if t200 = true then ((impl_isName.f k a0_7).bind fun t201 => (impl_RecPhaseOk.j0 k (!t201) a0_0 a0_1 a0_2 a0_3 a0_4 a0_5 a0_6 a0_7)) else (impl_RecPhaseOk.j0 k true a0_0 a0_1 a0_2 a0_3 a0_4 a0_5 a0_6 a0_7)) = some r := H
       have A14 := Aside0.mk A140
       clear A140
       refine (Classical.em (t200 = true)).elim (fun c15 => ?yes78) (fun c15 => ?no78)
       case' yes78 =>
        subst c15
        have H1 : ((impl_isName.f k a0_7).bind fun t201 => (impl_RecPhaseOk.j0 k (!t201) a0_0 a0_1 a0_2 a0_3 a0_4 a0_5 a0_6 a0_7)) = some r := by rw [if_pos rfl] at H; exact H
        clear H
        have H := H1
        clear H1
        replace H := Option.bind_eq_some_iff.mp H
        obtain ⟨t201, A160, H⟩ := H
        replace H : (impl_RecPhaseOk.j0 k (!t201) a0_0 a0_1 a0_2 a0_3 a0_4 a0_5 a0_6 a0_7) = some r := H
        have A16 := Aside0.mk A160
        clear A160
        have H' := Aside0.mk H
        clear H
       case' no78 =>
        replace c15 := Bool.eq_false_iff.mpr c15
        subst c15
        have H1 : (impl_RecPhaseOk.j0 k true a0_0 a0_1 a0_2 a0_3 a0_4 a0_5 a0_6 a0_7) = some r := by rw [if_neg (show ¬ (false = true) by decide)] at H; exact H
        clear H
        have H := H1
        clear H1
        have H' := Aside0.mk H
        clear H
      case' no77 =>
       replace c13 := Bool.eq_false_iff.mpr c13
       subst c13
       have H1 : (impl_RecPhaseOk.j0 k true a0_0 a0_1 a0_2 a0_3 a0_4 a0_5 a0_6 a0_7) = some r := by rw [if_neg (show ¬ (false = true) by decide)] at H; exact H
       clear H
       have H := H1
       clear H1
       have H' := Aside0.mk H
       clear H
   case' no74 =>
    rw [if_neg c7] at H
    have c7b0 : (t198 == 0) = false := beq_eq_false_iff_ne.mpr c7
    have c7b1 : (t198 != 0) = true := bne_iff_ne.mpr c7
    (first | rw [c7b0] | (simp only [i64_w, i32_w]; rw [c7b0]) | skip)
    have H' := Aside0.mk H
    clear H
  case' no73 =>
   replace c5 := Bool.eq_false_iff.mpr c5
   subst c5
   have H1 : (impl_RecPhaseOk.j0 k true a0_0 a0_1 a0_2 a0_3 a0_4 a0_5 a0_6 a0_7) = some r := by rw [if_neg (show ¬ (false = true) by decide)] at H; exact H
   clear H
   have H := H1
   clear H1
   have H' := Aside0.mk H
   clear H
  all_goals
   first
    | (
     obtain ⟨hcz9_0, hcz9_1, hcz9_2, hcz9_3, hcz9_4, hcz9_5, hcz9_6, hcz9_7⟩ := cz8_ BK196.out
     obtain ⟨hfz9_0, hfz9_1, hfz9_2, hfz9_3, hfz9_4, hfz9_5, hfz9_6, hfz9_7⟩ := fz8_ BK196.out
     go_wp2_with (first | ((with_reducible refine gate_callee (f := 66) rfl ?_); refine goesL_ (some 7) rfl rfl Try.func66 (by kernel_rfl) rfl #[.string a0_0] rfl m1_ ?_; (with_reducible refine (impl_isName.calls k a0_0 _ _ (Aside0.out (by assumption))).mono ?_); rintro e w' ⟨rfl, ⟨nd, rfl⟩⟩; refine ⟨_, rfl, ?_⟩) | (go_at_call 55; (with_reducible refine (impl_RecEnd.calls a0_0 _ _ (Aside0.out (by assumption))).mono ?_); rintro e w' ⟨rfl, ⟨nd, rfl⟩⟩))
     go_meet
     case rel => exact ⟨_, _, m14_, H', ⟨m54_⟩, ⟨m43_⟩, ⟨m24_⟩⟩)
    | (
     obtain ⟨hcz17_0, hcz17_1, hcz17_2, hcz17_3, hcz17_4, hcz17_5, hcz17_6, hcz17_7⟩ := cz8_ BK196.out
     obtain ⟨hfz17_0, hfz17_1, hfz17_2, hfz17_3, hfz17_4, hfz17_5, hfz17_6, hfz17_7⟩ := fz8_ BK196.out
     go_wp2_with (first | ((with_reducible refine gate_callee (f := 66) rfl ?_); refine goesL_ (some 7) rfl rfl Try.func66 (by kernel_rfl) rfl #[.string a0_0] rfl m1_ ?_; (with_reducible refine (impl_isName.calls k a0_0 _ _ (Aside0.out (by assumption))).mono ?_); rintro e w' ⟨rfl, ⟨nd, rfl⟩⟩; refine ⟨_, rfl, ?_⟩) | (go_at_call 55; (with_reducible refine (impl_RecEnd.calls a0_0 _ _ (Aside0.out (by assumption))).mono ?_); rintro e w' ⟨rfl, ⟨nd, rfl⟩⟩) | (go_at_call 66; (with_reducible refine (impl_isName.calls k a0_2 _ _ (Aside0.out (by assumption))).mono ?_); rintro e w' ⟨rfl, ⟨nd, rfl⟩⟩) | (go_at_call 66; (with_reducible refine (impl_isName.calls k a0_6 _ _ (Aside0.out (by assumption))).mono ?_); rintro e w' ⟨rfl, ⟨nd, rfl⟩⟩) | (go_at_call 66; (with_reducible refine (impl_isName.calls k a0_7 _ _ (Aside0.out (by assumption))).mono ?_); rintro e w' ⟨rfl, ⟨nd, rfl⟩⟩))
     go_meet
     case rel => exact ⟨_, _, m14_, H', ⟨m54_⟩, ⟨m43_⟩, ⟨m24_⟩⟩)
    | (
     obtain ⟨hcz18_0, hcz18_1, hcz18_2, hcz18_3, hcz18_4, hcz18_5, hcz18_6, hcz18_7⟩ := cz8_ BK196.out
     obtain ⟨hfz18_0, hfz18_1, hfz18_2, hfz18_3, hfz18_4, hfz18_5, hfz18_6, hfz18_7⟩ := fz8_ BK196.out
     go_wp2_with (first | ((with_reducible refine gate_callee (f := 66) rfl ?_); refine goesL_ (some 7) rfl rfl Try.func66 (by kernel_rfl) rfl #[.string a0_0] rfl m1_ ?_; (with_reducible refine (impl_isName.calls k a0_0 _ _ (Aside0.out (by assumption))).mono ?_); rintro e w' ⟨rfl, ⟨nd, rfl⟩⟩; refine ⟨_, rfl, ?_⟩) | (go_at_call 55; (with_reducible refine (impl_RecEnd.calls a0_0 _ _ (Aside0.out (by assumption))).mono ?_); rintro e w' ⟨rfl, ⟨nd, rfl⟩⟩) | (go_at_call 66; (with_reducible refine (impl_isName.calls k a0_2 _ _ (Aside0.out (by assumption))).mono ?_); rintro e w' ⟨rfl, ⟨nd, rfl⟩⟩) | (go_at_call 66; (with_reducible refine (impl_isName.calls k a0_6 _ _ (Aside0.out (by assumption))).mono ?_); rintro e w' ⟨rfl, ⟨nd, rfl⟩⟩))
     go_meet
     case rel => exact ⟨_, _, m14_, H', ⟨m54_⟩, ⟨m43_⟩, ⟨m24_⟩⟩)
    | (
     obtain ⟨hcz19_0, hcz19_1, hcz19_2, hcz19_3, hcz19_4, hcz19_5, hcz19_6, hcz19_7⟩ := cz8_ BK196.out
     obtain ⟨hfz19_0, hfz19_1, hfz19_2, hfz19_3, hfz19_4, hfz19_5, hfz19_6, hfz19_7⟩ := fz8_ BK196.out
     go_wp2_with (first | ((with_reducible refine gate_callee (f := 66) rfl ?_); refine goesL_ (some 7) rfl rfl Try.func66 (by kernel_rfl) rfl #[.string a0_0] rfl m1_ ?_; (with_reducible refine (impl_isName.calls k a0_0 _ _ (Aside0.out (by assumption))).mono ?_); rintro e w' ⟨rfl, ⟨nd, rfl⟩⟩; refine ⟨_, rfl, ?_⟩) | (go_at_call 55; (with_reducible refine (impl_RecEnd.calls a0_0 _ _ (Aside0.out (by assumption))).mono ?_); rintro e w' ⟨rfl, ⟨nd, rfl⟩⟩) | (go_at_call 66; (with_reducible refine (impl_isName.calls k a0_2 _ _ (Aside0.out (by assumption))).mono ?_); rintro e w' ⟨rfl, ⟨nd, rfl⟩⟩))
     go_meet
     case rel => exact ⟨_, _, m14_, H', ⟨m54_⟩, ⟨m43_⟩, ⟨m24_⟩⟩)
    | (
     obtain ⟨hcz21_0, hcz21_1, hcz21_2, hcz21_3, hcz21_4, hcz21_5, hcz21_6, hcz21_7⟩ := cz8_ BK196.out
     obtain ⟨hfz21_0, hfz21_1, hfz21_2, hfz21_3, hfz21_4, hfz21_5, hfz21_6, hfz21_7⟩ := fz8_ BK196.out
     go_wp2_with (first | ((with_reducible refine gate_callee (f := 66) rfl ?_); refine goesL_ (some 7) rfl rfl Try.func66 (by kernel_rfl) rfl #[.string a0_0] rfl m1_ ?_; (with_reducible refine (impl_isName.calls k a0_0 _ _ (Aside0.out (by assumption))).mono ?_); rintro e w' ⟨rfl, ⟨nd, rfl⟩⟩; refine ⟨_, rfl, ?_⟩))
     go_meet
     case rel => exact ⟨_, _, m14_, H', ⟨m54_⟩, ⟨m43_⟩, ⟨m24_⟩⟩)
 case rest =>
  clear HC2
  try clear c1
  try clear p2
  try clear c5
  try clear c6
  try clear c7
  try clear c7b0
  try clear c7b1
  try clear c8
  try clear c8b0
  try clear c10
  try clear c10b0
  try clear c13
  try clear c15
  try clear hcz11_0
  try clear hcz11_1
  try clear hcz11_2
  try clear hcz11_3
  try clear hcz11_4
  try clear hcz11_5
  try clear hcz11_6
  try clear hcz11_7
  try clear hcz17_0
  try clear hcz17_1
  try clear hcz17_2
  try clear hcz17_3
  try clear hcz17_4
  try clear hcz17_5
  try clear hcz17_6
  try clear hcz17_7
  try clear hcz18_0
  try clear hcz18_1
  try clear hcz18_2
  try clear hcz18_3
  try clear hcz18_4
  try clear hcz18_5
  try clear hcz18_6
  try clear hcz18_7
  try clear hcz19_0
  try clear hcz19_1
  try clear hcz19_2
  try clear hcz19_3
  try clear hcz19_4
  try clear hcz19_5
  try clear hcz19_6
  try clear hcz19_7
  try clear hcz20_0
  try clear hcz20_1
  try clear hcz20_2
  try clear hcz20_3
  try clear hcz20_4
  try clear hcz20_5
  try clear hcz20_6
  try clear hcz20_7
  try clear hcz21_0
  try clear hcz21_1
  try clear hcz21_2
  try clear hcz21_3
  try clear hcz21_4
  try clear hcz21_5
  try clear hcz21_6
  try clear hcz21_7
  try clear hcz9_0
  try clear hcz9_1
  try clear hcz9_2
  try clear hcz9_3
  try clear hcz9_4
  try clear hcz9_5
  try clear hcz9_6
  try clear hcz9_7
  try clear hfz11_0
  try clear hfz11_1
  try clear hfz11_2
  try clear hfz11_3
  try clear hfz11_4
  try clear hfz11_5
  try clear hfz11_6
  try clear hfz11_7
  try clear hfz17_0
  try clear hfz17_1
  try clear hfz17_2
  try clear hfz17_3
  try clear hfz17_4
  try clear hfz17_5
  try clear hfz17_6
  try clear hfz17_7
  try clear hfz18_0
  try clear hfz18_1
  try clear hfz18_2
  try clear hfz18_3
  try clear hfz18_4
  try clear hfz18_5
  try clear hfz18_6
  try clear hfz18_7
  try clear hfz19_0
  try clear hfz19_1
  try clear hfz19_2
  try clear hfz19_3
  try clear hfz19_4
  try clear hfz19_5
  try clear hfz19_6
  try clear hfz19_7
  try clear hfz20_0
  try clear hfz20_1
  try clear hfz20_2
  try clear hfz20_3
  try clear hfz20_4
  try clear hfz20_5
  try clear hfz20_6
  try clear hfz20_7
  try clear hfz21_0
  try clear hfz21_1
  try clear hfz21_2
  try clear hfz21_3
  try clear hfz21_4
  try clear hfz21_5
  try clear hfz21_6
  try clear hfz21_7
  try clear hfz9_0
  try clear hfz9_1
  try clear hfz9_2
  try clear hfz9_3
  try clear hfz9_4
  try clear hfz9_5
  try clear hfz9_6
  try clear hfz9_7
  obtain ⟨kq, x42_1, rfl, HA, HJ1, BK196, HB⟩ := hcut
  cases kq with
  | zero => exact absurd HA.out (by simp [impl_RecPhaseOk.j0])
  | succ kj1 =>
   have H := HA.out
   clear HA
   simp only [impl_RecPhaseOk.j0] at H
   by_cases c22 : x42_1 = true
   ·subst c22
    have H1 : (some false) = some r := by rw [if_pos rfl] at H; exact H
    clear H
    have H := H1
    clear H1
    obtain rfl := Option.some.inj H
    go_wp2
    go_ret
    exact ⟨m5_, m24_⟩
   ·replace c22 := Bool.eq_false_iff.mpr c22
    subst c22
    have H1 : (if a0_1 = 1 then ((impl_isName.f kj1 a0_3).bind fun t202 => (if t202 = true then (if a0_4 ≤ 1000 then (if a0_4 ≥ 1 then (some true) else (some false)) else (some false)) else (some false))) else (if a0_1 = 2 then (if a0_2.toList = a0_3.toList then (some false) else ((impl_isName.f kj1 a0_3).bind fun t203 => (if t203 = true then (if a0_4 ≤ 1000 then (if a0_4 ≥ 1 then (some true) else (some false)) else (some false)) else (some false)))) else (if a0_1 = 3 then (if a0_3.toList = ([] : List UInt8) then (if a0_4 ≤ a0_5 then (if a0_4 ≥ 1 then (some true) else (if a0_5 = 0 then (some (a0_4 == 0)) else (some false))) else (some false)) else (some false)) else (if a0_1 = 4 then (impl_RecPhaseOk.j1 kj1 false (a0_1 == 4) a0_0 a0_1 a0_2 a0_3 a0_4 a0_5 a0_6 a0_7) else (impl_RecPhaseOk.j1 kj1 false (a0_1 == 5) a0_0 a0_1 a0_2 a0_3 a0_4 a0_5 a0_6 a0_7))))) = some r := by rw [if_neg (show ¬ (false = true) by decide)] at H; exact H
    clear H
    have H := H1
    clear H1
    by_cases c23 : a0_1 = 1
    ·rw [if_pos c23] at H
     have c23b0 : (a0_1 == 1) = true := beq_iff_eq.mpr c23
     have c23b1 : (a0_1 != 1) = false := bne_eq_false_iff_eq.mpr c23
     clear c23
     replace H := Option.bind_eq_some_iff.mp H
     obtain ⟨t202, A240, H⟩ := H
     replace H : (if t202 = true then (if a0_4 ≤ 1000 then (if a0_4 ≥ 1 then (some true) else (some false)) else (some false)) else (some false)) = some r := H
     have A24 := Aside0.mk A240
     clear A240
     refine (Classical.em (t202 = true)).elim (fun c25 => ?yes79) (fun c25 => ?no79)
     case' yes79 =>
      subst c25
      have H1 : (if a0_4 ≤ 1000 then (if a0_4 ≥ 1 then (some true) else (some false)) else (some false)) = some r := by rw [if_pos rfl] at H; exact H
      clear H
      have H := H1
      clear H1
      refine (Classical.em (a0_4 ≤ 1000)).elim (fun c26 => ?yes80) (fun c26 => ?no80)
      case' yes80 =>
       rw [if_pos c26] at H
       have c26b0 : decide (a0_4 ≤ 1000) = true := decide_eq_true c26
       clear c26
       refine (Classical.em (a0_4 ≥ 1)).elim (fun c27 => ?yes81) (fun c27 => ?no81)
       case' yes81 =>
        rw [if_pos c27] at H
        have c27b0 : decide (1 ≤ a0_4) = true := decide_eq_true c27
        clear c27
        obtain rfl := Option.some.inj H
       case' no81 =>
        rw [if_neg c27] at H
        have c27b0 : decide (1 ≤ a0_4) = false := decide_eq_false c27
        clear c27
        obtain rfl := Option.some.inj H
      case' no80 =>
       rw [if_neg c26] at H
       have c26b0 : decide (a0_4 ≤ 1000) = false := decide_eq_false c26
       clear c26
       obtain rfl := Option.some.inj H
     case' no79 =>
      replace c25 := Bool.eq_false_iff.mpr c25
      subst c25
      have H1 : (some false) = some r := by rw [if_neg (show ¬ (false = true) by decide)] at H; exact H
      clear H
      have H := H1
      clear H1
      obtain rfl := Option.some.inj H
     all_goals
      obtain ⟨hcz28_0, hcz28_1, hcz28_2, hcz28_3, hcz28_4, hcz28_5, hcz28_6, hcz28_7⟩ := cz8_ BK196.out
      obtain ⟨hfz28_0, hfz28_1, hfz28_2, hfz28_3, hfz28_4, hfz28_5, hfz28_6, hfz28_7⟩ := fz8_ BK196.out
      go_wp2_with (first | (go_at_call 66; (with_reducible refine (impl_isName.calls kj1 a0_3 _ _ (Aside0.out (by assumption))).mono ?_); rintro e w' ⟨rfl, ⟨nd, rfl⟩⟩))
      go_ret
      exact ⟨m5_, m24_⟩
    ·rw [if_neg c23] at H
     have c23b0 : (a0_1 == 1) = false := beq_eq_false_iff_ne.mpr c23
     have c23b1 : (a0_1 != 1) = true := bne_iff_ne.mpr c23
     by_cases c32 : a0_1 = 2
     ·rw [if_pos c32] at H
      have c32b0 : (a0_1 == 2) = true := beq_iff_eq.mpr c32
      have c32b1 : (a0_1 != 2) = false := bne_eq_false_iff_eq.mpr c32
      clear c32
      refine (Classical.em (a0_2.toList = a0_3.toList)).elim (fun c33 => ?yes82) (fun c33 => ?no82)
      case' yes82 =>
       rw [if_pos c33] at H
       have c33b0 : (a0_2.toList == a0_3.toList) = true := beq_iff_eq.mpr c33
       have c33b1 : (a0_2.toList != a0_3.toList) = false := bne_eq_false_iff_eq.mpr c33
       clear c33
       obtain rfl := Option.some.inj H
      case' no82 =>
       rw [if_neg c33] at H
       have c33b0 : (a0_2.toList == a0_3.toList) = false := beq_eq_false_iff_ne.mpr c33
       have c33b1 : (a0_2.toList != a0_3.toList) = true := bne_iff_ne.mpr c33
       replace H := Option.bind_eq_some_iff.mp H
       obtain ⟨t203, A350, H⟩ := H
       replace H : (if t203 = true then (if a0_4 ≤ 1000 then (if a0_4 ≥ 1 then (some true) else (some false)) else (some false)) else (some false)) = some r := H
       have A35 := Aside0.mk A350
       clear A350
       refine (Classical.em (t203 = true)).elim (fun c36 => ?yes83) (fun c36 => ?no83)
       case' yes83 =>
        subst c36
        have H1 : (if a0_4 ≤ 1000 then (if a0_4 ≥ 1 then (some true) else (some false)) else (some false)) = some r := by rw [if_pos rfl] at H; exact H
        clear H
        have H := H1
        clear H1
        refine (Classical.em (a0_4 ≤ 1000)).elim (fun c37 => ?yes84) (fun c37 => ?no84)
        case' yes84 =>
         rw [if_pos c37] at H
         have c37b0 : decide (a0_4 ≤ 1000) = true := decide_eq_true c37
         clear c37
         refine (Classical.em (a0_4 ≥ 1)).elim (fun c38 => ?yes85) (fun c38 => ?no85)
         case' yes85 =>
          rw [if_pos c38] at H
          have c38b0 : decide (1 ≤ a0_4) = true := decide_eq_true c38
          clear c38
          obtain rfl := Option.some.inj H
         case' no85 =>
          rw [if_neg c38] at H
          have c38b0 : decide (1 ≤ a0_4) = false := decide_eq_false c38
          clear c38
          obtain rfl := Option.some.inj H
        case' no84 =>
         rw [if_neg c37] at H
         have c37b0 : decide (a0_4 ≤ 1000) = false := decide_eq_false c37
         clear c37
         obtain rfl := Option.some.inj H
       case' no83 =>
        replace c36 := Bool.eq_false_iff.mpr c36
        subst c36
        have H1 : (some false) = some r := by rw [if_neg (show ¬ (false = true) by decide)] at H; exact H
        clear H
        have H := H1
        clear H1
        obtain rfl := Option.some.inj H
      all_goals
       first
        | (
         obtain ⟨hcz34_0, hcz34_1, hcz34_2, hcz34_3, hcz34_4, hcz34_5, hcz34_6, hcz34_7⟩ := cz8_ BK196.out
         obtain ⟨hfz34_0, hfz34_1, hfz34_2, hfz34_3, hfz34_4, hfz34_5, hfz34_6, hfz34_7⟩ := fz8_ BK196.out
         go_wp2
         go_ret
         exact ⟨m5_, m24_⟩)
        | (
         obtain ⟨hcz39_0, hcz39_1, hcz39_2, hcz39_3, hcz39_4, hcz39_5, hcz39_6, hcz39_7⟩ := cz8_ BK196.out
         obtain ⟨hfz39_0, hfz39_1, hfz39_2, hfz39_3, hfz39_4, hfz39_5, hfz39_6, hfz39_7⟩ := fz8_ BK196.out
         go_wp2_with (first | (go_at_call 66; (with_reducible refine (impl_isName.calls kj1 a0_3 _ _ (Aside0.out (by assumption))).mono ?_); rintro e w' ⟨rfl, ⟨nd, rfl⟩⟩))
         go_ret
         exact ⟨m5_, m24_⟩)
     ·rw [if_neg c32] at H
      have c32b0 : (a0_1 == 2) = false := beq_eq_false_iff_ne.mpr c32
      have c32b1 : (a0_1 != 2) = true := bne_iff_ne.mpr c32
      by_cases c43 : a0_1 = 3
      ·rw [if_pos c43] at H
       have c43b0 : (a0_1 == 3) = true := beq_iff_eq.mpr c43
       have c43b1 : (a0_1 != 3) = false := bne_eq_false_iff_eq.mpr c43
       clear c43
       refine (Classical.em (a0_3.toList = ([] : List UInt8))).elim (fun c44 => ?yes86) (fun c44 => ?no86)
       case' yes86 =>
        rw [if_pos c44] at H
        have c44b0 : (a0_3.toList == ([] : List UInt8)) = true := beq_iff_eq.mpr c44
        have c44b1 : (a0_3.toList != ([] : List UInt8)) = false := bne_eq_false_iff_eq.mpr c44
        clear c44
        refine (Classical.em (a0_4 ≤ a0_5)).elim (fun c45 => ?yes87) (fun c45 => ?no87)
        case' yes87 =>
         rw [if_pos c45] at H
         have c45b0 : decide (a0_4 ≤ a0_5) = true := decide_eq_true c45
         clear c45
         refine (Classical.em (a0_4 ≥ 1)).elim (fun c46 => ?yes88) (fun c46 => ?no88)
         case' yes88 =>
          rw [if_pos c46] at H
          have c46b0 : decide (1 ≤ a0_4) = true := decide_eq_true c46
          clear c46
          obtain rfl := Option.some.inj H
         case' no88 =>
          rw [if_neg c46] at H
          have c46b0 : decide (1 ≤ a0_4) = false := decide_eq_false c46
          clear c46
          refine (Classical.em (a0_5 = 0)).elim (fun c48 => ?yes89) (fun c48 => ?no89)
          case' yes89 =>
           rw [if_pos c48] at H
           have c48b0 : (a0_5 == 0) = true := beq_iff_eq.mpr c48
           have c48b1 : (a0_5 != 0) = false := bne_eq_false_iff_eq.mpr c48
           clear c48
           obtain rfl := Option.some.inj H
          case' no89 =>
           rw [if_neg c48] at H
           have c48b0 : (a0_5 == 0) = false := beq_eq_false_iff_ne.mpr c48
           have c48b1 : (a0_5 != 0) = true := bne_iff_ne.mpr c48
           obtain rfl := Option.some.inj H
        case' no87 =>
         rw [if_neg c45] at H
         have c45b0 : decide (a0_4 ≤ a0_5) = false := decide_eq_false c45
         clear c45
         obtain rfl := Option.some.inj H
       case' no86 =>
        rw [if_neg c44] at H
        have c44b0 : (a0_3.toList == ([] : List UInt8)) = false := beq_eq_false_iff_ne.mpr c44
        have c44b1 : (a0_3.toList != ([] : List UInt8)) = true := bne_iff_ne.mpr c44
        obtain rfl := Option.some.inj H
       all_goals
        obtain ⟨hcz47_0, hcz47_1, hcz47_2, hcz47_3, hcz47_4, hcz47_5, hcz47_6, hcz47_7⟩ := cz8_ BK196.out
        obtain ⟨hfz47_0, hfz47_1, hfz47_2, hfz47_3, hfz47_4, hfz47_5, hfz47_6, hfz47_7⟩ := fz8_ BK196.out
        go_wp2
        go_ret
        exact ⟨m5_, m24_⟩
      ·rw [if_neg c43] at H
       have c43b0 : (a0_1 == 3) = false := beq_eq_false_iff_ne.mpr c43
       have c43b1 : (a0_1 != 3) = true := bne_iff_ne.mpr c43
       have HC53 := Aside0.mk H
       clear H
       obtain ⟨hcz54_0, hcz54_1, hcz54_2, hcz54_3, hcz54_4, hcz54_5, hcz54_6, hcz54_7⟩ := cz8_ BK196.out
       obtain ⟨hfz54_0, hfz54_1, hfz54_2, hfz54_3, hfz54_4, hfz54_5, hfz54_6, hfz54_7⟩ := fz8_ BK196.out
       go_upto_if 58 with (fail)
       go_cut [58] (fun v58 wc => ∃ (kq : Nat) (x58_52 : Bool), v58 = .bool x58_52 ∧ Aside0 (impl_RecPhaseOk.j1 kq false x58_52 a0_0 a0_1 a0_2 a0_3 a0_4 a0_5 a0_6 a0_7 = some r) ∧ Aside0 (kq ≤ kj1) ∧ Aside0 (wc.heap[gb196]? = some (.cells #[.string a0_0, .int .i64 a0_1, .string a0_2, .string a0_3, .int .i64 a0_4, .int .i64 a0_5, .string a0_6, .string a0_7] 44 (0, 0))) ∧ Aside0 (Below w.heap.size w wc))
       case first =>
        have H := HC53.out
        clear HC53
        by_cases c55 : a0_1 = 4
        ·rw [if_pos c55] at H
         have c55b0 : (a0_1 == 4) = true := beq_iff_eq.mpr c55
         have c55b1 : (a0_1 != 4) = false := bne_eq_false_iff_eq.mpr c55
         clear c55
         (first | rw [c55b0] | (simp only [i64_w, i32_w]; rw [c55b0]) | skip)
         have H' := Aside0.mk H
         clear H
         go_wp2
         go_meet
         case rel => exact ⟨_, ((a0_1 == 4)), m14_, H', ⟨(by have := HJ1.out; first | omega | exact Nat.le_refl _)⟩, ⟨m43_⟩, ⟨m24_⟩⟩
        ·rw [if_neg c55] at H
         have c55b0 : (a0_1 == 4) = false := beq_eq_false_iff_ne.mpr c55
         have c55b1 : (a0_1 != 4) = true := bne_iff_ne.mpr c55
         (first | rw [c55b0] | (simp only [i64_w, i32_w]; rw [c55b0]) | skip)
         have H' := Aside0.mk H
         clear H
         go_wp2
         go_meet
         case rel => exact ⟨_, ((a0_1 == 5)), m14_, H', ⟨(by have := HJ1.out; first | omega | exact Nat.le_refl _)⟩, ⟨m43_⟩, ⟨m24_⟩⟩
       case rest =>
        clear HC53
        try clear c1
        try clear c2
        try clear p2
        try clear c3
        try clear c4
        try clear c5
        try clear c6
        try clear c7
        try clear c7b0
        try clear c7b1
        try clear c8
        try clear c8b0
        try clear c10
        try clear c10b0
        try clear c13
        try clear c15
        try clear c22
        try clear c23
        try clear c23b0
        try clear c23b1
        try clear c25
        try clear c26
        try clear c26b0
        try clear c27
        try clear c27b0
        try clear c32
        try clear c32b0
        try clear c32b1
        try clear c33
        try clear c33b0
        try clear c33b1
        try clear c36
        try clear c37
        try clear c37b0
        try clear c38
        try clear c38b0
        try clear c43
        try clear c43b0
        try clear c43b1
        try clear c44
        try clear c44b0
        try clear c44b1
        try clear c45
        try clear c45b0
        try clear c46
        try clear c46b0
        try clear c48
        try clear c48b0
        try clear c48b1
        try clear c55
        try clear c55b0
        try clear c55b1
        try clear hcz11_0
        try clear hcz11_1
        try clear hcz11_2
        try clear hcz11_3
        try clear hcz11_4
        try clear hcz11_5
        try clear hcz11_6
        try clear hcz11_7
        try clear hcz17_0
        try clear hcz17_1
        try clear hcz17_2
        try clear hcz17_3
        try clear hcz17_4
        try clear hcz17_5
        try clear hcz17_6
        try clear hcz17_7
        try clear hcz18_0
        try clear hcz18_1
        try clear hcz18_2
        try clear hcz18_3
        try clear hcz18_4
        try clear hcz18_5
        try clear hcz18_6
        try clear hcz18_7
        try clear hcz19_0
        try clear hcz19_1
        try clear hcz19_2
        try clear hcz19_3
        try clear hcz19_4
        try clear hcz19_5
        try clear hcz19_6
        try clear hcz19_7
        try clear hcz20_0
        try clear hcz20_1
        try clear hcz20_2
        try clear hcz20_3
        try clear hcz20_4
        try clear hcz20_5
        try clear hcz20_6
        try clear hcz20_7
        try clear hcz21_0
        try clear hcz21_1
        try clear hcz21_2
        try clear hcz21_3
        try clear hcz21_4
        try clear hcz21_5
        try clear hcz21_6
        try clear hcz21_7
        try clear hcz28_0
        try clear hcz28_1
        try clear hcz28_2
        try clear hcz28_3
        try clear hcz28_4
        try clear hcz28_5
        try clear hcz28_6
        try clear hcz28_7
        try clear hcz29_0
        try clear hcz29_1
        try clear hcz29_2
        try clear hcz29_3
        try clear hcz29_4
        try clear hcz29_5
        try clear hcz29_6
        try clear hcz29_7
        try clear hcz30_0
        try clear hcz30_1
        try clear hcz30_2
        try clear hcz30_3
        try clear hcz30_4
        try clear hcz30_5
        try clear hcz30_6
        try clear hcz30_7
        try clear hcz31_0
        try clear hcz31_1
        try clear hcz31_2
        try clear hcz31_3
        try clear hcz31_4
        try clear hcz31_5
        try clear hcz31_6
        try clear hcz31_7
        try clear hcz34_0
        try clear hcz34_1
        try clear hcz34_2
        try clear hcz34_3
        try clear hcz34_4
        try clear hcz34_5
        try clear hcz34_6
        try clear hcz34_7
        try clear hcz39_0
        try clear hcz39_1
        try clear hcz39_2
        try clear hcz39_3
        try clear hcz39_4
        try clear hcz39_5
        try clear hcz39_6
        try clear hcz39_7
        try clear hcz40_0
        try clear hcz40_1
        try clear hcz40_2
        try clear hcz40_3
        try clear hcz40_4
        try clear hcz40_5
        try clear hcz40_6
        try clear hcz40_7
        try clear hcz41_0
        try clear hcz41_1
        try clear hcz41_2
        try clear hcz41_3
        try clear hcz41_4
        try clear hcz41_5
        try clear hcz41_6
        try clear hcz41_7
        try clear hcz42_0
        try clear hcz42_1
        try clear hcz42_2
        try clear hcz42_3
        try clear hcz42_4
        try clear hcz42_5
        try clear hcz42_6
        try clear hcz42_7
        try clear hcz47_0
        try clear hcz47_1
        try clear hcz47_2
        try clear hcz47_3
        try clear hcz47_4
        try clear hcz47_5
        try clear hcz47_6
        try clear hcz47_7
        try clear hcz49_0
        try clear hcz49_1
        try clear hcz49_2
        try clear hcz49_3
        try clear hcz49_4
        try clear hcz49_5
        try clear hcz49_6
        try clear hcz49_7
        try clear hcz50_0
        try clear hcz50_1
        try clear hcz50_2
        try clear hcz50_3
        try clear hcz50_4
        try clear hcz50_5
        try clear hcz50_6
        try clear hcz50_7
        try clear hcz51_0
        try clear hcz51_1
        try clear hcz51_2
        try clear hcz51_3
        try clear hcz51_4
        try clear hcz51_5
        try clear hcz51_6
        try clear hcz51_7
        try clear hcz52_0
        try clear hcz52_1
        try clear hcz52_2
        try clear hcz52_3
        try clear hcz52_4
        try clear hcz52_5
        try clear hcz52_6
        try clear hcz52_7
        try clear hcz54_0
        try clear hcz54_1
        try clear hcz54_2
        try clear hcz54_3
        try clear hcz54_4
        try clear hcz54_5
        try clear hcz54_6
        try clear hcz54_7
        try clear hcz9_0
        try clear hcz9_1
        try clear hcz9_2
        try clear hcz9_3
        try clear hcz9_4
        try clear hcz9_5
        try clear hcz9_6
        try clear hcz9_7
        try clear hfz11_0
        try clear hfz11_1
        try clear hfz11_2
        try clear hfz11_3
        try clear hfz11_4
        try clear hfz11_5
        try clear hfz11_6
        try clear hfz11_7
        try clear hfz17_0
        try clear hfz17_1
        try clear hfz17_2
        try clear hfz17_3
        try clear hfz17_4
        try clear hfz17_5
        try clear hfz17_6
        try clear hfz17_7
        try clear hfz18_0
        try clear hfz18_1
        try clear hfz18_2
        try clear hfz18_3
        try clear hfz18_4
        try clear hfz18_5
        try clear hfz18_6
        try clear hfz18_7
        try clear hfz19_0
        try clear hfz19_1
        try clear hfz19_2
        try clear hfz19_3
        try clear hfz19_4
        try clear hfz19_5
        try clear hfz19_6
        try clear hfz19_7
        try clear hfz20_0
        try clear hfz20_1
        try clear hfz20_2
        try clear hfz20_3
        try clear hfz20_4
        try clear hfz20_5
        try clear hfz20_6
        try clear hfz20_7
        try clear hfz21_0
        try clear hfz21_1
        try clear hfz21_2
        try clear hfz21_3
        try clear hfz21_4
        try clear hfz21_5
        try clear hfz21_6
        try clear hfz21_7
        try clear hfz28_0
        try clear hfz28_1
        try clear hfz28_2
        try clear hfz28_3
        try clear hfz28_4
        try clear hfz28_5
        try clear hfz28_6
        try clear hfz28_7
        try clear hfz29_0
        try clear hfz29_1
        try clear hfz29_2
        try clear hfz29_3
        try clear hfz29_4
        try clear hfz29_5
        try clear hfz29_6
        try clear hfz29_7
        try clear hfz30_0
        try clear hfz30_1
        try clear hfz30_2
        try clear hfz30_3
        try clear hfz30_4
        try clear hfz30_5
        try clear hfz30_6
        try clear hfz30_7
        try clear hfz31_0
        try clear hfz31_1
        try clear hfz31_2
        try clear hfz31_3
        try clear hfz31_4
        try clear hfz31_5
        try clear hfz31_6
        try clear hfz31_7
        try clear hfz34_0
        try clear hfz34_1
        try clear hfz34_2
        try clear hfz34_3
        try clear hfz34_4
        try clear hfz34_5
        try clear hfz34_6
        try clear hfz34_7
        try clear hfz39_0
        try clear hfz39_1
        try clear hfz39_2
        try clear hfz39_3
        try clear hfz39_4
        try clear hfz39_5
        try clear hfz39_6
        try clear hfz39_7
        try clear hfz40_0
        try clear hfz40_1
        try clear hfz40_2
        try clear hfz40_3
        try clear hfz40_4
        try clear hfz40_5
        try clear hfz40_6
        try clear hfz40_7
        try clear hfz41_0
        try clear hfz41_1
        try clear hfz41_2
        try clear hfz41_3
        try clear hfz41_4
        try clear hfz41_5
        try clear hfz41_6
        try clear hfz41_7
        try clear hfz42_0
        try clear hfz42_1
        try clear hfz42_2
        try clear hfz42_3
        try clear hfz42_4
        try clear hfz42_5
        try clear hfz42_6
        try clear hfz42_7
        try clear hfz47_0
        try clear hfz47_1
        try clear hfz47_2
        try clear hfz47_3
        try clear hfz47_4
        try clear hfz47_5
        try clear hfz47_6
        try clear hfz47_7
        try clear hfz49_0
        try clear hfz49_1
        try clear hfz49_2
        try clear hfz49_3
        try clear hfz49_4
        try clear hfz49_5
        try clear hfz49_6
        try clear hfz49_7
        try clear hfz50_0
        try clear hfz50_1
        try clear hfz50_2
        try clear hfz50_3
        try clear hfz50_4
        try clear hfz50_5
        try clear hfz50_6
        try clear hfz50_7
        try clear hfz51_0
        try clear hfz51_1
        try clear hfz51_2
        try clear hfz51_3
        try clear hfz51_4
        try clear hfz51_5
        try clear hfz51_6
        try clear hfz51_7
        try clear hfz52_0
        try clear hfz52_1
        try clear hfz52_2
        try clear hfz52_3
        try clear hfz52_4
        try clear hfz52_5
        try clear hfz52_6
        try clear hfz52_7
        try clear hfz54_0
        try clear hfz54_1
        try clear hfz54_2
        try clear hfz54_3
        try clear hfz54_4
        try clear hfz54_5
        try clear hfz54_6
        try clear hfz54_7
        try clear hfz9_0
        try clear hfz9_1
        try clear hfz9_2
        try clear hfz9_3
        try clear hfz9_4
        try clear hfz9_5
        try clear hfz9_6
        try clear hfz9_7
        try clear p2
        obtain ⟨kq, x58_52, rfl, HA, HJ52, BK196, HB⟩ := hcut
        cases kq with
        | zero => exact absurd HA.out (by simp [impl_RecPhaseOk.j1])
        | succ kj52 =>
         have H := HA.out
         clear HA
         simp only [impl_RecPhaseOk.j1] at H
         refine (Classical.em (x58_52 = true)).elim (fun c56 => ?yes90) (fun c56 => ?no90)
         case' yes90 =>
          subst c56
          have H1 : (if false = true then ((impl_isName.f kj52 a0_3).bind fun t204 => (if t204 = true then (if a0_4 ≤ 0 then (if a0_4 ≥ 1 then (some true) else (some (a0_4 == 0))) else (some false)) else (some false))) else (if a0_3.toList = ([] : List UInt8) then (if a0_4 ≤ 0 then (if a0_4 ≥ 1 then (some true) else (some (a0_4 == 0))) else (some false)) else (some false))) = some r := by rw [if_pos rfl] at H; exact H
          clear H
          have H := H1
          clear H1
          have H1 : (if a0_3.toList = ([] : List UInt8) then (if a0_4 ≤ 0 then (if a0_4 ≥ 1 then (some true) else (some (a0_4 == 0))) else (some false)) else (some false)) = some r := by rw [if_neg (by decide)] at H; exact H
          clear H
          have H := H1
          clear H1
          refine (Classical.em (a0_3.toList = ([] : List UInt8))).elim (fun c57 => ?yes91) (fun c57 => ?no91)
          case' yes91 =>
           rw [if_pos c57] at H
           have c57b0 : (a0_3.toList == ([] : List UInt8)) = true := beq_iff_eq.mpr c57
           have c57b1 : (a0_3.toList != ([] : List UInt8)) = false := bne_eq_false_iff_eq.mpr c57
           clear c57
           refine (Classical.em (a0_4 ≤ 0)).elim (fun c58 => ?yes92) (fun c58 => ?no92)
           case' yes92 =>
            rw [if_pos c58] at H
            have c58b0 : decide (a0_4 ≤ 0) = true := decide_eq_true c58
            clear c58
            refine (Classical.em (a0_4 ≥ 1)).elim (fun c59 => ?yes93) (fun c59 => ?no93)
            case' yes93 =>
             rw [if_pos c59] at H
             have c59b0 : decide (1 ≤ a0_4) = true := decide_eq_true c59
             clear c59
             obtain rfl := Option.some.inj H
            case' no93 =>
             rw [if_neg c59] at H
             have c59b0 : decide (1 ≤ a0_4) = false := decide_eq_false c59
             clear c59
             obtain rfl := Option.some.inj H
           case' no92 =>
            rw [if_neg c58] at H
            have c58b0 : decide (a0_4 ≤ 0) = false := decide_eq_false c58
            clear c58
            obtain rfl := Option.some.inj H
          case' no91 =>
           rw [if_neg c57] at H
           have c57b0 : (a0_3.toList == ([] : List UInt8)) = false := beq_eq_false_iff_ne.mpr c57
           have c57b1 : (a0_3.toList != ([] : List UInt8)) = true := bne_iff_ne.mpr c57
           obtain rfl := Option.some.inj H
         case' no90 =>
          replace c56 := Bool.eq_false_iff.mpr c56
          subst c56
          have H1 : (some false) = some r := by rw [if_neg (show ¬ (false = true) by decide)] at H; exact H
          clear H
          have H := H1
          clear H1
          obtain rfl := Option.some.inj H
         all_goals
          first
           | (
            obtain ⟨hcz60_0, hcz60_1, hcz60_2, hcz60_3, hcz60_4, hcz60_5, hcz60_6, hcz60_7⟩ := cz8_ BK196.out
            obtain ⟨hfz60_0, hfz60_1, hfz60_2, hfz60_3, hfz60_4, hfz60_5, hfz60_6, hfz60_7⟩ := fz8_ BK196.out
            go_wp2
            go_ret
            exact ⟨m5_, m24_⟩)
           | (
            go_wp2
            go_ret
            exact ⟨m5_, m24_⟩)

end Go.Proofs.Ytpihcdbkdldbcaa.QFnExactRecGo
namespace Go.Proofs.Ytpihcdbkdldbcaa.QFnExactRecGo
open Go.RowKit Go.Proofs.YtpihcdbkdldbcaaW.PrintWords Go.Proofs.YtpihcdbkdldbcaaW.PrintLast Go.Proofs.YtpihcdbkdldbcaaW.PrintMore
attribute [local go_sem] str_geq str_gtr str_leq max2_int min2_int max_two min_two max_three min_three max_four min_four   -- for this text's walks alone
set_option linter.unusedVariables false
set_option linter.unusedSimpArgs false
mutual
def impl_RecOk.j0 : Nat → List (S44) → Bool → Option (Bool)
 | 0, _, _ => none
 | k + 1, x0, x16 => if x16 = true then (some false) else (impl_RecOk.l0 k x0 x0 (x0.length : Int) 0)
def impl_RecOk.l0 : Nat → List (S44) → List (S44) → Int → Int → Option (Bool)
 | 0, _, _, _, _ => none
 | k + 1, x0, x17, x18, x19 => if x19 < x18 then (if 0 ≤ x19 then (if x19 < (x17.length : Int) then ((impl_RecPhaseOk.f k ((rd_T44 x17 x19).f0) ((rd_T44 x17 x19).f1) ((rd_T44 x17 x19).f2) ((rd_T44 x17 x19).f3) ((rd_T44 x17 x19).f4) ((rd_T44 x17 x19).f5) ((rd_T44 x17 x19).f6) ((rd_T44 x17 x19).f7)).bind fun t207 => (if t207 = true then ((impl_phase.f k x0 ((rd_T44 x17 x19).f0)).bind fun t208 => (if t208 = x19 then (impl_RecOk.l0 k x0 x17 x18 (wrap64 (x19 + 1))) else (some false))) else (some false))) else (none)) else (none)) else (impl_RecOk.l1 k x0 x0 (x0.length : Int) 0)
def impl_RecOk.l1 : Nat → List (S44) → List (S44) → Int → Int → Option (Bool)
 | 0, _, _, _, _ => none
 | k + 1, x0, x36, x37, x38 => if x38 < x37 then (if 0 ≤ x38 then (if x38 < (x36.length : Int) then ((some (([(rd_T44 x36 x38).f6, (rd_T44 x36 x38).f7] : List ByteArray) : List ByteArray)).bind fun y211 => (impl_RecOk.l2 k x0 x38 x36 x37 x38 y211 (y211.length : Int) 0)) else (none)) else (none)) else (some true)
def impl_RecOk.l2 : Nat → List (S44) → Int → List (S44) → Int → Int → List ByteArray → Int → Int → Option (Bool)
 | 0, _, _, _, _, _, _, _, _ => none
 | k + 1, x0, x5, x36, x37, x38, x47, x48, x49 => if x49 < x48 then (if 0 ≤ x49 then (if x49 < (x47.length : Int) then ((impl_RecEnd.f (rdOf ByteArray.empty x47 x49)).bind fun t215 => (if t215 = 0 then ((impl_phase.f k x0 (rdOf ByteArray.empty x47 x49)).bind fun t216 => (if t216 ≤ x5 then (some false) else (impl_RecOk.l2 k x0 x5 x36 x37 x38 x47 x48 (wrap64 (x49 + 1))))) else (impl_RecOk.l2 k x0 x5 x36 x37 x38 x47 x48 (wrap64 (x49 + 1))))) else (none)) else (none)) else (impl_RecOk.l1 k x0 x36 x37 (wrap64 (x38 + 1)))
end
def impl_RecOk.f (k : Nat) (l0 : List (S44)) : Option (Bool) := if (l0.length : Int) < 1 then (impl_RecOk.j0 k l0 true) else (impl_RecOk.j0 k l0 (decide ((l0.length : Int) > 12)))
theorem impl_RecOk.mono_l : ∀ k, (∀ y0 y1, LeO (impl_RecOk.j0 k y0 y1) (impl_RecOk.j0 (k + 1) y0 y1)) ∧ (∀ y0 y1 y2 y3, LeO (impl_RecOk.l0 k y0 y1 y2 y3) (impl_RecOk.l0 (k + 1) y0 y1 y2 y3)) ∧ (∀ y0 y1 y2 y3, LeO (impl_RecOk.l1 k y0 y1 y2 y3) (impl_RecOk.l1 (k + 1) y0 y1 y2 y3)) ∧ (∀ y0 y1 y2 y3 y4 y5 y6 y7, LeO (impl_RecOk.l2 k y0 y1 y2 y3 y4 y5 y6 y7) (impl_RecOk.l2 (k + 1) y0 y1 y2 y3 y4 y5 y6 y7))
 | 0 => ⟨fun _ _ r h => by simp [impl_RecOk.j0] at h, fun _ _ _ _ r h => by simp [impl_RecOk.l0] at h, fun _ _ _ _ r h => by simp [impl_RecOk.l1] at h, fun _ _ _ _ _ _ _ _ r h => by simp [impl_RecOk.l2] at h⟩
 | k + 1 => by
  obtain ⟨ih0, ih1, ih2, ih3⟩ := impl_RecOk.mono_l k
  refine ⟨?_, ?_, ?_, ?_⟩
  ·intro y0 y1
   unfold impl_RecOk.j0
   repeat' first
   | (with_reducible exact ih0 _ _)
   | (with_reducible exact ih1 _ _ _ _)
   | (with_reducible exact ih2 _ _ _ _)
   | (with_reducible exact ih3 _ _ _ _ _ _ _ _)
   | (with_reducible exact impl_RecPhaseOk.mono _ _ _ _ _ _ _ _ _)
   | (with_reducible exact impl_phase.mono _ _ _)
   | (with_reducible exact LeO.refl _)
   | (with_reducible exact LeO.none _)
   | (with_reducible refine LeO.ite ?_ ?_)
   | (with_reducible refine LeO.bind ?_ (fun _ => ?_))
   | exact ih0 _ _
   | exact ih1 _ _ _ _
   | exact ih2 _ _ _ _
   | exact ih3 _ _ _ _ _ _ _ _
   | exact impl_RecPhaseOk.mono _ _ _ _ _ _ _ _ _
   | exact impl_phase.mono _ _ _
   | exact LeO.none _
   | refine LeO.ite ?_ ?_
   | refine LeO.bind ?_ (fun _ => ?_)
  ·intro y0 y1 y2 y3
   unfold impl_RecOk.l0
   repeat' first
   | (with_reducible exact ih0 _ _)
   | (with_reducible exact ih1 _ _ _ _)
   | (with_reducible exact ih2 _ _ _ _)
   | (with_reducible exact ih3 _ _ _ _ _ _ _ _)
   | (with_reducible exact impl_RecPhaseOk.mono _ _ _ _ _ _ _ _ _)
   | (with_reducible exact impl_phase.mono _ _ _)
   | (with_reducible exact LeO.refl _)
   | (with_reducible exact LeO.none _)
   | (with_reducible refine LeO.ite ?_ ?_)
   | (with_reducible refine LeO.bind ?_ (fun _ => ?_))
   | exact ih0 _ _
   | exact ih1 _ _ _ _
   | exact ih2 _ _ _ _
   | exact ih3 _ _ _ _ _ _ _ _
   | exact impl_RecPhaseOk.mono _ _ _ _ _ _ _ _ _
   | exact impl_phase.mono _ _ _
   | exact LeO.none _
   | refine LeO.ite ?_ ?_
   | refine LeO.bind ?_ (fun _ => ?_)
  ·intro y0 y1 y2 y3
   unfold impl_RecOk.l1
   repeat' first
   | (with_reducible exact ih0 _ _)
   | (with_reducible exact ih1 _ _ _ _)
   | (with_reducible exact ih2 _ _ _ _)
   | (with_reducible exact ih3 _ _ _ _ _ _ _ _)
   | (with_reducible exact impl_RecPhaseOk.mono _ _ _ _ _ _ _ _ _)
   | (with_reducible exact impl_phase.mono _ _ _)
   | (with_reducible exact LeO.refl _)
   | (with_reducible exact LeO.none _)
   | (with_reducible refine LeO.ite ?_ ?_)
   | (with_reducible refine LeO.bind ?_ (fun _ => ?_))
   | exact ih0 _ _
   | exact ih1 _ _ _ _
   | exact ih2 _ _ _ _
   | exact ih3 _ _ _ _ _ _ _ _
   | exact impl_RecPhaseOk.mono _ _ _ _ _ _ _ _ _
   | exact impl_phase.mono _ _ _
   | exact LeO.none _
   | refine LeO.ite ?_ ?_
   | refine LeO.bind ?_ (fun _ => ?_)
  ·intro y0 y1 y2 y3 y4 y5 y6 y7
   unfold impl_RecOk.l2
   repeat' first
   | (with_reducible exact ih0 _ _)
   | (with_reducible exact ih1 _ _ _ _)
   | (with_reducible exact ih2 _ _ _ _)
   | (with_reducible exact ih3 _ _ _ _ _ _ _ _)
   | (with_reducible exact impl_RecPhaseOk.mono _ _ _ _ _ _ _ _ _)
   | (with_reducible exact impl_phase.mono _ _ _)
   | (with_reducible exact LeO.refl _)
   | (with_reducible exact LeO.none _)
   | (with_reducible refine LeO.ite ?_ ?_)
   | (with_reducible refine LeO.bind ?_ (fun _ => ?_))
   | exact ih0 _ _
   | exact ih1 _ _ _ _
   | exact ih2 _ _ _ _
   | exact ih3 _ _ _ _ _ _ _ _
   | exact impl_RecPhaseOk.mono _ _ _ _ _ _ _ _ _
   | exact impl_phase.mono _ _ _
   | exact LeO.none _
   | refine LeO.ite ?_ ?_
   | refine LeO.bind ?_ (fun _ => ?_)
theorem impl_RecOk.mono : ∀ a0 k, LeO (impl_RecOk.f k a0) (impl_RecOk.f (k + 1) a0) := by
 intro a0 k
 obtain ⟨ih0, ih1, ih2, ih3⟩ := impl_RecOk.mono_l k
 unfold impl_RecOk.f
 repeat' first
   | (with_reducible exact ih0 _ _)
   | (with_reducible exact ih1 _ _ _ _)
   | (with_reducible exact ih2 _ _ _ _)
   | (with_reducible exact ih3 _ _ _ _ _ _ _ _)
   | (with_reducible exact impl_RecPhaseOk.mono _ _ _ _ _ _ _ _ _)
   | (with_reducible exact impl_phase.mono _ _ _)
   | (with_reducible exact LeO.refl _)
   | (with_reducible exact LeO.none _)
   | (with_reducible refine LeO.ite ?_ ?_)
   | (with_reducible refine LeO.bind ?_ (fun _ => ?_))
   | exact ih0 _ _
   | exact ih1 _ _ _ _
   | exact ih2 _ _ _ _
   | exact ih3 _ _ _ _ _ _ _ _
   | exact impl_RecPhaseOk.mono _ _ _ _ _ _ _ _ _
   | exact impl_phase.mono _ _ _
   | exact LeO.none _
   | refine LeO.ite ?_ ?_
   | refine LeO.bind ?_ (fun _ => ?_)
set_option maxHeartbeats 8000000 in
set_option maxRecDepth 100000 in
theorem impl_RecOk.calls (k : Nat) (A0 : Option Addr) (c0 : Nat) (l0 : List (S44)) (r : Bool) (w : World) (hr0 : Kd.C k44 w A0 l0.length l0) (hc0 : l0.length ≤ c0) (h : impl_RecOk.f k l0 = some r) :
  Calls Try.prog 35 #[.slice A0 l0.length c0] w fun e w' => e = .returned (.bool r) ∧ Below w.heap.size w w' := by
 have hu44 := Try.underlying44
 have HR0 := Aside0.mk hr0
 have HC0 := Aside0.mk hc0
 clear hr0 hc0
 have HB := Aside0.mk (Below.refl w.heap.size w)
 have H : (if (l0.length : Int) < 1 then (impl_RecOk.j0 k l0 true) else (impl_RecOk.j0 k l0 (decide ((l0.length : Int) > 12)))) = some r := h
 clear h
 have HC2 := Aside0.mk H
 clear H
 go_enter Try.func35, Try.ntmps35
 go_upto_region 1 with (fail)
 go_cut [16] (fun v16 wc => ∃ (kq : Nat) (x16_1 : Bool), v16 = .bool x16_1 ∧ Aside0 (impl_RecOk.j0 kq l0 x16_1 = some r) ∧ Aside0 (kq ≤ k) ∧ Aside0 (Below w.heap.size w wc))
 case first =>
  have H := HC2.out
  clear HC2
  by_cases c3 : (l0.length : Int) < 1
  ·rw [if_pos c3] at H
   have c3b0 : decide ((l0.length : Int) < 1) = true := decide_eq_true c3
   have c3b1 : decide (l0.length < 1) = true := decide_eq_true (by omega)
   clear c3
   (first | rw [c3b0] | (simp only [i64_w, i32_w]; rw [c3b0]) | skip)
   have H' := Aside0.mk H
   clear H
   go_wp2
   go_meet
   case rel => exact ⟨_, (true), m14_, H', ⟨m54_⟩, ⟨m0_⟩⟩
  ·rw [if_neg c3] at H
   have c3b0 : decide ((l0.length : Int) < 1) = false := decide_eq_false c3
   have c3b1 : decide (l0.length < 1) = false := decide_eq_false (by omega)
   clear c3
   (first | rw [c3b0] | (simp only [i64_w, i32_w]; rw [c3b0]) | skip)
   have H' := Aside0.mk H
   clear H
   go_wp2
   go_meet
   case rel => exact ⟨_, (decide ((l0.length : Int) > 12)), m14_, H', ⟨m54_⟩, ⟨m0_⟩⟩
 case rest =>
  clear HC2
  try clear p2
  try clear c3
  try clear c3b0
  try clear c3b1
  obtain ⟨kq, x16_1, rfl, HA, HJ1, HB⟩ := hcut
  cases kq with
  | zero => exact absurd HA.out (by simp [impl_RecOk.j0])
  | succ kj1 =>
   have H := HA.out
   clear HA
   simp only [impl_RecOk.j0] at H
   by_cases c4 : x16_1 = true
   ·subst c4
    have H1 : (some false) = some r := by rw [if_pos rfl] at H; exact H
    clear H
    have H := H1
    clear H1
    obtain rfl := Option.some.inj H
    go_wp2
    go_ret
    exact ⟨m5_, m0_⟩
   ·replace c4 := Bool.eq_false_iff.mpr c4
    subst c4
    have H1 : (impl_RecOk.l0 kj1 l0 l0 (l0.length : Int) 0) = some r := by rw [if_neg (show ¬ (false = true) by decide)] at H; exact H
    clear H
    have H := H1
    clear H1
    have H' := Aside0.mk H
    clear H
    go_wp2
    go_loopg [19] kj1 (fun kq v19 w' => ∃ (x19_2 : Int), v19 = .int .i64 x19_2 ∧ Aside0 (impl_RecOk.l0 kq l0 l0 (l0.length : Int) x19_2 = some r) ∧ Aside0 (kq ≤ kj1) ∧ Aside0 (Below w.heap.size w w'))
    case atStart => exact ⟨(0), m14_, H', ⟨Nat.le_refl _⟩, ⟨m0_⟩⟩
    case round =>
     clear H'
     try clear p2
     try clear c3
     try clear c3b0
     try clear c3b1
     try clear c4
     try clear p2
     obtain ⟨x19_2, rfl, HA, HK2, HB⟩ := hrel
     cases gk with
     | zero => exact absurd HA.out (by simp [impl_RecOk.l0])
     | succ k2 =>
      have H := HA.out
      clear HA
      simp only [impl_RecOk.l0] at H
      by_cases c5 : x19_2 < (l0.length : Int)
      ·rw [if_pos c5] at H
       have c5b0 : decide (x19_2 < (l0.length : Int)) = true := decide_eq_true c5
       clear c5
       by_cases c6 : 0 ≤ x19_2
       ·rw [if_pos c6] at H
        have c6b0 : decide (0 ≤ x19_2) = true := decide_eq_true c6
        clear c6
        by_cases c7 : x19_2 < (l0.length : Int)
        ·rw [if_pos c7] at H
         have c7b0 : decide (x19_2 < (l0.length : Int)) = true := decide_eq_true c7
         clear c7
         replace H := Option.bind_eq_some_iff.mp H
         obtain ⟨t207, A80, H⟩ := H
         replace H : (if t207 = true then ((impl_phase.f k2 l0 ((rd_T44 l0 x19_2).f0)).bind fun t208 => (if t208 = x19_2 then (impl_RecOk.l0 k2 l0 l0 (l0.length : Int) (wrap64 (x19_2 + 1))) else (some false))) else (some false)) = some r := H
         have A8 := Aside0.mk A80
         clear A80
         by_cases c9 : t207 = true
         ·subst c9
          have H1 : ((impl_phase.f k2 l0 ((rd_T44 l0 x19_2).f0)).bind fun t208 => (if t208 = x19_2 then (impl_RecOk.l0 k2 l0 l0 (l0.length : Int) (wrap64 (x19_2 + 1))) else (some false))) = some r := by rw [if_pos rfl] at H; exact H
          clear H
          have H := H1
          clear H1
          replace H := Option.bind_eq_some_iff.mp H
          obtain ⟨t208, A100, H⟩ := H
          replace H : (if t208 = x19_2 then (impl_RecOk.l0 k2 l0 l0 (l0.length : Int) (wrap64 (x19_2 + 1))) else (some false)) = some r := H
          have A10 := Aside0.mk A100
          clear A100
          by_cases c11 : t208 = x19_2
          ·rw [if_pos c11] at H
           have c11b0 : (t208 == x19_2) = true := beq_iff_eq.mpr c11
           have c11b1 : (t208 != x19_2) = false := bne_eq_false_iff_eq.mpr c11
           clear c11
           have H' := Aside0.mk H
           clear H
           have p205 : 0 ≤ (x19_2 : Int) := of_decide_eq_true m6_
           have q205 : x19_2 < (l0.length : Int) := of_decide_eq_true m6_
           obtain ⟨ad205, e205, hx205_0, hx205_1, hx205_2, hx205_3, hx205_4, hx205_5, hx205_6, hx205_7⟩ := at_T44 HR0.out x19_2 p205 q205
           cases e205
           replace hx205_0 := (HB.out.cell (World.block_lt_of_cell? w _ hx205_0)).trans hx205_0
           replace hx205_1 := (HB.out.cell (World.block_lt_of_cell? w _ hx205_1)).trans hx205_1
           replace hx205_2 := (HB.out.cell (World.block_lt_of_cell? w _ hx205_2)).trans hx205_2
           replace hx205_3 := (HB.out.cell (World.block_lt_of_cell? w _ hx205_3)).trans hx205_3
           replace hx205_4 := (HB.out.cell (World.block_lt_of_cell? w _ hx205_4)).trans hx205_4
           replace hx205_5 := (HB.out.cell (World.block_lt_of_cell? w _ hx205_5)).trans hx205_5
           replace hx205_6 := (HB.out.cell (World.block_lt_of_cell? w _ hx205_6)).trans hx205_6
           replace hx205_7 := (HB.out.cell (World.block_lt_of_cell? w _ hx205_7)).trans hx205_7
           replace p205 := eq_true p205
           replace q205 := eq_true q205
           go_wp2_with (first | ((with_reducible refine gate_dst (N := 4) rfl ?_); (try (refine gate_guard (by rfl) ?_; dsimp only)); refine box_event ?hg (N := 4) ?hd (cs := #[.string (⟨#[]⟩ : ByteArray), .int .i64 0, .string (⟨#[]⟩ : ByteArray), .string (⟨#[]⟩ : ByteArray), .int .i64 0, .int .i64 0, .string (⟨#[]⟩ : ByteArray), .string (⟨#[]⟩ : ByteArray)]) (t := 44) ?hr ?_; (case hd => rfl); (case hg => rfl); (case hr => first | (go_simp; done) | (go_simp; rfl)); intro gb206 hg w12 hbox hb; have n0_ := Aside0.mk (below_step m0_ hb); have n1_ := Aside0.mk (hbox); have n2_ := Aside0.mk ((by rw [hg]; exact (below_size m0_) : w.heap.size ≤ gb206)); have n3_ := Aside0.mk ((by rw [hg]; exact (below_size m0_) : w.heap.size ≤ gb206)); clear HB; have HB := n0_; have BK206 := n1_; have GW206 := n2_; have GE206 := n3_; clear n0_ n1_ n2_ n3_; clear hb hbox hg; obtain ⟨hcz13_0, hcz13_1, hcz13_2, hcz13_3, hcz13_4, hcz13_5, hcz13_6, hcz13_7⟩ := cz8_ BK206.out; obtain ⟨hfz13_0, hfz13_1, hfz13_2, hfz13_3, hfz13_4, hfz13_5, hfz13_6, hfz13_7⟩ := fz8_ BK206.out) | ((with_reducible refine gate_callee (f := 54) rfl ?_); refine goesL_ (some 25) rfl rfl Try.func54 (by kernel_rfl) rfl #[.agg #[.string ((rd_T44 l0 x19_2).f0), .int .i64 ((rd_T44 l0 x19_2).f1), .string ((rd_T44 l0 x19_2).f2), .string ((rd_T44 l0 x19_2).f3), .int .i64 ((rd_T44 l0 x19_2).f4), .int .i64 ((rd_T44 l0 x19_2).f5), .string ((rd_T44 l0 x19_2).f6), .string ((rd_T44 l0 x19_2).f7)]] rfl m1_ ?_; (with_reducible refine (impl_RecPhaseOk.calls k2 ((rd_T44 l0 x19_2).f0) ((rd_T44 l0 x19_2).f1) ((rd_T44 l0 x19_2).f2) ((rd_T44 l0 x19_2).f3) ((rd_T44 l0 x19_2).f4) ((rd_T44 l0 x19_2).f5) ((rd_T44 l0 x19_2).f6) ((rd_T44 l0 x19_2).f7) true _ A8.out).mono ?_); rintro e w14 ⟨rfl, hb⟩; refine ⟨_, rfl, ?_⟩; have n0_ := Aside0.mk (blk_below (g := gb206) (o := .cells #[.string ((rd_T44 l0 x19_2).f0), .int .i64 ((rd_T44 l0 x19_2).f1), .string ((rd_T44 l0 x19_2).f2), .string ((rd_T44 l0 x19_2).f3), .int .i64 ((rd_T44 l0 x19_2).f4), .int .i64 ((rd_T44 l0 x19_2).f5), .string ((rd_T44 l0 x19_2).f6), .string ((rd_T44 l0 x19_2).f7)] 44 (0, 0)) m8_ hb); have n1_ := Aside0.mk (below_step m40_ hb); clear BK206; clear HB; have BK206 := n0_; have HB := n1_; clear n0_ n1_; (try clear hb); (try clear hb2); (try clear hk); (try clear hi); obtain ⟨hcz15_0, hcz15_1, hcz15_2, hcz15_3, hcz15_4, hcz15_5, hcz15_6, hcz15_7⟩ := cz8_ BK206.out; obtain ⟨hfz15_0, hfz15_1, hfz15_2, hfz15_3, hfz15_4, hfz15_5, hfz15_6, hfz15_7⟩ := fz8_ BK206.out) | (go_at_call 36; (with_reducible refine (impl_phase.calls k2 _ _ l0 ((rd_T44 l0 x19_2).f0) t208 _ ?side1 ?side2 A10.out).mono ?_); (case side1 => exact m9_); (case side2 => exact HC0.out); rintro e w16 ⟨rfl, hb⟩; have n0_ := Aside0.mk (blk_below (g := gb206) (o := .cells #[.string ((rd_T44 l0 x19_2).f0), .int .i64 ((rd_T44 l0 x19_2).f1), .string ((rd_T44 l0 x19_2).f2), .string ((rd_T44 l0 x19_2).f3), .int .i64 ((rd_T44 l0 x19_2).f4), .int .i64 ((rd_T44 l0 x19_2).f5), .string ((rd_T44 l0 x19_2).f6), .string ((rd_T44 l0 x19_2).f7)] 44 (0, 0)) (by (with_reducible repeat (first | refine blk_drewN ?_ _ | refine blk_drew ?_ | refine blk_alloc ?_ _)); exact BK206.out) hb); have n1_ := Aside0.mk (below_step m40_ hb); clear BK206; clear HB; have BK206 := n0_; have HB := n1_; clear n0_ n1_; (try clear hb); (try clear hb2); (try clear hk); (try clear hi)))
           go_roundg k2
           case measure => have := HJ1.out; have := HK2.out; omega
           case rel => exact ⟨(wrap64 (x19_2 + 1)), m14_, H', ⟨(by have := HJ1.out; have := HK2.out; omega)⟩, ⟨m40_⟩⟩
          ·rw [if_neg c11] at H
           have c11b0 : (t208 == x19_2) = false := beq_eq_false_iff_ne.mpr c11
           have c11b1 : (t208 != x19_2) = true := bne_iff_ne.mpr c11
           obtain rfl := Option.some.inj H
           have p205 : 0 ≤ (x19_2 : Int) := of_decide_eq_true m6_
           have q205 : x19_2 < (l0.length : Int) := of_decide_eq_true m6_
           obtain ⟨ad205, e205, hx205_0, hx205_1, hx205_2, hx205_3, hx205_4, hx205_5, hx205_6, hx205_7⟩ := at_T44 HR0.out x19_2 p205 q205
           cases e205
           replace hx205_0 := (HB.out.cell (World.block_lt_of_cell? w _ hx205_0)).trans hx205_0
           replace hx205_1 := (HB.out.cell (World.block_lt_of_cell? w _ hx205_1)).trans hx205_1
           replace hx205_2 := (HB.out.cell (World.block_lt_of_cell? w _ hx205_2)).trans hx205_2
           replace hx205_3 := (HB.out.cell (World.block_lt_of_cell? w _ hx205_3)).trans hx205_3
           replace hx205_4 := (HB.out.cell (World.block_lt_of_cell? w _ hx205_4)).trans hx205_4
           replace hx205_5 := (HB.out.cell (World.block_lt_of_cell? w _ hx205_5)).trans hx205_5
           replace hx205_6 := (HB.out.cell (World.block_lt_of_cell? w _ hx205_6)).trans hx205_6
           replace hx205_7 := (HB.out.cell (World.block_lt_of_cell? w _ hx205_7)).trans hx205_7
           replace p205 := eq_true p205
           replace q205 := eq_true q205
           go_wp2_with (first | ((with_reducible refine gate_dst (N := 4) rfl ?_); (try (refine gate_guard (by rfl) ?_; dsimp only)); refine box_event ?hg (N := 4) ?hd (cs := #[.string (⟨#[]⟩ : ByteArray), .int .i64 0, .string (⟨#[]⟩ : ByteArray), .string (⟨#[]⟩ : ByteArray), .int .i64 0, .int .i64 0, .string (⟨#[]⟩ : ByteArray), .string (⟨#[]⟩ : ByteArray)]) (t := 44) ?hr ?_; (case hd => rfl); (case hg => rfl); (case hr => first | (go_simp; done) | (go_simp; rfl)); intro gb206 hg w17 hbox hb; have n0_ := Aside0.mk (below_step m0_ hb); have n1_ := Aside0.mk (hbox); have n2_ := Aside0.mk ((by rw [hg]; exact (below_size m0_) : w.heap.size ≤ gb206)); have n3_ := Aside0.mk ((by rw [hg]; exact (below_size m0_) : w.heap.size ≤ gb206)); clear HB; have HB := n0_; have BK206 := n1_; have GW206 := n2_; have GE206 := n3_; clear n0_ n1_ n2_ n3_; clear hb hbox hg; obtain ⟨hcz18_0, hcz18_1, hcz18_2, hcz18_3, hcz18_4, hcz18_5, hcz18_6, hcz18_7⟩ := cz8_ BK206.out; obtain ⟨hfz18_0, hfz18_1, hfz18_2, hfz18_3, hfz18_4, hfz18_5, hfz18_6, hfz18_7⟩ := fz8_ BK206.out) | ((with_reducible refine gate_callee (f := 54) rfl ?_); refine goesL_ (some 25) rfl rfl Try.func54 (by kernel_rfl) rfl #[.agg #[.string ((rd_T44 l0 x19_2).f0), .int .i64 ((rd_T44 l0 x19_2).f1), .string ((rd_T44 l0 x19_2).f2), .string ((rd_T44 l0 x19_2).f3), .int .i64 ((rd_T44 l0 x19_2).f4), .int .i64 ((rd_T44 l0 x19_2).f5), .string ((rd_T44 l0 x19_2).f6), .string ((rd_T44 l0 x19_2).f7)]] rfl m1_ ?_; (with_reducible refine (impl_RecPhaseOk.calls k2 ((rd_T44 l0 x19_2).f0) ((rd_T44 l0 x19_2).f1) ((rd_T44 l0 x19_2).f2) ((rd_T44 l0 x19_2).f3) ((rd_T44 l0 x19_2).f4) ((rd_T44 l0 x19_2).f5) ((rd_T44 l0 x19_2).f6) ((rd_T44 l0 x19_2).f7) true _ A8.out).mono ?_); rintro e w19 ⟨rfl, hb⟩; refine ⟨_, rfl, ?_⟩; have n0_ := Aside0.mk (blk_below (g := gb206) (o := .cells #[.string ((rd_T44 l0 x19_2).f0), .int .i64 ((rd_T44 l0 x19_2).f1), .string ((rd_T44 l0 x19_2).f2), .string ((rd_T44 l0 x19_2).f3), .int .i64 ((rd_T44 l0 x19_2).f4), .int .i64 ((rd_T44 l0 x19_2).f5), .string ((rd_T44 l0 x19_2).f6), .string ((rd_T44 l0 x19_2).f7)] 44 (0, 0)) m8_ hb); have n1_ := Aside0.mk (below_step m40_ hb); clear BK206; clear HB; have BK206 := n0_; have HB := n1_; clear n0_ n1_; (try clear hb); (try clear hb2); (try clear hk); (try clear hi); obtain ⟨hcz20_0, hcz20_1, hcz20_2, hcz20_3, hcz20_4, hcz20_5, hcz20_6, hcz20_7⟩ := cz8_ BK206.out; obtain ⟨hfz20_0, hfz20_1, hfz20_2, hfz20_3, hfz20_4, hfz20_5, hfz20_6, hfz20_7⟩ := fz8_ BK206.out) | (go_at_call 36; (with_reducible refine (impl_phase.calls k2 _ _ l0 ((rd_T44 l0 x19_2).f0) t208 _ ?side1 ?side2 A10.out).mono ?_); (case side1 => exact m9_); (case side2 => exact HC0.out); rintro e w21 ⟨rfl, hb⟩; have n0_ := Aside0.mk (blk_below (g := gb206) (o := .cells #[.string ((rd_T44 l0 x19_2).f0), .int .i64 ((rd_T44 l0 x19_2).f1), .string ((rd_T44 l0 x19_2).f2), .string ((rd_T44 l0 x19_2).f3), .int .i64 ((rd_T44 l0 x19_2).f4), .int .i64 ((rd_T44 l0 x19_2).f5), .string ((rd_T44 l0 x19_2).f6), .string ((rd_T44 l0 x19_2).f7)] 44 (0, 0)) (by (with_reducible repeat (first | refine blk_drewN ?_ _ | refine blk_drew ?_ | refine blk_alloc ?_ _)); exact BK206.out) hb); have n1_ := Aside0.mk (below_step m40_ hb); clear BK206; clear HB; have BK206 := n0_; have HB := n1_; clear n0_ n1_; (try clear hb); (try clear hb2); (try clear hk); (try clear hi)))
           go_ret
           exact ⟨m5_, m40_⟩
         ·replace c9 := Bool.eq_false_iff.mpr c9
          subst c9
          have H1 : (some false) = some r := by rw [if_neg (show ¬ (false = true) by decide)] at H; exact H
          clear H
          have H := H1
          clear H1
          obtain rfl := Option.some.inj H
          have p205 : 0 ≤ (x19_2 : Int) := of_decide_eq_true m6_
          have q205 : x19_2 < (l0.length : Int) := of_decide_eq_true m6_
          obtain ⟨ad205, e205, hx205_0, hx205_1, hx205_2, hx205_3, hx205_4, hx205_5, hx205_6, hx205_7⟩ := at_T44 HR0.out x19_2 p205 q205
          cases e205
          replace hx205_0 := (HB.out.cell (World.block_lt_of_cell? w _ hx205_0)).trans hx205_0
          replace hx205_1 := (HB.out.cell (World.block_lt_of_cell? w _ hx205_1)).trans hx205_1
          replace hx205_2 := (HB.out.cell (World.block_lt_of_cell? w _ hx205_2)).trans hx205_2
          replace hx205_3 := (HB.out.cell (World.block_lt_of_cell? w _ hx205_3)).trans hx205_3
          replace hx205_4 := (HB.out.cell (World.block_lt_of_cell? w _ hx205_4)).trans hx205_4
          replace hx205_5 := (HB.out.cell (World.block_lt_of_cell? w _ hx205_5)).trans hx205_5
          replace hx205_6 := (HB.out.cell (World.block_lt_of_cell? w _ hx205_6)).trans hx205_6
          replace hx205_7 := (HB.out.cell (World.block_lt_of_cell? w _ hx205_7)).trans hx205_7
          replace p205 := eq_true p205
          replace q205 := eq_true q205
          go_wp2_with (first | ((with_reducible refine gate_dst (N := 4) rfl ?_); (try (refine gate_guard (by rfl) ?_; dsimp only)); refine box_event ?hg (N := 4) ?hd (cs := #[.string (⟨#[]⟩ : ByteArray), .int .i64 0, .string (⟨#[]⟩ : ByteArray), .string (⟨#[]⟩ : ByteArray), .int .i64 0, .int .i64 0, .string (⟨#[]⟩ : ByteArray), .string (⟨#[]⟩ : ByteArray)]) (t := 44) ?hr ?_; (case hd => rfl); (case hg => rfl); (case hr => first | (go_simp; done) | (go_simp; rfl)); intro gb206 hg w22 hbox hb; have n0_ := Aside0.mk (below_step m0_ hb); have n1_ := Aside0.mk (hbox); have n2_ := Aside0.mk ((by rw [hg]; exact (below_size m0_) : w.heap.size ≤ gb206)); have n3_ := Aside0.mk ((by rw [hg]; exact (below_size m0_) : w.heap.size ≤ gb206)); clear HB; have HB := n0_; have BK206 := n1_; have GW206 := n2_; have GE206 := n3_; clear n0_ n1_ n2_ n3_; clear hb hbox hg; obtain ⟨hcz23_0, hcz23_1, hcz23_2, hcz23_3, hcz23_4, hcz23_5, hcz23_6, hcz23_7⟩ := cz8_ BK206.out; obtain ⟨hfz23_0, hfz23_1, hfz23_2, hfz23_3, hfz23_4, hfz23_5, hfz23_6, hfz23_7⟩ := fz8_ BK206.out) | ((with_reducible refine gate_callee (f := 54) rfl ?_); refine goesL_ (some 25) rfl rfl Try.func54 (by kernel_rfl) rfl #[.agg #[.string ((rd_T44 l0 x19_2).f0), .int .i64 ((rd_T44 l0 x19_2).f1), .string ((rd_T44 l0 x19_2).f2), .string ((rd_T44 l0 x19_2).f3), .int .i64 ((rd_T44 l0 x19_2).f4), .int .i64 ((rd_T44 l0 x19_2).f5), .string ((rd_T44 l0 x19_2).f6), .string ((rd_T44 l0 x19_2).f7)]] rfl m1_ ?_; (with_reducible refine (impl_RecPhaseOk.calls k2 ((rd_T44 l0 x19_2).f0) ((rd_T44 l0 x19_2).f1) ((rd_T44 l0 x19_2).f2) ((rd_T44 l0 x19_2).f3) ((rd_T44 l0 x19_2).f4) ((rd_T44 l0 x19_2).f5) ((rd_T44 l0 x19_2).f6) ((rd_T44 l0 x19_2).f7) false _ A8.out).mono ?_); rintro e w24 ⟨rfl, hb⟩; refine ⟨_, rfl, ?_⟩; have n0_ := Aside0.mk (blk_below (g := gb206) (o := .cells #[.string ((rd_T44 l0 x19_2).f0), .int .i64 ((rd_T44 l0 x19_2).f1), .string ((rd_T44 l0 x19_2).f2), .string ((rd_T44 l0 x19_2).f3), .int .i64 ((rd_T44 l0 x19_2).f4), .int .i64 ((rd_T44 l0 x19_2).f5), .string ((rd_T44 l0 x19_2).f6), .string ((rd_T44 l0 x19_2).f7)] 44 (0, 0)) m8_ hb); have n1_ := Aside0.mk (below_step m40_ hb); clear BK206; clear HB; have BK206 := n0_; have HB := n1_; clear n0_ n1_; (try clear hb); (try clear hb2); (try clear hk); (try clear hi)))
          go_ret
          exact ⟨m5_, m40_⟩
        ·rw [if_neg c7] at H
         exact absurd H (by simp)
       ·rw [if_neg c6] at H
        exact absurd H (by simp)
      ·rw [if_neg c5] at H
       have c5b0 : decide (x19_2 < (l0.length : Int)) = false := decide_eq_false c5
       clear c5
       have H' := Aside0.mk H
       clear H
       go_wp2
       go_loopg [38] k2 (fun kq v38 w' => ∃ (x38_3 : Int), v38 = .int .i64 x38_3 ∧ Aside0 (impl_RecOk.l1 kq l0 l0 (l0.length : Int) x38_3 = some r) ∧ Aside0 (kq ≤ k2) ∧ Aside0 (Below w.heap.size w w'))
       case atStart => exact ⟨(0), m14_, H', ⟨Nat.le_refl _⟩, ⟨m0_⟩⟩
       case round =>
        clear H'
        try clear c1
        try clear p2
        try clear q2
        try clear hx2
        try clear c3
        try clear c3b0
        try clear c3b1
        try clear c4
        try clear c5
        try clear c5b0
        try clear c6
        try clear c6b0
        try clear p6
        try clear c7
        try clear c7b0
        try clear c9
        try clear c11
        try clear c11b0
        try clear c11b1
        try clear p20
        try clear q20
        try clear hx20
        try clear hcz13_0
        try clear hcz13_1
        try clear hcz13_2
        try clear hcz13_3
        try clear hcz13_4
        try clear hcz13_5
        try clear hcz13_6
        try clear hcz13_7
        try clear hcz15_0
        try clear hcz15_1
        try clear hcz15_2
        try clear hcz15_3
        try clear hcz15_4
        try clear hcz15_5
        try clear hcz15_6
        try clear hcz15_7
        try clear hcz18_0
        try clear hcz18_1
        try clear hcz18_2
        try clear hcz18_3
        try clear hcz18_4
        try clear hcz18_5
        try clear hcz18_6
        try clear hcz18_7
        try clear hcz20_0
        try clear hcz20_1
        try clear hcz20_2
        try clear hcz20_3
        try clear hcz20_4
        try clear hcz20_5
        try clear hcz20_6
        try clear hcz20_7
        try clear hcz23_0
        try clear hcz23_1
        try clear hcz23_2
        try clear hcz23_3
        try clear hcz23_4
        try clear hcz23_5
        try clear hcz23_6
        try clear hcz23_7
        try clear hfz13_0
        try clear hfz13_1
        try clear hfz13_2
        try clear hfz13_3
        try clear hfz13_4
        try clear hfz13_5
        try clear hfz13_6
        try clear hfz13_7
        try clear hfz15_0
        try clear hfz15_1
        try clear hfz15_2
        try clear hfz15_3
        try clear hfz15_4
        try clear hfz15_5
        try clear hfz15_6
        try clear hfz15_7
        try clear hfz18_0
        try clear hfz18_1
        try clear hfz18_2
        try clear hfz18_3
        try clear hfz18_4
        try clear hfz18_5
        try clear hfz18_6
        try clear hfz18_7
        try clear hfz20_0
        try clear hfz20_1
        try clear hfz20_2
        try clear hfz20_3
        try clear hfz20_4
        try clear hfz20_5
        try clear hfz20_6
        try clear hfz20_7
        try clear hfz23_0
        try clear hfz23_1
        try clear hfz23_2
        try clear hfz23_3
        try clear hfz23_4
        try clear hfz23_5
        try clear hfz23_6
        try clear hfz23_7
        try clear hx205_0
        try clear hx205_1
        try clear hx205_2
        try clear hx205_3
        try clear hx205_4
        try clear hx205_5
        try clear hx205_6
        try clear hx205_7
        try clear p2
        try clear p205
        try clear q205
        obtain ⟨x38_3, rfl, HA, HK3, HB⟩ := hrel
        cases gk with
        | zero => exact absurd HA.out (by simp [impl_RecOk.l1])
        | succ k3 =>
         have H := HA.out
         clear HA
         simp only [impl_RecOk.l1] at H
         by_cases c25 : x38_3 < (l0.length : Int)
         ·rw [if_pos c25] at H
          have c25b0 : decide (x38_3 < (l0.length : Int)) = true := decide_eq_true c25
          clear c25
          by_cases c26 : 0 ≤ x38_3
          ·rw [if_pos c26] at H
           have c26b0 : decide (0 ≤ x38_3) = true := decide_eq_true c26
           clear c26
           by_cases c27 : x38_3 < (l0.length : Int)
           ·rw [if_pos c27] at H
            have c27b0 : decide (x38_3 < (l0.length : Int)) = true := decide_eq_true c27
            clear c27
            obtain ⟨y211, hy211⟩ : ∃ y_ : List ByteArray, y_ = (([(rd_T44 l0 x38_3).f6, (rd_T44 l0 x38_3).f7] : List ByteArray)) := ⟨_, rfl⟩
            replace H : (impl_RecOk.l2 k3 l0 x38_3 l0 (l0.length : Int) x38_3 y211 (y211.length : Int) 0) = some r := by first | (rw [hy211]; with_reducible exact H) | (have H2_ := (Option.bind_some _ _).symm.trans H; rw [hy211]; with_reducible exact H2_) | (have H2_ := (Option.bind_some _ _).symm.trans H; with_reducible exact H2_) | with_reducible exact H | (rw [hy211]; exact H) | exact H
            have Ny211 := Aside0.mk hy211
            clear hy211
            have H' := Aside0.mk H
            clear H
            have p209 : 0 ≤ (x38_3 : Int) := of_decide_eq_true m6_
            have q209 : x38_3 < (l0.length : Int) := of_decide_eq_true m6_
            obtain ⟨ad209, e209, hx209_0, hx209_1, hx209_2, hx209_3, hx209_4, hx209_5, hx209_6, hx209_7⟩ := at_T44 HR0.out x38_3 p209 q209
            cases e209
            replace hx209_0 := (HB.out.cell (World.block_lt_of_cell? w _ hx209_0)).trans hx209_0
            replace hx209_1 := (HB.out.cell (World.block_lt_of_cell? w _ hx209_1)).trans hx209_1
            replace hx209_2 := (HB.out.cell (World.block_lt_of_cell? w _ hx209_2)).trans hx209_2
            replace hx209_3 := (HB.out.cell (World.block_lt_of_cell? w _ hx209_3)).trans hx209_3
            replace hx209_4 := (HB.out.cell (World.block_lt_of_cell? w _ hx209_4)).trans hx209_4
            replace hx209_5 := (HB.out.cell (World.block_lt_of_cell? w _ hx209_5)).trans hx209_5
            replace hx209_6 := (HB.out.cell (World.block_lt_of_cell? w _ hx209_6)).trans hx209_6
            replace hx209_7 := (HB.out.cell (World.block_lt_of_cell? w _ hx209_7)).trans hx209_7
            replace p209 := eq_true p209
            replace q209 := eq_true q209
            go_wp2_with (first | ((with_reducible refine gate_dst (N := 6) rfl ?_); (try (refine gate_guard (by rfl) ?_; dsimp only)); refine box_event ?hg (N := 6) ?hd (cs := #[.string (⟨#[]⟩ : ByteArray), .int .i64 0, .string (⟨#[]⟩ : ByteArray), .string (⟨#[]⟩ : ByteArray), .int .i64 0, .int .i64 0, .string (⟨#[]⟩ : ByteArray), .string (⟨#[]⟩ : ByteArray)]) (t := 44) ?hr ?_; (case hd => rfl); (case hg => rfl); (case hr => first | (go_simp; done) | (go_simp; rfl)); intro gb210 hg w28 hbox hb; have n0_ := Aside0.mk (below_step m0_ hb); have n1_ := Aside0.mk (hbox); have n2_ := Aside0.mk ((by rw [hg]; exact (below_size m0_) : w.heap.size ≤ gb210)); have n3_ := Aside0.mk ((by rw [hg]; exact (below_size m0_) : w.heap.size ≤ gb210)); clear HB; have HB := n0_; have BK210 := n1_; have GW210 := n2_; have GE210 := n3_; clear n0_ n1_ n2_ n3_; clear hb hbox hg; obtain ⟨hcz29_0, hcz29_1, hcz29_2, hcz29_3, hcz29_4, hcz29_5, hcz29_6, hcz29_7⟩ := cz8_ BK210.out; obtain ⟨hfz29_0, hfz29_1, hfz29_2, hfz29_3, hfz29_4, hfz29_5, hfz29_6, hfz29_7⟩ := fz8_ BK210.out) | ((with_reducible refine gate_dst (N := 47) rfl ?_); (try (refine gate_guard (by rfl) ?_; dsimp only)); refine Kd.R_lit Kd.string _ 9 ?hg (N := 47) ?hd (xs := ([(rd_T44 l0 x38_3).f6, (rd_T44 l0 x38_3).f7] : List ByteArray)) (inner := [.string ((rd_T44 l0 x38_3).f6), .string ((rd_T44 l0 x38_3).f7)]) (ok := fun _ => True) (okp := fun _ => True) ?hr ?hp (fun _ hk => hk) trivial (Below.refl _ _) (Nat.le_refl _) (by simp) ?_; (case hd => rfl); (case hg => rfl); (case hr => first | (go_simp; done) | (go_simp; rfl)); (case hp => exact (Reps.one (show Kd.M Kd.string _ _ _ ((rd_T44 l0 x38_3).f6) [.string ((rd_T44 l0 x38_3).f6)] from rfl) (Reps.one (show Kd.M Kd.string _ _ _ ((rd_T44 l0 x38_3).f7) [.string ((rd_T44 l0 x38_3).f7)] from rfl) (Reps.none _ _)))); intro v212 w30 ho31 hb hg_ hnew_; clear hg_ hnew_; (first | rw [← Ny211.out] at ho31 | (simp only [Int.reduceToNat] at ho31; rw [← Ny211.out] at ho31)); have n0_ := Aside0.mk (Kd.R_lower ho31 (below_size m28_)); have n1_ := Aside0.mk (blk_below (g := gb210) (o := .cells #[.string ((rd_T44 l0 x38_3).f0), .int .i64 ((rd_T44 l0 x38_3).f1), .string ((rd_T44 l0 x38_3).f2), .string ((rd_T44 l0 x38_3).f3), .int .i64 ((rd_T44 l0 x38_3).f4), .int .i64 ((rd_T44 l0 x38_3).f5), .string ((rd_T44 l0 x38_3).f6), .string ((rd_T44 l0 x38_3).f7)] 44 (0, 0)) (by (with_reducible repeat (first | refine blk_drewN ?_ _ | refine blk_drew ?_ | refine blk_alloc ?_ _)); refine blk_put (cs := #[.string ((rd_T44 l0 x38_3).f0), .int .i64 ((rd_T44 l0 x38_3).f1), .string ((rd_T44 l0 x38_3).f2), .string ((rd_T44 l0 x38_3).f3), .int .i64 ((rd_T44 l0 x38_3).f4), .int .i64 ((rd_T44 l0 x38_3).f5), .string ((rd_T44 l0 x38_3).f6), .string (⟨#[]⟩ : ByteArray)]) ?_ 7 _ rfl; (with_reducible repeat (first | refine blk_drewN ?_ _ | refine blk_drew ?_ | refine blk_alloc ?_ _)); refine blk_put (cs := #[.string ((rd_T44 l0 x38_3).f0), .int .i64 ((rd_T44 l0 x38_3).f1), .string ((rd_T44 l0 x38_3).f2), .string ((rd_T44 l0 x38_3).f3), .int .i64 ((rd_T44 l0 x38_3).f4), .int .i64 ((rd_T44 l0 x38_3).f5), .string (⟨#[]⟩ : ByteArray), .string (⟨#[]⟩ : ByteArray)]) ?_ 6 _ rfl; (with_reducible repeat (first | refine blk_drewN ?_ _ | refine blk_drew ?_ | refine blk_alloc ?_ _)); refine blk_put (cs := #[.string ((rd_T44 l0 x38_3).f0), .int .i64 ((rd_T44 l0 x38_3).f1), .string ((rd_T44 l0 x38_3).f2), .string ((rd_T44 l0 x38_3).f3), .int .i64 ((rd_T44 l0 x38_3).f4), .int .i64 0, .string (⟨#[]⟩ : ByteArray), .string (⟨#[]⟩ : ByteArray)]) ?_ 5 _ rfl; (with_reducible repeat (first | refine blk_drewN ?_ _ | refine blk_drew ?_ | refine blk_alloc ?_ _)); refine blk_put (cs := #[.string ((rd_T44 l0 x38_3).f0), .int .i64 ((rd_T44 l0 x38_3).f1), .string ((rd_T44 l0 x38_3).f2), .string ((rd_T44 l0 x38_3).f3), .int .i64 0, .int .i64 0, .string (⟨#[]⟩ : ByteArray), .string (⟨#[]⟩ : ByteArray)]) ?_ 4 _ rfl; (with_reducible repeat (first | refine blk_drewN ?_ _ | refine blk_drew ?_ | refine blk_alloc ?_ _)); refine blk_put (cs := #[.string ((rd_T44 l0 x38_3).f0), .int .i64 ((rd_T44 l0 x38_3).f1), .string ((rd_T44 l0 x38_3).f2), .string (⟨#[]⟩ : ByteArray), .int .i64 0, .int .i64 0, .string (⟨#[]⟩ : ByteArray), .string (⟨#[]⟩ : ByteArray)]) ?_ 3 _ rfl; (with_reducible repeat (first | refine blk_drewN ?_ _ | refine blk_drew ?_ | refine blk_alloc ?_ _)); refine blk_put (cs := #[.string ((rd_T44 l0 x38_3).f0), .int .i64 ((rd_T44 l0 x38_3).f1), .string (⟨#[]⟩ : ByteArray), .string (⟨#[]⟩ : ByteArray), .int .i64 0, .int .i64 0, .string (⟨#[]⟩ : ByteArray), .string (⟨#[]⟩ : ByteArray)]) ?_ 2 _ rfl; (with_reducible repeat (first | refine blk_drewN ?_ _ | refine blk_drew ?_ | refine blk_alloc ?_ _)); refine blk_put (cs := #[.string ((rd_T44 l0 x38_3).f0), .int .i64 0, .string (⟨#[]⟩ : ByteArray), .string (⟨#[]⟩ : ByteArray), .int .i64 0, .int .i64 0, .string (⟨#[]⟩ : ByteArray), .string (⟨#[]⟩ : ByteArray)]) ?_ 1 _ rfl; (with_reducible repeat (first | refine blk_drewN ?_ _ | refine blk_drew ?_ | refine blk_alloc ?_ _)); refine blk_put (cs := #[.string (⟨#[]⟩ : ByteArray), .int .i64 0, .string (⟨#[]⟩ : ByteArray), .string (⟨#[]⟩ : ByteArray), .int .i64 0, .int .i64 0, .string (⟨#[]⟩ : ByteArray), .string (⟨#[]⟩ : ByteArray)]) ?_ 0 _ rfl; (with_reducible repeat (first | refine blk_drewN ?_ _ | refine blk_drew ?_ | refine blk_alloc ?_ _)); exact BK210.out) hb); have n2_ := Aside0.mk (below_step m28_ hb); clear BK210; clear HB; have HO213 := n0_; have BK210 := n1_; have HB := n2_; clear n0_ n1_ n2_; clear hb ho31; obtain ⟨Ao32, co32, eo32⟩ := Kd.R_slice HO213.out; subst eo32))
            go_loopg [49] k3 (fun kq v49 w' => ∃ (x49_4 : Int), v49 = .int .i64 x49_4 ∧ Aside0 (impl_RecOk.l2 kq l0 x38_3 l0 (l0.length : Int) x38_3 y211 (y211.length : Int) x49_4 = some r) ∧ Aside0 (kq ≤ k3) ∧ Aside0 (Kd.R Kd.string 9 w' w.heap.size (fun _ => True) (.slice Ao32 y211.length co32) y211) ∧ Aside0 (w'.heap[gb210]? = some (.cells #[.string ((rd_T44 l0 x38_3).f0), .int .i64 ((rd_T44 l0 x38_3).f1), .string ((rd_T44 l0 x38_3).f2), .string ((rd_T44 l0 x38_3).f3), .int .i64 ((rd_T44 l0 x38_3).f4), .int .i64 ((rd_T44 l0 x38_3).f5), .string ((rd_T44 l0 x38_3).f6), .string ((rd_T44 l0 x38_3).f7)] 44 (0, 0))) ∧ Aside0 (Below w.heap.size w w'))
            case atStart => exact ⟨(0), m14_, H', ⟨Nat.le_refl _⟩, ⟨(by (with_reducible repeat (first | apply Kd.R_alloc | apply Kd.R_drewN | apply Kd.R_drew)); exact HO213.out)⟩, ⟨m53_⟩, ⟨m28_⟩⟩
            case round =>
             clear H'
             try clear c1
             try clear c2
             try clear p2
             try clear q2
             try clear hx2
             try clear c3
             try clear c3b0
             try clear c3b1
             try clear c4
             try clear c5
             try clear c5b0
             try clear c6
             try clear c6b0
             try clear p6
             try clear c7
             try clear c7b0
             try clear c9
             try clear c11
             try clear c11b0
             try clear c11b1
             try clear p20
             try clear q20
             try clear hx20
             try clear c25
             try clear c25b0
             try clear c26
             try clear c26b0
             try clear c27
             try clear c27b0
             try clear hcz13_0
             try clear hcz13_1
             try clear hcz13_2
             try clear hcz13_3
             try clear hcz13_4
             try clear hcz13_5
             try clear hcz13_6
             try clear hcz13_7
             try clear hcz15_0
             try clear hcz15_1
             try clear hcz15_2
             try clear hcz15_3
             try clear hcz15_4
             try clear hcz15_5
             try clear hcz15_6
             try clear hcz15_7
             try clear hcz18_0
             try clear hcz18_1
             try clear hcz18_2
             try clear hcz18_3
             try clear hcz18_4
             try clear hcz18_5
             try clear hcz18_6
             try clear hcz18_7
             try clear hcz20_0
             try clear hcz20_1
             try clear hcz20_2
             try clear hcz20_3
             try clear hcz20_4
             try clear hcz20_5
             try clear hcz20_6
             try clear hcz20_7
             try clear hcz23_0
             try clear hcz23_1
             try clear hcz23_2
             try clear hcz23_3
             try clear hcz23_4
             try clear hcz23_5
             try clear hcz23_6
             try clear hcz23_7
             try clear hcz29_0
             try clear hcz29_1
             try clear hcz29_2
             try clear hcz29_3
             try clear hcz29_4
             try clear hcz29_5
             try clear hcz29_6
             try clear hcz29_7
             try clear hfz13_0
             try clear hfz13_1
             try clear hfz13_2
             try clear hfz13_3
             try clear hfz13_4
             try clear hfz13_5
             try clear hfz13_6
             try clear hfz13_7
             try clear hfz15_0
             try clear hfz15_1
             try clear hfz15_2
             try clear hfz15_3
             try clear hfz15_4
             try clear hfz15_5
             try clear hfz15_6
             try clear hfz15_7
             try clear hfz18_0
             try clear hfz18_1
             try clear hfz18_2
             try clear hfz18_3
             try clear hfz18_4
             try clear hfz18_5
             try clear hfz18_6
             try clear hfz18_7
             try clear hfz20_0
             try clear hfz20_1
             try clear hfz20_2
             try clear hfz20_3
             try clear hfz20_4
             try clear hfz20_5
             try clear hfz20_6
             try clear hfz20_7
             try clear hfz23_0
             try clear hfz23_1
             try clear hfz23_2
             try clear hfz23_3
             try clear hfz23_4
             try clear hfz23_5
             try clear hfz23_6
             try clear hfz23_7
             try clear hfz29_0
             try clear hfz29_1
             try clear hfz29_2
             try clear hfz29_3
             try clear hfz29_4
             try clear hfz29_5
             try clear hfz29_6
             try clear hfz29_7
             try clear hx205_0
             try clear hx205_1
             try clear hx205_2
             try clear hx205_3
             try clear hx205_4
             try clear hx205_5
             try clear hx205_6
             try clear hx205_7
             try clear hx209_0
             try clear hx209_1
             try clear hx209_2
             try clear hx209_3
             try clear hx209_4
             try clear hx209_5
             try clear hx209_6
             try clear hx209_7
             try clear p2
             try clear p20
             try clear p205
             try clear p209
             try clear p6
             try clear q2
             try clear q20
             try clear q205
             try clear q209
             obtain ⟨x49_4, rfl, HA, HK4, HO_47, BK210, HB⟩ := hrel
             cases gk with
             | zero => exact absurd HA.out (by simp [impl_RecOk.l2])
             | succ k4 =>
              have H := HA.out
              clear HA
              simp only [impl_RecOk.l2] at H
              by_cases c33 : x49_4 < (y211.length : Int)
              ·rw [if_pos c33] at H
               have c33b0 : decide (x49_4 < (y211.length : Int)) = true := decide_eq_true c33
               clear c33
               by_cases c34 : 0 ≤ x49_4
               ·rw [if_pos c34] at H
                have c34b0 : decide (0 ≤ x49_4) = true := decide_eq_true c34
                clear c34
                by_cases c35 : x49_4 < (y211.length : Int)
                ·rw [if_pos c35] at H
                 have c35b0 : decide (x49_4 < (y211.length : Int)) = true := decide_eq_true c35
                 clear c35
                 replace H := Option.bind_eq_some_iff.mp H
                 obtain ⟨t215, A360, H⟩ := H
                 replace H : (if t215 = 0 then ((impl_phase.f k4 l0 (rdOf ByteArray.empty y211 x49_4)).bind fun t216 => (if t216 ≤ x38_3 then (some false) else (impl_RecOk.l2 k4 l0 x38_3 l0 (l0.length : Int) x38_3 y211 (y211.length : Int) (wrap64 (x49_4 + 1))))) else (impl_RecOk.l2 k4 l0 x38_3 l0 (l0.length : Int) x38_3 y211 (y211.length : Int) (wrap64 (x49_4 + 1)))) = some r := H
                 have A36 := Aside0.mk A360
                 clear A360
                 by_cases c37 : t215 = 0
                 ·rw [if_pos c37] at H
                  have c37b0 : (t215 == 0) = true := beq_iff_eq.mpr c37
                  have c37b1 : (t215 != 0) = false := bne_eq_false_iff_eq.mpr c37
                  clear c37
                  replace H := Option.bind_eq_some_iff.mp H
                  obtain ⟨t216, A380, H⟩ := H
                  replace H : (if t216 ≤ x38_3 then (some false) else (impl_RecOk.l2 k4 l0 x38_3 l0 (l0.length : Int) x38_3 y211 (y211.length : Int) (wrap64 (x49_4 + 1)))) = some r := H
                  have A38 := Aside0.mk A380
                  clear A380
                  by_cases c39 : t216 ≤ x38_3
                  ·rw [if_pos c39] at H
                   have c39b0 : decide (t216 ≤ x38_3) = true := decide_eq_true c39
                   clear c39
                   obtain rfl := Option.some.inj H
                   have p214 : 0 ≤ (x49_4 : Int) := of_decide_eq_true m6_
                   have q214 : x49_4 < (y211.length : Int) := of_decide_eq_true m6_
                   obtain ⟨ad214, e214, hx214_0⟩ := Kd.at_string (Kd.R_reads' HO_47.out).2.2 x49_4 p214 q214
                   cases e214
                   replace p214 := eq_true p214
                   replace q214 := eq_true q214
                   go_wp2_with (first | ((with_reducible refine gate_callee (f := 55) rfl ?_); refine goesL_ (some 54) rfl rfl Try.func55 (by kernel_rfl) rfl #[.string (rdOf ByteArray.empty y211 x49_4)] rfl m1_ ?_; (with_reducible refine (impl_RecEnd.calls (rdOf ByteArray.empty y211 x49_4) t215 _ A36.out).mono ?_); rintro e w' ⟨rfl, ⟨nd, rfl⟩⟩; refine ⟨_, rfl, ?_⟩) | (go_at_call 36; (with_reducible refine (impl_phase.calls k4 _ _ l0 (rdOf ByteArray.empty y211 x49_4) t216 _ ?side1 ?side2 A38.out).mono ?_); (case side1 => exact (by repeat (first | exact (Kd.C_below HR0.out m28_) | (with_reducible refine Kd.C_alloc ?_ _) | (with_reducible refine Kd.C_drewN ?_ _) | (with_reducible refine Kd.C_drew ?_)))); (case side2 => exact HC0.out); rintro e w40 ⟨rfl, hb⟩; have n0_ := Aside0.mk (Kd.R_below m74_ hb); have n1_ := Aside0.mk (blk_below (g := gb210) (o := .cells #[.string ((rd_T44 l0 x38_3).f0), .int .i64 ((rd_T44 l0 x38_3).f1), .string ((rd_T44 l0 x38_3).f2), .string ((rd_T44 l0 x38_3).f3), .int .i64 ((rd_T44 l0 x38_3).f4), .int .i64 ((rd_T44 l0 x38_3).f5), .string ((rd_T44 l0 x38_3).f6), .string ((rd_T44 l0 x38_3).f7)] 44 (0, 0)) m53_ hb); have n2_ := Aside0.mk (below_step m28_ hb); clear HO_47; clear BK210; clear HB; have HO_47 := n0_; have BK210 := n1_; have HB := n2_; clear n0_ n1_ n2_; (try clear hb); (try clear hb2); (try clear hk); (try clear hi)))
                   go_ret
                   exact ⟨m5_, m28_⟩
                  ·rw [if_neg c39] at H
                   have c39b0 : decide (t216 ≤ x38_3) = false := decide_eq_false c39
                   clear c39
                   have H' := Aside0.mk H
                   clear H
                   have p214 : 0 ≤ (x49_4 : Int) := of_decide_eq_true m6_
                   have q214 : x49_4 < (y211.length : Int) := of_decide_eq_true m6_
                   obtain ⟨ad214, e214, hx214_0⟩ := Kd.at_string (Kd.R_reads' HO_47.out).2.2 x49_4 p214 q214
                   cases e214
                   replace p214 := eq_true p214
                   replace q214 := eq_true q214
                   go_wp2_with (first | ((with_reducible refine gate_callee (f := 55) rfl ?_); refine goesL_ (some 54) rfl rfl Try.func55 (by kernel_rfl) rfl #[.string (rdOf ByteArray.empty y211 x49_4)] rfl m1_ ?_; (with_reducible refine (impl_RecEnd.calls (rdOf ByteArray.empty y211 x49_4) t215 _ A36.out).mono ?_); rintro e w' ⟨rfl, ⟨nd, rfl⟩⟩; refine ⟨_, rfl, ?_⟩) | (go_at_call 36; (with_reducible refine (impl_phase.calls k4 _ _ l0 (rdOf ByteArray.empty y211 x49_4) t216 _ ?side1 ?side2 A38.out).mono ?_); (case side1 => exact (by repeat (first | exact (Kd.C_below HR0.out m28_) | (with_reducible refine Kd.C_alloc ?_ _) | (with_reducible refine Kd.C_drewN ?_ _) | (with_reducible refine Kd.C_drew ?_)))); (case side2 => exact HC0.out); rintro e w41 ⟨rfl, hb⟩; have n0_ := Aside0.mk (Kd.R_below m74_ hb); have n1_ := Aside0.mk (blk_below (g := gb210) (o := .cells #[.string ((rd_T44 l0 x38_3).f0), .int .i64 ((rd_T44 l0 x38_3).f1), .string ((rd_T44 l0 x38_3).f2), .string ((rd_T44 l0 x38_3).f3), .int .i64 ((rd_T44 l0 x38_3).f4), .int .i64 ((rd_T44 l0 x38_3).f5), .string ((rd_T44 l0 x38_3).f6), .string ((rd_T44 l0 x38_3).f7)] 44 (0, 0)) m53_ hb); have n2_ := Aside0.mk (below_step m28_ hb); clear HO_47; clear BK210; clear HB; have HO_47 := n0_; have BK210 := n1_; have HB := n2_; clear n0_ n1_ n2_; (try clear hb); (try clear hb2); (try clear hk); (try clear hi)))
                   go_roundg k4
                   case measure => have := HJ1.out; have := HK2.out; have := HK3.out; have := HK4.out; omega
                   case rel => exact ⟨(wrap64 (x49_4 + 1)), m14_, H', ⟨(by have := HJ1.out; have := HK2.out; have := HK3.out; have := HK4.out; omega)⟩, ⟨m74_⟩, ⟨m53_⟩, ⟨m28_⟩⟩
                 ·rw [if_neg c37] at H
                  have c37b0 : (t215 == 0) = false := beq_eq_false_iff_ne.mpr c37
                  have c37b1 : (t215 != 0) = true := bne_iff_ne.mpr c37
                  have H' := Aside0.mk H
                  clear H
                  have p214 : 0 ≤ (x49_4 : Int) := of_decide_eq_true m6_
                  have q214 : x49_4 < (y211.length : Int) := of_decide_eq_true m6_
                  obtain ⟨ad214, e214, hx214_0⟩ := Kd.at_string (Kd.R_reads' HO_47.out).2.2 x49_4 p214 q214
                  cases e214
                  replace p214 := eq_true p214
                  replace q214 := eq_true q214
                  go_wp2_with (first | ((with_reducible refine gate_callee (f := 55) rfl ?_); refine goesL_ (some 54) rfl rfl Try.func55 (by kernel_rfl) rfl #[.string (rdOf ByteArray.empty y211 x49_4)] rfl m1_ ?_; (with_reducible refine (impl_RecEnd.calls (rdOf ByteArray.empty y211 x49_4) t215 _ A36.out).mono ?_); rintro e w' ⟨rfl, ⟨nd, rfl⟩⟩; refine ⟨_, rfl, ?_⟩))
                  go_roundg k4
                  case measure => have := HJ1.out; have := HK2.out; have := HK3.out; have := HK4.out; omega
                  case rel => exact ⟨(wrap64 (x49_4 + 1)), m14_, H', ⟨(by have := HJ1.out; have := HK2.out; have := HK3.out; have := HK4.out; omega)⟩, ⟨m74_⟩, ⟨m53_⟩, ⟨m28_⟩⟩
                ·rw [if_neg c35] at H
                 exact absurd H (by simp)
               ·rw [if_neg c34] at H
                exact absurd H (by simp)
              ·rw [if_neg c33] at H
               have c33b0 : decide (x49_4 < (y211.length : Int)) = false := decide_eq_false c33
               clear c33
               have H' := Aside0.mk H
               clear H
               go_wp2
               go_roundg k4
               case measure => have := HJ1.out; have := HK2.out; have := HK3.out; have := HK4.out; omega
               case rel => exact ⟨(wrap64 (x38_3 + 1)), m14_, H', ⟨(by have := HJ1.out; have := HK2.out; have := HK3.out; have := HK4.out; omega)⟩, ⟨m28_⟩⟩
           ·rw [if_neg c27] at H
            exact absurd H (by simp)
          ·rw [if_neg c26] at H
           exact absurd H (by simp)
         ·rw [if_neg c25] at H
          have c25b0 : decide (x38_3 < (l0.length : Int)) = false := decide_eq_false c25
          clear c25
          obtain rfl := Option.some.inj H
          go_wp2
          go_ret
          exact ⟨m5_, m0_⟩

end Go.Proofs.Ytpihcdbkdldbcaa.QFnExactRecGo
namespace Go.Proofs.Ytpihcdbkdldbcaa.QFnExactRecGo
open Go.RowKit Go.Proofs.YtpihcdbkdldbcaaW.PrintWords Go.Proofs.YtpihcdbkdldbcaaW.PrintLast Go.Proofs.YtpihcdbkdldbcaaW.PrintMore
attribute [local go_sem] str_geq str_gtr str_leq max2_int min2_int max_two min_two max_three min_three max_four min_four   -- for this text's walks alone
set_option linter.unusedVariables false
set_option linter.unusedSimpArgs false
/-! ### impl_bound: function 37 -/
def impl_bound.f : Nat → List (S44) → ByteArray → Option (Int)
 | 0, _, _ => none
 | k + 1, l0, a1 => (impl_phase.f k l0 a1).bind fun t217 => (if t217 < 0 then (some 0) else (if 0 ≤ t217 then (if t217 < (l0.length : Int) then ((impl_bound.f k l0 ((rd_T44 l0 t217).f6)).bind fun t220 => ((impl_bound.f k l0 ((rd_T44 l0 t217).f7)).bind fun t222 => (some (wrap64 (((rd_T44 l0 t217).f5) + (mx t220 t222)))))) else (none)) else (none)))
theorem impl_bound.mono_l : ∀ k, (∀ y0 y1, LeO (impl_bound.f k y0 y1) (impl_bound.f (k + 1) y0 y1))
 | 0 => fun _ _ r h => by simp [impl_bound.f] at h
 | k + 1 => by
  have ih0 := impl_bound.mono_l k
  ·intro y0 y1
   unfold impl_bound.f
   repeat' first
   | (with_reducible exact ih0 _ _)
   | (with_reducible exact impl_phase.mono _ _ _)
   | (with_reducible exact LeO.refl _)
   | (with_reducible exact LeO.none _)
   | (with_reducible refine LeO.ite ?_ ?_)
   | (with_reducible refine LeO.bind ?_ (fun _ => ?_))
   | exact ih0 _ _
   | exact impl_phase.mono _ _ _
   | exact LeO.none _
   | refine LeO.ite ?_ ?_
   | refine LeO.bind ?_ (fun _ => ?_)
theorem impl_bound.mono : ∀ a0 a1 k, LeO (impl_bound.f k a0 a1) (impl_bound.f (k + 1) a0 a1) := by
 intro a0 a1 k
 have ih0 := impl_bound.mono_l k
 exact ih0 a0 a1
def impl_bound.T4 : Bool × List (List Nat × List Nat) := (true, [([], []), ([], []), ([0, 1], [0, 1]), ([2], [2]), ([3], [3]), ([], []), ([], []), ([], []), ([6, 7], [6, 7]), ([8], [8]), ([9], [9]), ([5, 10], [5, 10]), ([], []), ([], []), ([], []), ([13, 14], [13, 14]), ([15], [15]), ([16], [16]), ([12, 17, 11], [12, 17]), ([11, 18], [11, 18]), ([4, 19], [4, 19]), ([20, 18, 0, 1, 2, 3, 4, 5, 6, 7, 8, 9, 10, 11, 12, 13, 14, 15, 16, 17, 18, 19, 20], [20])])
def impl_bound.B4 : List Nat := [0, 0, 3, 7, 15, 0, 0, 0, 192, 448, 960, 2016, 0, 0, 0, 24576, 57344, 122880, 262112, 524256, 1048575, 2097151]
theorem impl_bound.tab4 : rtab .any (opsOf Try.f37 4) = impl_bound.T4 := by kernel_rfl
theorem impl_bound.bits4 : waitsOk impl_bound.T4.2 impl_bound.B4 = true := by kernel_rfl
set_option maxHeartbeats 8000000 in
set_option maxRecDepth 100000 in
theorem impl_bound.calls (k : Nat) : ∀ (A0 : Option Addr) (c0 : Nat) (l0 : List (S44)) (a1 : ByteArray) (r : Int) (w : World) (hr0 : Kd.C k44 w A0 l0.length l0) (hc0 : l0.length ≤ c0) (h : impl_bound.f k l0 a1 = some r),
  Calls Try.prog 37 #[.slice A0 l0.length c0, .string a1] w fun e w' => e = .returned (.int .i64 r) ∧ Below w.heap.size w w' := by
 induction k using Nat.strongRecOn with
 | _ k ih =>
 intro A0 c0 l0 a1 r w hr0 hc0 h
 cases k with
 | zero => exact absurd h (by simp [impl_bound.f])
 | succ k =>
 simp only [impl_bound.f] at h
 have HR0 := Aside0.mk hr0
 have HC0 := Aside0.mk hc0
 clear hr0 hc0
 have HB := Aside0.mk (Below.refl w.heap.size w)
 have H : ((impl_phase.f k l0 a1).bind fun t217 => (if t217 < 0 then (some 0) else (if 0 ≤ t217 then (if t217 < (l0.length : Int) then ((impl_bound.f k l0 ((rd_T44 l0 t217).f6)).bind fun t220 => ((impl_bound.f k l0 ((rd_T44 l0 t217).f7)).bind fun t222 => (some (wrap64 (((rd_T44 l0 t217).f5) + (mx t220 t222)))))) else (none)) else (none)))) = some r := h
 clear h
 replace H := Option.bind_eq_some_iff.mp H
 obtain ⟨t217, A30, H⟩ := H
 replace H : (if t217 < 0 then (some 0) else (if 0 ≤ t217 then (if t217 < (l0.length : Int) then ((impl_bound.f k l0 ((rd_T44 l0 t217).f6)).bind fun t220 => ((impl_bound.f k l0 ((rd_T44 l0 t217).f7)).bind fun t222 => (some (wrap64 (((rd_T44 l0 t217).f5) + (mx t220 t222)))))) else (none)) else (none))) = some r := H
 have A3 := Aside0.mk A30
 clear A30
 by_cases c4 : t217 < 0
 ·rw [if_pos c4] at H
  have c4b0 : decide (t217 < 0) = true := decide_eq_true c4
  clear c4
  obtain rfl := Option.some.inj H
  go_enter Try.func37, Try.ntmps37
  go_wp2_with (first | ((with_reducible refine gate_callee (f := 36) rfl ?_); refine goesL_ (some 8) rfl rfl Try.func36 (by kernel_rfl) rfl #[.slice A0 l0.length c0, .string a1] rfl m1_ ?_; (with_reducible refine (impl_phase.calls k _ _ l0 a1 t217 _ ?side1 ?side2 A3.out).mono ?_); (case side1 => exact m42_); (case side2 => exact HC0.out); rintro e w5 ⟨rfl, hb⟩; refine ⟨_, rfl, ?_⟩; have n0_ := Aside0.mk (below_step m0_ hb); clear HB; have HB := n0_; clear n0_; (try clear hb); (try clear hb2); (try clear hk); (try clear hi)))
  go_ret
  exact ⟨m5_, m0_⟩
 ·rw [if_neg c4] at H
  have c4b0 : decide (t217 < 0) = false := decide_eq_false c4
  clear c4
  by_cases c6 : 0 ≤ t217
  ·rw [if_pos c6] at H
   have c6b0 : decide (0 ≤ t217) = true := decide_eq_true c6
   clear c6
   by_cases c7 : t217 < (l0.length : Int)
   ·rw [if_pos c7] at H
    have c7b0 : decide (t217 < (l0.length : Int)) = true := decide_eq_true c7
    clear c7
    replace H := Option.bind_eq_some_iff.mp H
    obtain ⟨t220, A80, H⟩ := H
    replace H : ((impl_bound.f k l0 ((rd_T44 l0 t217).f7)).bind fun t222 => (some (wrap64 (((rd_T44 l0 t217).f5) + (mx t220 t222))))) = some r := H
    have A8 := Aside0.mk A80
    clear A80
    replace H := Option.bind_eq_some_iff.mp H
    obtain ⟨t222, A90, H⟩ := H
    replace H : (some (wrap64 (((rd_T44 l0 t217).f5) + (mx t220 t222)))) = some r := H
    have A9 := Aside0.mk A90
    clear A90
    obtain ⟨ji10, hji10⟩ : ∃ j_ : Int, (mx t220 t222) = j_ := ⟨_, rfl⟩
    replace H : (some (wrap64 (((rd_T44 l0 t217).f5) + (ji10)))) = some r := by first | (rw [hji10] at H; exact H) | (simp only [hji10] at H ⊢; exact H)
    (try rw [hji10] at A3)
    (try rw [hji10] at A8)
    (try rw [hji10] at A9)
    have hji10_ : (if t220 < t222 then t222 else t220) = ji10 := hji10
    obtain rfl := Option.some.inj H
    go_enter Try.func37, Try.ntmps37
    try go_wp2_with (first | ((with_reducible refine gate_callee (f := 36) rfl ?_); refine goesL_ (some 8) rfl rfl Try.func36 (by kernel_rfl) rfl #[.slice A0 l0.length c0, .string a1] rfl m1_ ?_; (with_reducible refine (impl_phase.calls k _ _ l0 a1 t217 _ ?side1 ?side2 A3.out).mono ?_); (case side1 => exact m42_); (case side2 => exact HC0.out); rintro e w11 ⟨rfl, hb⟩; refine ⟨_, rfl, ?_⟩; have n0_ := Aside0.mk (below_step m0_ hb); clear HB; have HB := n0_; clear n0_; (try clear hb); (try clear hb2); (try clear hk); (try clear hi)))
    have n0_ := Aside0.mk (below_drew1 HB.out)
    clear HB
    have HB := n0_
    clear n0_
    have p218 : 0 ≤ (t217 : Int) := of_decide_eq_true m6_
    have q218 : t217 < (l0.length : Int) := of_decide_eq_true m6_
    obtain ⟨ad218, e218, hx218_0, hx218_1, hx218_2, hx218_3, hx218_4, hx218_5, hx218_6, hx218_7⟩ := at_T44 HR0.out t217 p218 q218
    have hw218_7 := hx218_7
    have hw218_6 := hx218_6
    have hw218_5 := hx218_5
    have hw218_4 := hx218_4
    have hw218_3 := hx218_3
    have hw218_2 := hx218_2
    have hw218_1 := hx218_1
    have hw218_0 := hx218_0
    cases e218
    replace hx218_0 := (HB.out.cell (World.block_lt_of_cell? w _ hx218_0)).trans hx218_0
    replace hx218_1 := (HB.out.cell (World.block_lt_of_cell? w _ hx218_1)).trans hx218_1
    replace hx218_2 := (HB.out.cell (World.block_lt_of_cell? w _ hx218_2)).trans hx218_2
    replace hx218_3 := (HB.out.cell (World.block_lt_of_cell? w _ hx218_3)).trans hx218_3
    replace hx218_4 := (HB.out.cell (World.block_lt_of_cell? w _ hx218_4)).trans hx218_4
    replace hx218_5 := (HB.out.cell (World.block_lt_of_cell? w _ hx218_5)).trans hx218_5
    replace hx218_6 := (HB.out.cell (World.block_lt_of_cell? w _ hx218_6)).trans hx218_6
    replace hx218_7 := (HB.out.cell (World.block_lt_of_cell? w _ hx218_7)).trans hx218_7
    replace p218 := eq_true p218
    replace q218 := eq_true q218
    have p219 : 0 ≤ (t217 : Int) := of_decide_eq_true m6_
    have q219 : t217 < (l0.length : Int) := of_decide_eq_true m6_
    obtain ⟨ad219, e219, hx219_0, hx219_1, hx219_2, hx219_3, hx219_4, hx219_5, hx219_6, hx219_7⟩ := at_T44 HR0.out t217 p219 q219
    have hw219_7 := hx219_7
    have hw219_6 := hx219_6
    have hw219_5 := hx219_5
    have hw219_4 := hx219_4
    have hw219_3 := hx219_3
    have hw219_2 := hx219_2
    have hw219_1 := hx219_1
    have hw219_0 := hx219_0
    obtain rfl : ad218 = ad219 := (by injection e219)
    replace hx219_0 := (HB.out.cell (World.block_lt_of_cell? w _ hx219_0)).trans hx219_0
    replace hx219_1 := (HB.out.cell (World.block_lt_of_cell? w _ hx219_1)).trans hx219_1
    replace hx219_2 := (HB.out.cell (World.block_lt_of_cell? w _ hx219_2)).trans hx219_2
    replace hx219_3 := (HB.out.cell (World.block_lt_of_cell? w _ hx219_3)).trans hx219_3
    replace hx219_4 := (HB.out.cell (World.block_lt_of_cell? w _ hx219_4)).trans hx219_4
    replace hx219_5 := (HB.out.cell (World.block_lt_of_cell? w _ hx219_5)).trans hx219_5
    replace hx219_6 := (HB.out.cell (World.block_lt_of_cell? w _ hx219_6)).trans hx219_6
    replace hx219_7 := (HB.out.cell (World.block_lt_of_cell? w _ hx219_7)).trans hx219_7
    replace p219 := eq_true p219
    replace q219 := eq_true q219
    have p221 : 0 ≤ (t217 : Int) := of_decide_eq_true m6_
    have q221 : t217 < (l0.length : Int) := of_decide_eq_true m6_
    obtain ⟨ad221, e221, hx221_0, hx221_1, hx221_2, hx221_3, hx221_4, hx221_5, hx221_6, hx221_7⟩ := at_T44 HR0.out t217 p221 q221
    have hw221_7 := hx221_7
    have hw221_6 := hx221_6
    have hw221_5 := hx221_5
    have hw221_4 := hx221_4
    have hw221_3 := hx221_3
    have hw221_2 := hx221_2
    have hw221_1 := hx221_1
    have hw221_0 := hx221_0
    obtain rfl : ad218 = ad221 := (by injection e221)
    replace hx221_0 := (HB.out.cell (World.block_lt_of_cell? w _ hx221_0)).trans hx221_0
    replace hx221_1 := (HB.out.cell (World.block_lt_of_cell? w _ hx221_1)).trans hx221_1
    replace hx221_2 := (HB.out.cell (World.block_lt_of_cell? w _ hx221_2)).trans hx221_2
    replace hx221_3 := (HB.out.cell (World.block_lt_of_cell? w _ hx221_3)).trans hx221_3
    replace hx221_4 := (HB.out.cell (World.block_lt_of_cell? w _ hx221_4)).trans hx221_4
    replace hx221_5 := (HB.out.cell (World.block_lt_of_cell? w _ hx221_5)).trans hx221_5
    replace hx221_6 := (HB.out.cell (World.block_lt_of_cell? w _ hx221_6)).trans hx221_6
    replace hx221_7 := (HB.out.cell (World.block_lt_of_cell? w _ hx221_7)).trans hx221_7
    replace p221 := eq_true p221
    replace q221 := eq_true q221
    refine start_ (n := 22) (S := fun w' => w'.cell? (ad218.add ((t217).toNat * 8)) = some (.string ((rd_T44 l0 t217).f0)) ∧ w'.cell? ⟨(ad218.add ((t217).toNat * 8)).block, (ad218.add ((t217).toNat * 8)).off + 1, none⟩ = some (.int .i64 ((rd_T44 l0 t217).f1)) ∧ w'.cell? ⟨(ad218.add ((t217).toNat * 8)).block, (ad218.add ((t217).toNat * 8)).off + 2, none⟩ = some (.string ((rd_T44 l0 t217).f2)) ∧ w'.cell? ⟨(ad218.add ((t217).toNat * 8)).block, (ad218.add ((t217).toNat * 8)).off + 3, none⟩ = some (.string ((rd_T44 l0 t217).f3)) ∧ w'.cell? ⟨(ad218.add ((t217).toNat * 8)).block, (ad218.add ((t217).toNat * 8)).off + 4, none⟩ = some (.int .i64 ((rd_T44 l0 t217).f4)) ∧ w'.cell? ⟨(ad218.add ((t217).toNat * 8)).block, (ad218.add ((t217).toNat * 8)).off + 5, none⟩ = some (.int .i64 ((rd_T44 l0 t217).f5)) ∧ w'.cell? ⟨(ad218.add ((t217).toNat * 8)).block, (ad218.add ((t217).toNat * 8)).off + 6, none⟩ = some (.string ((rd_T44 l0 t217).f6)) ∧ w'.cell? ⟨(ad218.add ((t217).toNat * 8)).block, (ad218.add ((t217).toNat * 8)).off + 7, none⟩ = some (.string ((rd_T44 l0 t217).f7)) ∧ w'.cell? (ad218.add ((t217).toNat * 8)) = some (.string ((rd_T44 l0 t217).f0)) ∧ w'.cell? ⟨(ad218.add ((t217).toNat * 8)).block, (ad218.add ((t217).toNat * 8)).off + 1, none⟩ = some (.int .i64 ((rd_T44 l0 t217).f1)) ∧ w'.cell? ⟨(ad218.add ((t217).toNat * 8)).block, (ad218.add ((t217).toNat * 8)).off + 2, none⟩ = some (.string ((rd_T44 l0 t217).f2)) ∧ w'.cell? ⟨(ad218.add ((t217).toNat * 8)).block, (ad218.add ((t217).toNat * 8)).off + 3, none⟩ = some (.string ((rd_T44 l0 t217).f3)) ∧ w'.cell? ⟨(ad218.add ((t217).toNat * 8)).block, (ad218.add ((t217).toNat * 8)).off + 4, none⟩ = some (.int .i64 ((rd_T44 l0 t217).f4)) ∧ w'.cell? ⟨(ad218.add ((t217).toNat * 8)).block, (ad218.add ((t217).toNat * 8)).off + 5, none⟩ = some (.int .i64 ((rd_T44 l0 t217).f5)) ∧ w'.cell? ⟨(ad218.add ((t217).toNat * 8)).block, (ad218.add ((t217).toNat * 8)).off + 6, none⟩ = some (.string ((rd_T44 l0 t217).f6)) ∧ w'.cell? ⟨(ad218.add ((t217).toNat * 8)).block, (ad218.add ((t217).toNat * 8)).off + 7, none⟩ = some (.string ((rd_T44 l0 t217).f7)) ∧ w'.cell? (ad218.add ((t217).toNat * 8)) = some (.string ((rd_T44 l0 t217).f0)) ∧ w'.cell? ⟨(ad218.add ((t217).toNat * 8)).block, (ad218.add ((t217).toNat * 8)).off + 1, none⟩ = some (.int .i64 ((rd_T44 l0 t217).f1)) ∧ w'.cell? ⟨(ad218.add ((t217).toNat * 8)).block, (ad218.add ((t217).toNat * 8)).off + 2, none⟩ = some (.string ((rd_T44 l0 t217).f2)) ∧ w'.cell? ⟨(ad218.add ((t217).toNat * 8)).block, (ad218.add ((t217).toNat * 8)).off + 3, none⟩ = some (.string ((rd_T44 l0 t217).f3)) ∧ w'.cell? ⟨(ad218.add ((t217).toNat * 8)).block, (ad218.add ((t217).toNat * 8)).off + 4, none⟩ = some (.int .i64 ((rd_T44 l0 t217).f4)) ∧ w'.cell? ⟨(ad218.add ((t217).toNat * 8)).block, (ad218.add ((t217).toNat * 8)).off + 5, none⟩ = some (.int .i64 ((rd_T44 l0 t217).f5)) ∧ w'.cell? ⟨(ad218.add ((t217).toNat * 8)).block, (ad218.add ((t217).toNat * 8)).off + 6, none⟩ = some (.string ((rd_T44 l0 t217).f6)) ∧ w'.cell? ⟨(ad218.add ((t217).toNat * 8)).block, (ad218.add ((t217).toNat * 8)).off + 7, none⟩ = some (.string ((rd_T44 l0 t217).f7))) (ds := []) (bm 22 0) (by kernel_rfl) rfl rfl ⟨((HB.out.cell (World.block_lt_of_cell? w _ hw218_0)).trans hw218_0), ((HB.out.cell (World.block_lt_of_cell? w _ hw218_1)).trans hw218_1), ((HB.out.cell (World.block_lt_of_cell? w _ hw218_2)).trans hw218_2), ((HB.out.cell (World.block_lt_of_cell? w _ hw218_3)).trans hw218_3), ((HB.out.cell (World.block_lt_of_cell? w _ hw218_4)).trans hw218_4), ((HB.out.cell (World.block_lt_of_cell? w _ hw218_5)).trans hw218_5), ((HB.out.cell (World.block_lt_of_cell? w _ hw218_6)).trans hw218_6), ((HB.out.cell (World.block_lt_of_cell? w _ hw218_7)).trans hw218_7), ((HB.out.cell (World.block_lt_of_cell? w _ hw219_0)).trans hw219_0), ((HB.out.cell (World.block_lt_of_cell? w _ hw219_1)).trans hw219_1), ((HB.out.cell (World.block_lt_of_cell? w _ hw219_2)).trans hw219_2), ((HB.out.cell (World.block_lt_of_cell? w _ hw219_3)).trans hw219_3), ((HB.out.cell (World.block_lt_of_cell? w _ hw219_4)).trans hw219_4), ((HB.out.cell (World.block_lt_of_cell? w _ hw219_5)).trans hw219_5), ((HB.out.cell (World.block_lt_of_cell? w _ hw219_6)).trans hw219_6), ((HB.out.cell (World.block_lt_of_cell? w _ hw219_7)).trans hw219_7), ((HB.out.cell (World.block_lt_of_cell? w _ hw221_0)).trans hw221_0), ((HB.out.cell (World.block_lt_of_cell? w _ hw221_1)).trans hw221_1), ((HB.out.cell (World.block_lt_of_cell? w _ hw221_2)).trans hw221_2), ((HB.out.cell (World.block_lt_of_cell? w _ hw221_3)).trans hw221_3), ((HB.out.cell (World.block_lt_of_cell? w _ hw221_4)).trans hw221_4), ((HB.out.cell (World.block_lt_of_cell? w _ hw221_5)).trans hw221_5), ((HB.out.cell (World.block_lt_of_cell? w _ hw221_6)).trans hw221_6), ((HB.out.cell (World.block_lt_of_cell? w _ hw221_7)).trans hw221_7)⟩ (fun hHeld => ?_); refine with_tabW impl_bound.tab4 impl_bound.bits4 (fun HT_ HW_ => ?_)
    generalize w11.drew = w12 at HB hx218_0 hx218_1 hx218_2 hx218_3 hx218_4 hx218_5 hx218_6 hx218_7 hx219_0 hx219_1 hx219_2 hx219_3 hx219_4 hx219_5 hx219_6 hx219_7 hx221_0 hx221_1 hx221_2 hx221_3 hx221_4 hx221_5 hx221_6 hx221_7 hHeld ⊢
    refine pure_ (i := 0) (N := some 11) (v := ?_) (a' := ?_) (bm 22 1) rfl rfl (any_of HT_.out (by kernel_rfl)) (fun _ _ _ h => h) (Or.inl ⟨(by rfl), ?_⟩) ?_ ?_; rotate_left; intro w'; go_simp; with_reducible rfl; rotate_left; simp only [Act.put, List.setIfInBounds_toArray, List.set_cons_zero, List.set_cons_succ, i64_w, i32_w]; rfl
    refine pure_ (i := 1) (N := some 12) (v := ?_) (a' := ?_) (bm 22 3) rfl rfl (any_of HT_.out (by kernel_rfl)) (fun _ _ _ h => h) (Or.inl ⟨(by rfl), ?_⟩) ?_ ?_; rotate_left; intro w'; go_simp; with_reducible rfl; rotate_left; simp only [Act.put, List.setIfInBounds_toArray, List.set_cons_zero, List.set_cons_succ, i64_w, i32_w]; rfl
    refine pure_ (i := 2) (N := some 13) (v := ?_) (a' := ?_) (bm 22 7) rfl rfl (any_of HT_.out (by kernel_rfl)) (fun _ _ _ h => h) (Or.inl ⟨(by rfl), ?_⟩) ?_ ?_; rotate_left; intro w'; go_simp; with_reducible rfl; rotate_left; simp only [Act.put, List.setIfInBounds_toArray, List.set_cons_zero, List.set_cons_succ, i64_w, i32_w]; rfl
    refine pure_ (i := 3) (N := some 14) (v := ?_) (a' := ?_) (bm 22 15) rfl rfl (any_of HT_.out (by kernel_rfl)) (fun _ _ _ h => h) (Or.inl ⟨(by rfl), ?_⟩) ?_ ?_; rotate_left; intro w'; go_simp; with_reducible rfl; rotate_left; simp only [Act.put, List.setIfInBounds_toArray, List.set_cons_zero, List.set_cons_succ, i64_w, i32_w]; rfl
    refine pure_ (i := 5) (N := some 16) (v := ?_) (a' := ?_) (bm 22 47) rfl rfl (any_of HT_.out (by kernel_rfl)) (fun _ _ _ h => h) (Or.inl ⟨(by rfl), ?_⟩) ?_ ?_; rotate_left; intro w'; go_simp; with_reducible rfl; rotate_left; simp only [Act.put, List.setIfInBounds_toArray, List.set_cons_zero, List.set_cons_succ, i64_w, i32_w]; rfl
    refine pure_ (i := 6) (N := some 17) (v := ?_) (a' := ?_) (bm 22 111) rfl rfl (any_of HT_.out (by kernel_rfl)) (fun _ _ _ h => h) (Or.inl ⟨(by rfl), ?_⟩) ?_ ?_; rotate_left; intro w'; go_simp; with_reducible rfl; rotate_left; simp only [Act.put, List.setIfInBounds_toArray, List.set_cons_zero, List.set_cons_succ, i64_w, i32_w]; rfl
    refine pure_ (i := 7) (N := some 18) (v := ?_) (a' := ?_) (bm 22 239) rfl rfl (any_of HT_.out (by kernel_rfl)) (fun _ _ _ h => h) (Or.inl ⟨(by rfl), ?_⟩) ?_ ?_; rotate_left; intro w'; go_simp; with_reducible rfl; rotate_left; simp only [Act.put, List.setIfInBounds_toArray, List.set_cons_zero, List.set_cons_succ, i64_w, i32_w]; rfl
    refine pure_ (i := 8) (N := some 19) (v := ?_) (a' := ?_) (bm 22 495) rfl rfl (any_of HT_.out (by kernel_rfl)) (fun _ _ _ h => h) (Or.inl ⟨(by rfl), ?_⟩) ?_ ?_; rotate_left; intro w'; go_simp; with_reducible rfl; rotate_left; simp only [Act.put, List.setIfInBounds_toArray, List.set_cons_zero, List.set_cons_succ, i64_w, i32_w]; rfl
    refine pure_ (i := 9) (N := some 20) (v := ?_) (a' := ?_) (bm 22 1007) rfl rfl (any_of HT_.out (by kernel_rfl)) (fun _ _ _ h => h) (Or.inl ⟨(by rfl), ?_⟩) ?_ ?_; rotate_left; intro w'; go_simp; with_reducible rfl; rotate_left; simp only [Act.put, List.setIfInBounds_toArray, List.set_cons_zero, List.set_cons_succ, i64_w, i32_w]; rfl
    refine pure_ (i := 12) (N := some 23) (v := ?_) (a' := ?_) (bm 22 5103) rfl rfl (any_of HT_.out (by kernel_rfl)) (fun _ _ _ h => h) (Or.inl ⟨(by rfl), ?_⟩) ?_ ?_; rotate_left; intro w'; go_simp; with_reducible rfl; rotate_left; simp only [Act.put, List.setIfInBounds_toArray, List.set_cons_zero, List.set_cons_succ, i64_w, i32_w]; rfl
    refine pure_ (i := 13) (N := some 24) (v := ?_) (a' := ?_) (bm 22 13295) rfl rfl (any_of HT_.out (by kernel_rfl)) (fun _ _ _ h => h) (Or.inl ⟨(by rfl), ?_⟩) ?_ ?_; rotate_left; intro w'; go_simp; with_reducible rfl; rotate_left; simp only [Act.put, List.setIfInBounds_toArray, List.set_cons_zero, List.set_cons_succ, i64_w, i32_w]; rfl
    refine pure_ (i := 14) (N := some 25) (v := ?_) (a' := ?_) (bm 22 29679) rfl rfl (any_of HT_.out (by kernel_rfl)) (fun _ _ _ h => h) (Or.inl ⟨(by rfl), ?_⟩) ?_ ?_; rotate_left; intro w'; go_simp; with_reducible rfl; rotate_left; simp only [Act.put, List.setIfInBounds_toArray, List.set_cons_zero, List.set_cons_succ, i64_w, i32_w]; rfl
    refine pure_ (i := 15) (N := some 26) (v := ?_) (a' := ?_) (bm 22 62447) rfl rfl (any_of HT_.out (by kernel_rfl)) (fun _ _ _ h => h) (Or.inl ⟨(by rfl), ?_⟩) ?_ ?_; rotate_left; intro w'; go_simp; with_reducible rfl; rotate_left; simp only [Act.put, List.setIfInBounds_toArray, List.set_cons_zero, List.set_cons_succ, i64_w, i32_w]; rfl
    refine pure_ (i := 16) (N := some 27) (v := ?_) (a' := ?_) (bm 22 127983) rfl rfl (any_of HT_.out (by kernel_rfl)) (fun _ _ _ h => h) (Or.inl ⟨(by rfl), ?_⟩) ?_ ?_; rotate_left; intro w'; go_simp; with_reducible rfl; rotate_left; simp only [Act.put, List.setIfInBounds_toArray, List.set_cons_zero, List.set_cons_succ, i64_w, i32_w]; rfl
    refine take_ (i := 4) (N := some 15) (v := ?_) (a' := ?_) (bm 22 127999) rfl rfl (take_ofW HT_.out HW_.out (by kernel_rfl)) (fun _ _ _ h => h) (Or.inl ⟨(by rfl), ?_⟩) hHeld ?_ ?_; rotate_left; rintro w' ⟨s0, s1, s2, s3, s4, s5, s6, s7, s8, s9, s10, s11, s12, s13, s14, s15, s16, s17, s18, s19, s20, s21, s22, s23⟩; go_simp; with_reducible rfl; rotate_left; simp only [Act.put, List.setIfInBounds_toArray, List.set_cons_zero, List.set_cons_succ, i64_w, i32_w]; rfl
    refine take_ (i := 10) (N := some 21) (v := ?_) (a' := ?_) (bm 22 129023) rfl rfl (take_ofW HT_.out HW_.out (by kernel_rfl)) (fun _ _ _ h => h) (Or.inl ⟨(by rfl), ?_⟩) hHeld ?_ ?_; rotate_left; rintro w' ⟨s0, s1, s2, s3, s4, s5, s6, s7, s8, s9, s10, s11, s12, s13, s14, s15, s16, s17, s18, s19, s20, s21, s22, s23⟩; go_simp; with_reducible rfl; rotate_left; simp only [Act.put, List.setIfInBounds_toArray, List.set_cons_zero, List.set_cons_succ, i64_w, i32_w]; rfl
    refine take_ (i := 17) (N := some 28) (v := ?_) (a' := ?_) (bm 22 260095) rfl rfl (take_ofW HT_.out HW_.out (by kernel_rfl)) (fun _ _ _ h => h) (Or.inl ⟨(by rfl), ?_⟩) hHeld ?_ ?_; rotate_left; rintro w' ⟨s0, s1, s2, s3, s4, s5, s6, s7, s8, s9, s10, s11, s12, s13, s14, s15, s16, s17, s18, s19, s20, s21, s22, s23⟩; go_simp; with_reducible rfl; rotate_left; simp only [Act.put, List.setIfInBounds_toArray, List.set_cons_zero, List.set_cons_succ, i64_w, i32_w]; rfl
    refine one_ (i := 11) (N := some 22) (bm 22 262143) rfl rfl (one_of HT_.out (by kernel_rfl)) (by decide) (fun K hK => ?_)
    refine goes_ Try.func37 (by kernel_rfl) rfl #[.slice (some ad218) l0.length c0, .string ((rd_T44 l0 t217).f6)] (by rfl) rfl rfl m1_ ?_
    with_reducible refine (ih k (by omega) _ _ l0 ((rd_T44 l0 t217).f6) t220 _ ?side1 ?side2 A8.out).mono ?_
    (case side1 => exact m9_)
    (case side2 => exact HC0.out)
    rintro e w13 ⟨rfl, hb⟩
    refine ⟨_, rfl, ?_⟩
    have n0_ := Aside0.mk (below_step m0_ hb)
    clear HB
    have HB := n0_
    clear n0_
    (try clear hb)
    (try clear hb2)
    (try clear hk)
    (try clear hi)
    refine hK.out _ _ ⟨((HB.out.cell (World.block_lt_of_cell? w _ hw218_0)).trans hw218_0), ((HB.out.cell (World.block_lt_of_cell? w _ hw218_1)).trans hw218_1), ((HB.out.cell (World.block_lt_of_cell? w _ hw218_2)).trans hw218_2), ((HB.out.cell (World.block_lt_of_cell? w _ hw218_3)).trans hw218_3), ((HB.out.cell (World.block_lt_of_cell? w _ hw218_4)).trans hw218_4), ((HB.out.cell (World.block_lt_of_cell? w _ hw218_5)).trans hw218_5), ((HB.out.cell (World.block_lt_of_cell? w _ hw218_6)).trans hw218_6), ((HB.out.cell (World.block_lt_of_cell? w _ hw218_7)).trans hw218_7), ((HB.out.cell (World.block_lt_of_cell? w _ hw219_0)).trans hw219_0), ((HB.out.cell (World.block_lt_of_cell? w _ hw219_1)).trans hw219_1), ((HB.out.cell (World.block_lt_of_cell? w _ hw219_2)).trans hw219_2), ((HB.out.cell (World.block_lt_of_cell? w _ hw219_3)).trans hw219_3), ((HB.out.cell (World.block_lt_of_cell? w _ hw219_4)).trans hw219_4), ((HB.out.cell (World.block_lt_of_cell? w _ hw219_5)).trans hw219_5), ((HB.out.cell (World.block_lt_of_cell? w _ hw219_6)).trans hw219_6), ((HB.out.cell (World.block_lt_of_cell? w _ hw219_7)).trans hw219_7), ((HB.out.cell (World.block_lt_of_cell? w _ hw221_0)).trans hw221_0), ((HB.out.cell (World.block_lt_of_cell? w _ hw221_1)).trans hw221_1), ((HB.out.cell (World.block_lt_of_cell? w _ hw221_2)).trans hw221_2), ((HB.out.cell (World.block_lt_of_cell? w _ hw221_3)).trans hw221_3), ((HB.out.cell (World.block_lt_of_cell? w _ hw221_4)).trans hw221_4), ((HB.out.cell (World.block_lt_of_cell? w _ hw221_5)).trans hw221_5), ((HB.out.cell (World.block_lt_of_cell? w _ hw221_6)).trans hw221_6), ((HB.out.cell (World.block_lt_of_cell? w _ hw221_7)).trans hw221_7)⟩ (fun hHeld => ?_)
    clear hK K
    refine no_ ?_
    refine one_ (i := 18) (N := some 29) (bm 22 524287) rfl rfl (one_of HT_.out (by kernel_rfl)) (by decide) (fun K hK => ?_)
    refine goes_ Try.func37 (by kernel_rfl) rfl #[.slice (some ad218) l0.length c0, .string ((rd_T44 l0 t217).f7)] (by rfl) rfl rfl m1_ ?_
    with_reducible refine (ih k (by omega) _ _ l0 ((rd_T44 l0 t217).f7) t222 _ ?side1 ?side2 A9.out).mono ?_
    (case side1 => exact m9_)
    (case side2 => exact HC0.out)
    rintro e w14 ⟨rfl, hb⟩
    refine ⟨_, rfl, ?_⟩
    have n0_ := Aside0.mk (below_step m0_ hb)
    clear HB
    have HB := n0_
    clear n0_
    (try clear hb)
    (try clear hb2)
    (try clear hk)
    (try clear hi)
    refine hK.out _ _ ⟨((HB.out.cell (World.block_lt_of_cell? w _ hw218_0)).trans hw218_0), ((HB.out.cell (World.block_lt_of_cell? w _ hw218_1)).trans hw218_1), ((HB.out.cell (World.block_lt_of_cell? w _ hw218_2)).trans hw218_2), ((HB.out.cell (World.block_lt_of_cell? w _ hw218_3)).trans hw218_3), ((HB.out.cell (World.block_lt_of_cell? w _ hw218_4)).trans hw218_4), ((HB.out.cell (World.block_lt_of_cell? w _ hw218_5)).trans hw218_5), ((HB.out.cell (World.block_lt_of_cell? w _ hw218_6)).trans hw218_6), ((HB.out.cell (World.block_lt_of_cell? w _ hw218_7)).trans hw218_7), ((HB.out.cell (World.block_lt_of_cell? w _ hw219_0)).trans hw219_0), ((HB.out.cell (World.block_lt_of_cell? w _ hw219_1)).trans hw219_1), ((HB.out.cell (World.block_lt_of_cell? w _ hw219_2)).trans hw219_2), ((HB.out.cell (World.block_lt_of_cell? w _ hw219_3)).trans hw219_3), ((HB.out.cell (World.block_lt_of_cell? w _ hw219_4)).trans hw219_4), ((HB.out.cell (World.block_lt_of_cell? w _ hw219_5)).trans hw219_5), ((HB.out.cell (World.block_lt_of_cell? w _ hw219_6)).trans hw219_6), ((HB.out.cell (World.block_lt_of_cell? w _ hw219_7)).trans hw219_7), ((HB.out.cell (World.block_lt_of_cell? w _ hw221_0)).trans hw221_0), ((HB.out.cell (World.block_lt_of_cell? w _ hw221_1)).trans hw221_1), ((HB.out.cell (World.block_lt_of_cell? w _ hw221_2)).trans hw221_2), ((HB.out.cell (World.block_lt_of_cell? w _ hw221_3)).trans hw221_3), ((HB.out.cell (World.block_lt_of_cell? w _ hw221_4)).trans hw221_4), ((HB.out.cell (World.block_lt_of_cell? w _ hw221_5)).trans hw221_5), ((HB.out.cell (World.block_lt_of_cell? w _ hw221_6)).trans hw221_6), ((HB.out.cell (World.block_lt_of_cell? w _ hw221_7)).trans hw221_7)⟩ (fun hHeld => ?_)
    clear hK K
    refine no_ ?_
    refine pure_ (i := 19) (N := some 30) (v := ?_) (a' := ?_) (bm 22 1048575) rfl rfl (any_of HT_.out (by kernel_rfl)) (fun _ _ _ h => h) (Or.inl ⟨(by rfl), ?_⟩) ?_ ?_; rotate_left; intro w'; go_simp; with_reducible rfl; rotate_left; simp only [Act.put, List.setIfInBounds_toArray, List.set_cons_zero, List.set_cons_succ, i64_w, i32_w]; rfl
    refine pure_ (i := 20) (N := some 31) (v := ?_) (a' := ?_) (bm 22 2097151) rfl rfl (any_of HT_.out (by kernel_rfl)) (fun _ _ _ h => h) (Or.inl ⟨(by rfl), ?_⟩) ?_ ?_; rotate_left; intro w'; go_simp; with_reducible rfl; rotate_left; simp only [Act.put, List.setIfInBounds_toArray, List.set_cons_zero, List.set_cons_succ, i64_w, i32_w]; rfl
    refine pure_ (i := 21) (N := some 4) (v := ?_) (a' := ?_) (bm 22 4194303) rfl rfl (any_of HT_.out (by kernel_rfl)) (fun _ _ _ h => h) (Or.inl ⟨(by rfl), ?_⟩) ?_ ?_; rotate_left; intro w'; go_simp; with_reducible rfl; rotate_left; simp only [Act.put, List.setIfInBounds_toArray, List.set_cons_zero, List.set_cons_succ, i64_w, i32_w]; rfl
    refine done_ (done_of HT_.out (by kernel_rfl)) ?_
    try go_wp2
    go_ret
    exact ⟨(by first | rfl | (simp [errW_none, errW_some] <;> rfl) | (simp only [← hji10]; first | rfl | (simp [errW_none, errW_some] <;> rfl)) | (simp [*, errW_none, errW_some] <;> rfl)), m0_⟩
   ·rw [if_neg c7] at H
    exact absurd H (by simp)
  ·rw [if_neg c6] at H
   exact absurd H (by simp)

end Go.Proofs.Ytpihcdbkdldbcaa.QFnExactRecGo
