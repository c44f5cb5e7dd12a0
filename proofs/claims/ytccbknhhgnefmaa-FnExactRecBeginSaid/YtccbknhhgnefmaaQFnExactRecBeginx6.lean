-- Laid by a program of this session (a changed copy of the kit's print).
import Derived.Test.YtccbknhhgnefmaaQFnExactRecBeginx0
import Derived.Test.YtccbknhhgnefmaaQFnExactRecBeginx4
import Derived.Test.YtccbknhhgnefmaaQFnExactRecBeginx5
namespace Go.Proofs.Ytccbknhhgnefmaa.QFnExactRecBegin
open Go.RowKit Go.Proofs.YtccbknhhgnefmaaW.PrintWords Go.Proofs.YtccbknhhgnefmaaW.PrintLast Go.Proofs.YtccbknhhgnefmaaW.PrintMore
attribute [local go_sem] max2_int min2_int max_two min_two max_three min_three max_four min_four   -- for this text's walks alone
set_option linter.unusedVariables false
set_option linter.unusedSimpArgs false

/-! ### impl_RecPhaseOk: function 25 -/
mutual
def impl_RecPhaseOk.j0 : Nat → Bool → ByteArray → Int → ByteArray → ByteArray → Int → Int → ByteArray → ByteArray → Option (Bool)
  | 0, _, _, _, _, _, _, _, _, _ => none
  | k + 1, x42, x179000, x179001, x179002, x179003, x179004, x179005, x179006, x179007 => if x42 = true then (some false) else (if x179001 = 1 then ((impl_isName.f k x179003).bind fun t184 => (if t184 = true then (if x179004 ≤ 1000 then (if x179004 ≥ 1 then (some true) else (some false)) else (some false)) else (some false))) else (if x179001 = 2 then (if x179002.toList = x179003.toList then (some false) else ((impl_isName.f k x179003).bind fun t185 => (if t185 = true then (if x179004 ≤ 1000 then (if x179004 ≥ 1 then (some true) else (some false)) else (some false)) else (some false)))) else (if x179001 = 3 then (if x179003.toList = ([] : List UInt8) then (if x179004 ≤ x179005 then (if x179004 ≥ 1 then (some true) else (if x179005 = 0 then (some (x179004 == 0)) else (some false))) else (some false)) else (some false)) else (if x179001 = 4 then (impl_RecPhaseOk.j1 k false (x179001 == 4) x179000 x179001 x179002 x179003 x179004 x179005 x179006 x179007) else (impl_RecPhaseOk.j1 k false (x179001 == 5) x179000 x179001 x179002 x179003 x179004 x179005 x179006 x179007)))))
def impl_RecPhaseOk.j1 : Nat → Bool → Bool → ByteArray → Int → ByteArray → ByteArray → Int → Int → ByteArray → ByteArray → Option (Bool)
  | 0, _, _, _, _, _, _, _, _, _, _ => none
  | k + 1, x4, x58, x179000, x179001, x179002, x179003, x179004, x179005, x179006, x179007 => if x58 = true then (if x4 = true then ((impl_isName.f k x179003).bind fun t186 => (if t186 = true then (if x179004 ≤ 0 then (if x179004 ≥ 1 then (some true) else (some (x179004 == 0))) else (some false)) else (some false))) else (if x179003.toList = ([] : List UInt8) then (if x179004 ≤ 0 then (if x179004 ≥ 1 then (some true) else (some (x179004 == 0))) else (some false)) else (some false))) else (some false)
end
def impl_RecPhaseOk.f (k : Nat) (a0_0 : ByteArray) (a0_1 : Int) (a0_2 : ByteArray) (a0_3 : ByteArray) (a0_4 : Int) (a0_5 : Int) (a0_6 : ByteArray) (a0_7 : ByteArray) : Option (Bool) := (impl_isName.f k a0_0).bind fun t179 => (if t179 = true then ((impl_RecEnd.f a0_0).bind fun t180 => (if t180 = 0 then (if a0_5 < 1 then (impl_RecPhaseOk.j0 k true a0_0 a0_1 a0_2 a0_3 a0_4 a0_5 a0_6 a0_7) else (if a0_5 > 1000 then (impl_RecPhaseOk.j0 k true a0_0 a0_1 a0_2 a0_3 a0_4 a0_5 a0_6 a0_7) else ((impl_isName.f k a0_2).bind fun t181 => (if t181 = true then ((impl_isName.f k a0_6).bind fun t182 => (if t182 = true then ((impl_isName.f k a0_7).bind fun t183 => (impl_RecPhaseOk.j0 k (!t183) a0_0 a0_1 a0_2 a0_3 a0_4 a0_5 a0_6 a0_7)) else (impl_RecPhaseOk.j0 k true a0_0 a0_1 a0_2 a0_3 a0_4 a0_5 a0_6 a0_7))) else (impl_RecPhaseOk.j0 k true a0_0 a0_1 a0_2 a0_3 a0_4 a0_5 a0_6 a0_7))))) else (impl_RecPhaseOk.j0 k true a0_0 a0_1 a0_2 a0_3 a0_4 a0_5 a0_6 a0_7))) else (impl_RecPhaseOk.j0 k true a0_0 a0_1 a0_2 a0_3 a0_4 a0_5 a0_6 a0_7))
theorem impl_RecPhaseOk.mono_l : ∀ k, (∀ y0 y1 y2 y3 y4 y5 y6 y7 y8, LeO (impl_RecPhaseOk.j0 k y0 y1 y2 y3 y4 y5 y6 y7 y8) (impl_RecPhaseOk.j0 (k + 1) y0 y1 y2 y3 y4 y5 y6 y7 y8)) ∧ (∀ y0 y1 y2 y3 y4 y5 y6 y7 y8 y9, LeO (impl_RecPhaseOk.j1 k y0 y1 y2 y3 y4 y5 y6 y7 y8 y9) (impl_RecPhaseOk.j1 (k + 1) y0 y1 y2 y3 y4 y5 y6 y7 y8 y9))
  | 0 => ⟨fun _ _ _ _ _ _ _ _ _ r h => by simp [impl_RecPhaseOk.j0] at h, fun _ _ _ _ _ _ _ _ _ _ r h => by simp [impl_RecPhaseOk.j1] at h⟩
  | k + 1 => by
    obtain ⟨ih0, ih1⟩ := impl_RecPhaseOk.mono_l k
    refine ⟨?_, ?_⟩
    · intro y0 y1 y2 y3 y4 y5 y6 y7 y8
      unfold impl_RecPhaseOk.j0
      repeat' first
      | (with_reducible exact ih0 _ _ _ _ _ _ _ _ _)
      | (with_reducible exact ih1 _ _ _ _ _ _ _ _ _ _)
      | (with_reducible exact impl_isName.mono _ _)
      | (with_reducible exact LeO.refl _)
      | (with_reducible exact LeO.none _)
      | (with_reducible refine LeO.ite ?_ ?_)
      | (with_reducible refine LeO.bind ?_ (fun _ => ?_))
      | exact ih0 _ _ _ _ _ _ _ _ _
      | exact ih1 _ _ _ _ _ _ _ _ _ _
      | exact impl_isName.mono _ _
      | exact LeO.none _
      | refine LeO.ite ?_ ?_
      | refine LeO.bind ?_ (fun _ => ?_)
    · intro y0 y1 y2 y3 y4 y5 y6 y7 y8 y9
      unfold impl_RecPhaseOk.j1
      repeat' first
      | (with_reducible exact ih0 _ _ _ _ _ _ _ _ _)
      | (with_reducible exact ih1 _ _ _ _ _ _ _ _ _ _)
      | (with_reducible exact impl_isName.mono _ _)
      | (with_reducible exact LeO.refl _)
      | (with_reducible exact LeO.none _)
      | (with_reducible refine LeO.ite ?_ ?_)
      | (with_reducible refine LeO.bind ?_ (fun _ => ?_))
      | exact ih0 _ _ _ _ _ _ _ _ _
      | exact ih1 _ _ _ _ _ _ _ _ _ _
      | exact impl_isName.mono _ _
      | exact LeO.none _
      | refine LeO.ite ?_ ?_
      | refine LeO.bind ?_ (fun _ => ?_)
theorem impl_RecPhaseOk.mono : ∀ a0 a1 a2 a3 a4 a5 a6 a7 k, LeO (impl_RecPhaseOk.f k a0 a1 a2 a3 a4 a5 a6 a7) (impl_RecPhaseOk.f (k + 1) a0 a1 a2 a3 a4 a5 a6 a7) := by
  intro a0 a1 a2 a3 a4 a5 a6 a7 k
  obtain ⟨ih0, ih1⟩ := impl_RecPhaseOk.mono_l k
  unfold impl_RecPhaseOk.f
  repeat' first
      | (with_reducible exact ih0 _ _ _ _ _ _ _ _ _)
      | (with_reducible exact ih1 _ _ _ _ _ _ _ _ _ _)
      | (with_reducible exact impl_isName.mono _ _)
      | (with_reducible exact LeO.refl _)
      | (with_reducible exact LeO.none _)
      | (with_reducible refine LeO.ite ?_ ?_)
      | (with_reducible refine LeO.bind ?_ (fun _ => ?_))
      | exact ih0 _ _ _ _ _ _ _ _ _
      | exact ih1 _ _ _ _ _ _ _ _ _ _
      | exact impl_isName.mono _ _
      | exact LeO.none _
      | refine LeO.ite ?_ ?_
      | refine LeO.bind ?_ (fun _ => ?_)
set_option maxHeartbeats 8000000 in
set_option maxRecDepth 100000 in
theorem impl_RecPhaseOk.calls (k : Nat) (a0_0 : ByteArray) (a0_1 : Int) (a0_2 : ByteArray) (a0_3 : ByteArray) (a0_4 : Int) (a0_5 : Int) (a0_6 : ByteArray) (a0_7 : ByteArray) (r : Bool) (w : World) (h : impl_RecPhaseOk.f k a0_0 a0_1 a0_2 a0_3 a0_4 a0_5 a0_6 a0_7 = some r) :
    Calls Try.prog 25 #[.agg #[.string a0_0, .int .i64 a0_1, .string a0_2, .string a0_3, .int .i64 a0_4, .int .i64 a0_5, .string a0_6, .string a0_7]] w fun e w' => e = .returned (.bool r) ∧ Below w.heap.size w w' := by
  have hu35 := Try.underlying35
  have HB := Aside0.mk (Below.refl w.heap.size w)
  have H : ((impl_isName.f k a0_0).bind fun t179 => (if t179 = true then ((impl_RecEnd.f a0_0).bind fun t180 => (if t180 = 0 then (if a0_5 < 1 then (impl_RecPhaseOk.j0 k true a0_0 a0_1 a0_2 a0_3 a0_4 a0_5 a0_6 a0_7) else (if a0_5 > 1000 then (impl_RecPhaseOk.j0 k true a0_0 a0_1 a0_2 a0_3 a0_4 a0_5 a0_6 a0_7) else ((impl_isName.f k a0_2).bind fun t181 => (if t181 = true then ((impl_isName.f k a0_6).bind fun t182 => (if t182 = true then ((impl_isName.f k a0_7).bind fun t183 => (impl_RecPhaseOk.j0 k (!t183) a0_0 a0_1 a0_2 a0_3 a0_4 a0_5 a0_6 a0_7)) else (impl_RecPhaseOk.j0 k true a0_0 a0_1 a0_2 a0_3 a0_4 a0_5 a0_6 a0_7))) else (impl_RecPhaseOk.j0 k true a0_0 a0_1 a0_2 a0_3 a0_4 a0_5 a0_6 a0_7))))) else (impl_RecPhaseOk.j0 k true a0_0 a0_1 a0_2 a0_3 a0_4 a0_5 a0_6 a0_7))) else (impl_RecPhaseOk.j0 k true a0_0 a0_1 a0_2 a0_3 a0_4 a0_5 a0_6 a0_7))) = some r := h
  clear h
  have HC2 := Aside0.mk H
  clear H
  go_enter Try.func25, Try.ntmps25
  go_upto_region 1 with (first | ((with_reducible refine gate_dst (N := 1) rfl ?_); refine box_event ?hg (N := 1) ?hd (cs := #[.string a0_0, .int .i64 a0_1, .string a0_2, .string a0_3, .int .i64 a0_4, .int .i64 a0_5, .string a0_6, .string a0_7]) (t := 35) ?hr ?_; (case hd => rfl); (case hg => rfl); (case hr => first | (go_simp; done) | (go_simp; rfl)); intro gb178 hg w3 hbox hb; have n0_ := Aside0.mk (below_step (by repeat (first | (with_reducible first | exact HB.out | apply below_alloc | apply pw_below_drewN | apply below_drew1) | exact HB.out)) hb); have n1_ := Aside0.mk (hbox); have n2_ := Aside0.mk ((by rw [hg]; exact (below_size (by repeat (first | (with_reducible first | exact HB.out | apply below_alloc | apply pw_below_drewN | apply below_drew1) | exact HB.out))) : w.heap.size ≤ gb178)); have n3_ := Aside0.mk ((by rw [hg]; exact (below_size (by repeat (first | (with_reducible first | exact HB.out | apply below_alloc | apply pw_below_drewN | apply below_drew1) | exact HB.out))) : w.heap.size ≤ gb178)); clear HB; have HB := n0_; have BK178 := n1_; have GW178 := n2_; have GE178 := n3_; clear n0_ n1_ n2_ n3_; clear hb hbox hg))
  (try simp only [Act.put, List.setIfInBounds_toArray, List.set_cons_zero, List.set_cons_succ])
  go_cut [42] (fun v42 wc => ∃ (kq : Nat) (x42_1 : Bool), v42 = .bool x42_1 ∧ Aside0 (impl_RecPhaseOk.j0 kq x42_1 a0_0 a0_1 a0_2 a0_3 a0_4 a0_5 a0_6 a0_7 = some r) ∧ Aside0 (kq ≤ k) ∧ Aside0 (wc.heap[gb178]? = some (.cells #[.string a0_0, .int .i64 a0_1, .string a0_2, .string a0_3, .int .i64 a0_4, .int .i64 a0_5, .string a0_6, .string a0_7] 35 (0, 0))) ∧ Aside0 (Below w.heap.size w wc))
  case first =>
    have H := HC2.out
    clear HC2
    replace H := Option.bind_eq_some_iff.mp H
    obtain ⟨t179, A40, H⟩ := H
    replace H : (if t179 = true then ((impl_RecEnd.f a0_0).bind fun t180 => (if t180 = 0 then (if a0_5 < 1 then (impl_RecPhaseOk.j0 k true a0_0 a0_1 a0_2 a0_3 a0_4 a0_5 a0_6 a0_7) else (if a0_5 > 1000 then (impl_RecPhaseOk.j0 k true a0_0 a0_1 a0_2 a0_3 a0_4 a0_5 a0_6 a0_7) else ((impl_isName.f k a0_2).bind fun t181 => (if t181 = true then ((impl_isName.f k a0_6).bind fun t182 => (if t182 = true then ((impl_isName.f k a0_7).bind fun t183 => (impl_RecPhaseOk.j0 k (!t183) a0_0 a0_1 a0_2 a0_3 a0_4 a0_5 a0_6 a0_7)) else (impl_RecPhaseOk.j0 k true a0_0 a0_1 a0_2 a0_3 a0_4 a0_5 a0_6 a0_7))) else (impl_RecPhaseOk.j0 k true a0_0 a0_1 a0_2 a0_3 a0_4 a0_5 a0_6 a0_7))))) else (impl_RecPhaseOk.j0 k true a0_0 a0_1 a0_2 a0_3 a0_4 a0_5 a0_6 a0_7))) else (impl_RecPhaseOk.j0 k true a0_0 a0_1 a0_2 a0_3 a0_4 a0_5 a0_6 a0_7)) = some r := H
    have A4 := Aside0.mk A40
    clear A40
    by_cases c5 : t179 = true
    · subst c5
      have H1 : ((impl_RecEnd.f a0_0).bind fun t180 => (if t180 = 0 then (if a0_5 < 1 then (impl_RecPhaseOk.j0 k true a0_0 a0_1 a0_2 a0_3 a0_4 a0_5 a0_6 a0_7) else (if a0_5 > 1000 then (impl_RecPhaseOk.j0 k true a0_0 a0_1 a0_2 a0_3 a0_4 a0_5 a0_6 a0_7) else ((impl_isName.f k a0_2).bind fun t181 => (if t181 = true then ((impl_isName.f k a0_6).bind fun t182 => (if t182 = true then ((impl_isName.f k a0_7).bind fun t183 => (impl_RecPhaseOk.j0 k (!t183) a0_0 a0_1 a0_2 a0_3 a0_4 a0_5 a0_6 a0_7)) else (impl_RecPhaseOk.j0 k true a0_0 a0_1 a0_2 a0_3 a0_4 a0_5 a0_6 a0_7))) else (impl_RecPhaseOk.j0 k true a0_0 a0_1 a0_2 a0_3 a0_4 a0_5 a0_6 a0_7))))) else (impl_RecPhaseOk.j0 k true a0_0 a0_1 a0_2 a0_3 a0_4 a0_5 a0_6 a0_7))) = some r := by rw [if_pos rfl] at H; exact H
      clear H
      have H := H1
      clear H1
      replace H := Option.bind_eq_some_iff.mp H
      obtain ⟨t180, A60, H⟩ := H
      replace H : (if t180 = 0 then (if a0_5 < 1 then (impl_RecPhaseOk.j0 k true a0_0 a0_1 a0_2 a0_3 a0_4 a0_5 a0_6 a0_7) else (if a0_5 > 1000 then (impl_RecPhaseOk.j0 k true a0_0 a0_1 a0_2 a0_3 a0_4 a0_5 a0_6 a0_7) else ((impl_isName.f k a0_2).bind fun t181 => (if t181 = true then ((impl_isName.f k a0_6).bind fun t182 => (if t182 = true then ((impl_isName.f k a0_7).bind fun t183 => (impl_RecPhaseOk.j0 k (!t183) a0_0 a0_1 a0_2 a0_3 a0_4 a0_5 a0_6 a0_7)) else (impl_RecPhaseOk.j0 k true a0_0 a0_1 a0_2 a0_3 a0_4 a0_5 a0_6 a0_7))) else (impl_RecPhaseOk.j0 k true a0_0 a0_1 a0_2 a0_3 a0_4 a0_5 a0_6 a0_7))))) else (impl_RecPhaseOk.j0 k true a0_0 a0_1 a0_2 a0_3 a0_4 a0_5 a0_6 a0_7)) = some r := H
      have A6 := Aside0.mk A60
      clear A60
      by_cases c7 : t180 = 0
      · rw [if_pos c7] at H
        have c7b0 : (t180 == 0) = true := beq_iff_eq.mpr c7
        have c7b1 : (t180 != 0) = false := bne_eq_false_iff_eq.mpr c7
        clear c7
        (first | rw [c7b0] | (simp only [i64_w, i32_w]; rw [c7b0]) | skip)
        by_cases c8 : a0_5 < 1
        · rw [if_pos c8] at H
          have c8b0 : decide (a0_5 < 1) = true := decide_eq_true c8
          clear c8
          have H' := Aside0.mk H
          clear H
          have hcz9_0 : w3.cell? ⟨gb178, 0, none⟩ = some (.string a0_0) := (blk_cell BK178.out 0).trans rfl
          have hcz9_1 : w3.cell? ⟨gb178, 1, none⟩ = some (.int .i64 a0_1) := (blk_cell BK178.out 1).trans rfl
          have hcz9_2 : w3.cell? ⟨gb178, 2, none⟩ = some (.string a0_2) := (blk_cell BK178.out 2).trans rfl
          have hcz9_3 : w3.cell? ⟨gb178, 3, none⟩ = some (.string a0_3) := (blk_cell BK178.out 3).trans rfl
          have hcz9_4 : w3.cell? ⟨gb178, 4, none⟩ = some (.int .i64 a0_4) := (blk_cell BK178.out 4).trans rfl
          have hcz9_5 : w3.cell? ⟨gb178, 5, none⟩ = some (.int .i64 a0_5) := (blk_cell BK178.out 5).trans rfl
          have hcz9_6 : w3.cell? ⟨gb178, 6, none⟩ = some (.string a0_6) := (blk_cell BK178.out 6).trans rfl
          have hcz9_7 : w3.cell? ⟨gb178, 7, none⟩ = some (.string a0_7) := (blk_cell BK178.out 7).trans rfl
          have hfz9_0 := blk_frozen BK178.out 0
          have hfz9_1 := blk_frozen BK178.out 1
          have hfz9_2 := blk_frozen BK178.out 2
          have hfz9_3 := blk_frozen BK178.out 3
          have hfz9_4 := blk_frozen BK178.out 4
          have hfz9_5 := blk_frozen BK178.out 5
          have hfz9_6 := blk_frozen BK178.out 6
          have hfz9_7 := blk_frozen BK178.out 7
          go_wp2_with (first | ((with_reducible refine gate_callee (f := 56) rfl ?_); refine goesL_ (some 7) rfl rfl Try.func56 (by kernel_rfl) rfl #[.string a0_0] rfl (by (try simp only [List.map_toArray, List.map_cons, List.map_nil]); first | done | rfl | (simp only [List.length_drop, List.length_take]; rfl)) ?_; (with_reducible refine (impl_isName.calls k a0_0 true _ A4.out).mono ?_); rintro e w' ⟨rfl, ⟨nd, rfl⟩⟩; refine ⟨_, rfl, ?_⟩) | (go_at_call 15; (with_reducible refine (impl_RecEnd.calls a0_0 t180 _ A6.out).mono ?_); rintro e w' ⟨rfl, ⟨nd, rfl⟩⟩))
          go_meet
          case rel => exact ⟨_, (true), (by first | rfl | (simp; done) | (simp [*]; done)), H', ⟨by first | omega | exact Nat.le_refl _⟩, ⟨by (with_reducible repeat (first | refine blk_drewN ?_ _ | refine blk_drew ?_ | refine blk_alloc ?_ _)); exact BK178.out⟩, ⟨by repeat (first | (with_reducible first | exact HB.out | apply below_alloc | apply pw_below_drewN | apply below_drew1 | refine below_set ?_ GE178.out) | exact HB.out)⟩⟩
        · rw [if_neg c8] at H
          have c8b0 : decide (a0_5 < 1) = false := decide_eq_false c8
          clear c8
          by_cases c10 : a0_5 > 1000
          · rw [if_pos c10] at H
            have c10b0 : decide (1000 < a0_5) = true := decide_eq_true c10
            clear c10
            have H' := Aside0.mk H
            clear H
            have hcz11_0 : w3.cell? ⟨gb178, 0, none⟩ = some (.string a0_0) := (blk_cell BK178.out 0).trans rfl
            have hcz11_1 : w3.cell? ⟨gb178, 1, none⟩ = some (.int .i64 a0_1) := (blk_cell BK178.out 1).trans rfl
            have hcz11_2 : w3.cell? ⟨gb178, 2, none⟩ = some (.string a0_2) := (blk_cell BK178.out 2).trans rfl
            have hcz11_3 : w3.cell? ⟨gb178, 3, none⟩ = some (.string a0_3) := (blk_cell BK178.out 3).trans rfl
            have hcz11_4 : w3.cell? ⟨gb178, 4, none⟩ = some (.int .i64 a0_4) := (blk_cell BK178.out 4).trans rfl
            have hcz11_5 : w3.cell? ⟨gb178, 5, none⟩ = some (.int .i64 a0_5) := (blk_cell BK178.out 5).trans rfl
            have hcz11_6 : w3.cell? ⟨gb178, 6, none⟩ = some (.string a0_6) := (blk_cell BK178.out 6).trans rfl
            have hcz11_7 : w3.cell? ⟨gb178, 7, none⟩ = some (.string a0_7) := (blk_cell BK178.out 7).trans rfl
            have hfz11_0 := blk_frozen BK178.out 0
            have hfz11_1 := blk_frozen BK178.out 1
            have hfz11_2 := blk_frozen BK178.out 2
            have hfz11_3 := blk_frozen BK178.out 3
            have hfz11_4 := blk_frozen BK178.out 4
            have hfz11_5 := blk_frozen BK178.out 5
            have hfz11_6 := blk_frozen BK178.out 6
            have hfz11_7 := blk_frozen BK178.out 7
            go_wp2_with (first | ((with_reducible refine gate_callee (f := 56) rfl ?_); refine goesL_ (some 7) rfl rfl Try.func56 (by kernel_rfl) rfl #[.string a0_0] rfl (by (try simp only [List.map_toArray, List.map_cons, List.map_nil]); first | done | rfl | (simp only [List.length_drop, List.length_take]; rfl)) ?_; (with_reducible refine (impl_isName.calls k a0_0 true _ A4.out).mono ?_); rintro e w' ⟨rfl, ⟨nd, rfl⟩⟩; refine ⟨_, rfl, ?_⟩) | (go_at_call 15; (with_reducible refine (impl_RecEnd.calls a0_0 t180 _ A6.out).mono ?_); rintro e w' ⟨rfl, ⟨nd, rfl⟩⟩))
            go_meet
            case rel => exact ⟨_, (true), (by first | rfl | (simp; done) | (simp [*]; done)), H', ⟨by first | omega | exact Nat.le_refl _⟩, ⟨by (with_reducible repeat (first | refine blk_drewN ?_ _ | refine blk_drew ?_ | refine blk_alloc ?_ _)); exact BK178.out⟩, ⟨by repeat (first | (with_reducible first | exact HB.out | apply below_alloc | apply pw_below_drewN | apply below_drew1 | refine below_set ?_ GE178.out) | exact HB.out)⟩⟩
          · rw [if_neg c10] at H
            have c10b0 : decide (1000 < a0_5) = false := decide_eq_false c10
            clear c10
            replace H := Option.bind_eq_some_iff.mp H
            obtain ⟨t181, A120, H⟩ := H
            replace H : (if t181 = true then ((impl_isName.f k a0_6).bind fun t182 => (if t182 = true then ((impl_isName.f k a0_7).bind fun t183 => (impl_RecPhaseOk.j0 k (!t183) a0_0 a0_1 a0_2 a0_3 a0_4 a0_5 a0_6 a0_7)) else (impl_RecPhaseOk.j0 k true a0_0 a0_1 a0_2 a0_3 a0_4 a0_5 a0_6 a0_7))) else (impl_RecPhaseOk.j0 k true a0_0 a0_1 a0_2 a0_3 a0_4 a0_5 a0_6 a0_7)) = some r := H
            have A12 := Aside0.mk A120
            clear A120
            by_cases c13 : t181 = true
            · subst c13
              have H1 : ((impl_isName.f k a0_6).bind fun t182 => (if t182 = true then ((impl_isName.f k a0_7).bind fun t183 => (impl_RecPhaseOk.j0 k (!t183) a0_0 a0_1 a0_2 a0_3 a0_4 a0_5 a0_6 a0_7)) else (impl_RecPhaseOk.j0 k true a0_0 a0_1 a0_2 a0_3 a0_4 a0_5 a0_6 a0_7))) = some r := by rw [if_pos rfl] at H; exact H
              clear H
              have H := H1
              clear H1
              replace H := Option.bind_eq_some_iff.mp H
              obtain ⟨t182, A140, H⟩ := H
              replace H : (if t182 = true then ((impl_isName.f k a0_7).bind fun t183 => (impl_RecPhaseOk.j0 k (!t183) a0_0 a0_1 a0_2 a0_3 a0_4 a0_5 a0_6 a0_7)) else (impl_RecPhaseOk.j0 k true a0_0 a0_1 a0_2 a0_3 a0_4 a0_5 a0_6 a0_7)) = some r := H
              have A14 := Aside0.mk A140
              clear A140
              by_cases c15 : t182 = true
              · subst c15
                have H1 : ((impl_isName.f k a0_7).bind fun t183 => (impl_RecPhaseOk.j0 k (!t183) a0_0 a0_1 a0_2 a0_3 a0_4 a0_5 a0_6 a0_7)) = some r := by rw [if_pos rfl] at H; exact H
                clear H
                have H := H1
                clear H1
                replace H := Option.bind_eq_some_iff.mp H
                obtain ⟨t183, A160, H⟩ := H
                replace H : (impl_RecPhaseOk.j0 k (!t183) a0_0 a0_1 a0_2 a0_3 a0_4 a0_5 a0_6 a0_7) = some r := H
                have A16 := Aside0.mk A160
                clear A160
                have H' := Aside0.mk H
                clear H
                have hcz17_0 : w3.cell? ⟨gb178, 0, none⟩ = some (.string a0_0) := (blk_cell BK178.out 0).trans rfl
                have hcz17_1 : w3.cell? ⟨gb178, 1, none⟩ = some (.int .i64 a0_1) := (blk_cell BK178.out 1).trans rfl
                have hcz17_2 : w3.cell? ⟨gb178, 2, none⟩ = some (.string a0_2) := (blk_cell BK178.out 2).trans rfl
                have hcz17_3 : w3.cell? ⟨gb178, 3, none⟩ = some (.string a0_3) := (blk_cell BK178.out 3).trans rfl
                have hcz17_4 : w3.cell? ⟨gb178, 4, none⟩ = some (.int .i64 a0_4) := (blk_cell BK178.out 4).trans rfl
                have hcz17_5 : w3.cell? ⟨gb178, 5, none⟩ = some (.int .i64 a0_5) := (blk_cell BK178.out 5).trans rfl
                have hcz17_6 : w3.cell? ⟨gb178, 6, none⟩ = some (.string a0_6) := (blk_cell BK178.out 6).trans rfl
                have hcz17_7 : w3.cell? ⟨gb178, 7, none⟩ = some (.string a0_7) := (blk_cell BK178.out 7).trans rfl
                have hfz17_0 := blk_frozen BK178.out 0
                have hfz17_1 := blk_frozen BK178.out 1
                have hfz17_2 := blk_frozen BK178.out 2
                have hfz17_3 := blk_frozen BK178.out 3
                have hfz17_4 := blk_frozen BK178.out 4
                have hfz17_5 := blk_frozen BK178.out 5
                have hfz17_6 := blk_frozen BK178.out 6
                have hfz17_7 := blk_frozen BK178.out 7
                go_wp2_with (first | ((with_reducible refine gate_callee (f := 56) rfl ?_); refine goesL_ (some 7) rfl rfl Try.func56 (by kernel_rfl) rfl #[.string a0_0] rfl (by (try simp only [List.map_toArray, List.map_cons, List.map_nil]); first | done | rfl | (simp only [List.length_drop, List.length_take]; rfl)) ?_; (with_reducible refine (impl_isName.calls k a0_0 true _ A4.out).mono ?_); rintro e w' ⟨rfl, ⟨nd, rfl⟩⟩; refine ⟨_, rfl, ?_⟩) | (go_at_call 15; (with_reducible refine (impl_RecEnd.calls a0_0 t180 _ A6.out).mono ?_); rintro e w' ⟨rfl, ⟨nd, rfl⟩⟩) | (go_at_call 56; (with_reducible refine (impl_isName.calls k a0_2 true _ A12.out).mono ?_); rintro e w' ⟨rfl, ⟨nd, rfl⟩⟩) | (go_at_call 56; (with_reducible refine (impl_isName.calls k a0_6 true _ A14.out).mono ?_); rintro e w' ⟨rfl, ⟨nd, rfl⟩⟩) | (go_at_call 56; (with_reducible refine (impl_isName.calls k a0_7 t183 _ A16.out).mono ?_); rintro e w' ⟨rfl, ⟨nd, rfl⟩⟩))
                go_meet
                case rel => exact ⟨_, (!t183), (by first | rfl | (simp; done) | (simp [*]; done)), H', ⟨by first | omega | exact Nat.le_refl _⟩, ⟨by (with_reducible repeat (first | refine blk_drewN ?_ _ | refine blk_drew ?_ | refine blk_alloc ?_ _)); exact BK178.out⟩, ⟨by repeat (first | (with_reducible first | exact HB.out | apply below_alloc | apply pw_below_drewN | apply below_drew1 | refine below_set ?_ GE178.out) | exact HB.out)⟩⟩
              · replace c15 := Bool.eq_false_iff.mpr c15
                subst c15
                have H1 : (impl_RecPhaseOk.j0 k true a0_0 a0_1 a0_2 a0_3 a0_4 a0_5 a0_6 a0_7) = some r := by rw [if_neg (show ¬ (false = true) by decide)] at H; exact H
                clear H
                have H := H1
                clear H1
                have H' := Aside0.mk H
                clear H
                have hcz18_0 : w3.cell? ⟨gb178, 0, none⟩ = some (.string a0_0) := (blk_cell BK178.out 0).trans rfl
                have hcz18_1 : w3.cell? ⟨gb178, 1, none⟩ = some (.int .i64 a0_1) := (blk_cell BK178.out 1).trans rfl
                have hcz18_2 : w3.cell? ⟨gb178, 2, none⟩ = some (.string a0_2) := (blk_cell BK178.out 2).trans rfl
                have hcz18_3 : w3.cell? ⟨gb178, 3, none⟩ = some (.string a0_3) := (blk_cell BK178.out 3).trans rfl
                have hcz18_4 : w3.cell? ⟨gb178, 4, none⟩ = some (.int .i64 a0_4) := (blk_cell BK178.out 4).trans rfl
                have hcz18_5 : w3.cell? ⟨gb178, 5, none⟩ = some (.int .i64 a0_5) := (blk_cell BK178.out 5).trans rfl
                have hcz18_6 : w3.cell? ⟨gb178, 6, none⟩ = some (.string a0_6) := (blk_cell BK178.out 6).trans rfl
                have hcz18_7 : w3.cell? ⟨gb178, 7, none⟩ = some (.string a0_7) := (blk_cell BK178.out 7).trans rfl
                have hfz18_0 := blk_frozen BK178.out 0
                have hfz18_1 := blk_frozen BK178.out 1
                have hfz18_2 := blk_frozen BK178.out 2
                have hfz18_3 := blk_frozen BK178.out 3
                have hfz18_4 := blk_frozen BK178.out 4
                have hfz18_5 := blk_frozen BK178.out 5
                have hfz18_6 := blk_frozen BK178.out 6
                have hfz18_7 := blk_frozen BK178.out 7
                go_wp2_with (first | ((with_reducible refine gate_callee (f := 56) rfl ?_); refine goesL_ (some 7) rfl rfl Try.func56 (by kernel_rfl) rfl #[.string a0_0] rfl (by (try simp only [List.map_toArray, List.map_cons, List.map_nil]); first | done | rfl | (simp only [List.length_drop, List.length_take]; rfl)) ?_; (with_reducible refine (impl_isName.calls k a0_0 true _ A4.out).mono ?_); rintro e w' ⟨rfl, ⟨nd, rfl⟩⟩; refine ⟨_, rfl, ?_⟩) | (go_at_call 15; (with_reducible refine (impl_RecEnd.calls a0_0 t180 _ A6.out).mono ?_); rintro e w' ⟨rfl, ⟨nd, rfl⟩⟩) | (go_at_call 56; (with_reducible refine (impl_isName.calls k a0_2 true _ A12.out).mono ?_); rintro e w' ⟨rfl, ⟨nd, rfl⟩⟩) | (go_at_call 56; (with_reducible refine (impl_isName.calls k a0_6 false _ A14.out).mono ?_); rintro e w' ⟨rfl, ⟨nd, rfl⟩⟩))
                go_meet
                case rel => exact ⟨_, (true), (by first | rfl | (simp; done) | (simp [*]; done)), H', ⟨by first | omega | exact Nat.le_refl _⟩, ⟨by (with_reducible repeat (first | refine blk_drewN ?_ _ | refine blk_drew ?_ | refine blk_alloc ?_ _)); exact BK178.out⟩, ⟨by repeat (first | (with_reducible first | exact HB.out | apply below_alloc | apply pw_below_drewN | apply below_drew1 | refine below_set ?_ GE178.out) | exact HB.out)⟩⟩
            · replace c13 := Bool.eq_false_iff.mpr c13
              subst c13
              have H1 : (impl_RecPhaseOk.j0 k true a0_0 a0_1 a0_2 a0_3 a0_4 a0_5 a0_6 a0_7) = some r := by rw [if_neg (show ¬ (false = true) by decide)] at H; exact H
              clear H
              have H := H1
              clear H1
              have H' := Aside0.mk H
              clear H
              have hcz19_0 : w3.cell? ⟨gb178, 0, none⟩ = some (.string a0_0) := (blk_cell BK178.out 0).trans rfl
              have hcz19_1 : w3.cell? ⟨gb178, 1, none⟩ = some (.int .i64 a0_1) := (blk_cell BK178.out 1).trans rfl
              have hcz19_2 : w3.cell? ⟨gb178, 2, none⟩ = some (.string a0_2) := (blk_cell BK178.out 2).trans rfl
              have hcz19_3 : w3.cell? ⟨gb178, 3, none⟩ = some (.string a0_3) := (blk_cell BK178.out 3).trans rfl
              have hcz19_4 : w3.cell? ⟨gb178, 4, none⟩ = some (.int .i64 a0_4) := (blk_cell BK178.out 4).trans rfl
              have hcz19_5 : w3.cell? ⟨gb178, 5, none⟩ = some (.int .i64 a0_5) := (blk_cell BK178.out 5).trans rfl
              have hcz19_6 : w3.cell? ⟨gb178, 6, none⟩ = some (.string a0_6) := (blk_cell BK178.out 6).trans rfl
              have hcz19_7 : w3.cell? ⟨gb178, 7, none⟩ = some (.string a0_7) := (blk_cell BK178.out 7).trans rfl
              have hfz19_0 := blk_frozen BK178.out 0
              have hfz19_1 := blk_frozen BK178.out 1
              have hfz19_2 := blk_frozen BK178.out 2
              have hfz19_3 := blk_frozen BK178.out 3
              have hfz19_4 := blk_frozen BK178.out 4
              have hfz19_5 := blk_frozen BK178.out 5
              have hfz19_6 := blk_frozen BK178.out 6
              have hfz19_7 := blk_frozen BK178.out 7
              go_wp2_with (first | ((with_reducible refine gate_callee (f := 56) rfl ?_); refine goesL_ (some 7) rfl rfl Try.func56 (by kernel_rfl) rfl #[.string a0_0] rfl (by (try simp only [List.map_toArray, List.map_cons, List.map_nil]); first | done | rfl | (simp only [List.length_drop, List.length_take]; rfl)) ?_; (with_reducible refine (impl_isName.calls k a0_0 true _ A4.out).mono ?_); rintro e w' ⟨rfl, ⟨nd, rfl⟩⟩; refine ⟨_, rfl, ?_⟩) | (go_at_call 15; (with_reducible refine (impl_RecEnd.calls a0_0 t180 _ A6.out).mono ?_); rintro e w' ⟨rfl, ⟨nd, rfl⟩⟩) | (go_at_call 56; (with_reducible refine (impl_isName.calls k a0_2 false _ A12.out).mono ?_); rintro e w' ⟨rfl, ⟨nd, rfl⟩⟩))
              go_meet
              case rel => exact ⟨_, (true), (by first | rfl | (simp; done) | (simp [*]; done)), H', ⟨by first | omega | exact Nat.le_refl _⟩, ⟨by (with_reducible repeat (first | refine blk_drewN ?_ _ | refine blk_drew ?_ | refine blk_alloc ?_ _)); exact BK178.out⟩, ⟨by repeat (first | (with_reducible first | exact HB.out | apply below_alloc | apply pw_below_drewN | apply below_drew1 | refine below_set ?_ GE178.out) | exact HB.out)⟩⟩
      · rw [if_neg c7] at H
        have c7b0 : (t180 == 0) = false := beq_eq_false_iff_ne.mpr c7
        have c7b1 : (t180 != 0) = true := bne_iff_ne.mpr c7
        (first | rw [c7b0] | (simp only [i64_w, i32_w]; rw [c7b0]) | skip)
        have H' := Aside0.mk H
        clear H
        have hcz20_0 : w3.cell? ⟨gb178, 0, none⟩ = some (.string a0_0) := (blk_cell BK178.out 0).trans rfl
        have hcz20_1 : w3.cell? ⟨gb178, 1, none⟩ = some (.int .i64 a0_1) := (blk_cell BK178.out 1).trans rfl
        have hcz20_2 : w3.cell? ⟨gb178, 2, none⟩ = some (.string a0_2) := (blk_cell BK178.out 2).trans rfl
        have hcz20_3 : w3.cell? ⟨gb178, 3, none⟩ = some (.string a0_3) := (blk_cell BK178.out 3).trans rfl
        have hcz20_4 : w3.cell? ⟨gb178, 4, none⟩ = some (.int .i64 a0_4) := (blk_cell BK178.out 4).trans rfl
        have hcz20_5 : w3.cell? ⟨gb178, 5, none⟩ = some (.int .i64 a0_5) := (blk_cell BK178.out 5).trans rfl
        have hcz20_6 : w3.cell? ⟨gb178, 6, none⟩ = some (.string a0_6) := (blk_cell BK178.out 6).trans rfl
        have hcz20_7 : w3.cell? ⟨gb178, 7, none⟩ = some (.string a0_7) := (blk_cell BK178.out 7).trans rfl
        have hfz20_0 := blk_frozen BK178.out 0
        have hfz20_1 := blk_frozen BK178.out 1
        have hfz20_2 := blk_frozen BK178.out 2
        have hfz20_3 := blk_frozen BK178.out 3
        have hfz20_4 := blk_frozen BK178.out 4
        have hfz20_5 := blk_frozen BK178.out 5
        have hfz20_6 := blk_frozen BK178.out 6
        have hfz20_7 := blk_frozen BK178.out 7
        go_wp2_with (first | ((with_reducible refine gate_callee (f := 56) rfl ?_); refine goesL_ (some 7) rfl rfl Try.func56 (by kernel_rfl) rfl #[.string a0_0] rfl (by (try simp only [List.map_toArray, List.map_cons, List.map_nil]); first | done | rfl | (simp only [List.length_drop, List.length_take]; rfl)) ?_; (with_reducible refine (impl_isName.calls k a0_0 true _ A4.out).mono ?_); rintro e w' ⟨rfl, ⟨nd, rfl⟩⟩; refine ⟨_, rfl, ?_⟩) | (go_at_call 15; (with_reducible refine (impl_RecEnd.calls a0_0 t180 _ A6.out).mono ?_); rintro e w' ⟨rfl, ⟨nd, rfl⟩⟩))
        go_meet
        case rel => exact ⟨_, (true), (by first | rfl | (simp; done) | (simp [*]; done)), H', ⟨by first | omega | exact Nat.le_refl _⟩, ⟨by (with_reducible repeat (first | refine blk_drewN ?_ _ | refine blk_drew ?_ | refine blk_alloc ?_ _)); exact BK178.out⟩, ⟨by repeat (first | (with_reducible first | exact HB.out | apply below_alloc | apply pw_below_drewN | apply below_drew1 | refine below_set ?_ GE178.out) | exact HB.out)⟩⟩
    · replace c5 := Bool.eq_false_iff.mpr c5
      subst c5
      have H1 : (impl_RecPhaseOk.j0 k true a0_0 a0_1 a0_2 a0_3 a0_4 a0_5 a0_6 a0_7) = some r := by rw [if_neg (show ¬ (false = true) by decide)] at H; exact H
      clear H
      have H := H1
      clear H1
      have H' := Aside0.mk H
      clear H
      have hcz21_0 : w3.cell? ⟨gb178, 0, none⟩ = some (.string a0_0) := (blk_cell BK178.out 0).trans rfl
      have hcz21_1 : w3.cell? ⟨gb178, 1, none⟩ = some (.int .i64 a0_1) := (blk_cell BK178.out 1).trans rfl
      have hcz21_2 : w3.cell? ⟨gb178, 2, none⟩ = some (.string a0_2) := (blk_cell BK178.out 2).trans rfl
      have hcz21_3 : w3.cell? ⟨gb178, 3, none⟩ = some (.string a0_3) := (blk_cell BK178.out 3).trans rfl
      have hcz21_4 : w3.cell? ⟨gb178, 4, none⟩ = some (.int .i64 a0_4) := (blk_cell BK178.out 4).trans rfl
      have hcz21_5 : w3.cell? ⟨gb178, 5, none⟩ = some (.int .i64 a0_5) := (blk_cell BK178.out 5).trans rfl
      have hcz21_6 : w3.cell? ⟨gb178, 6, none⟩ = some (.string a0_6) := (blk_cell BK178.out 6).trans rfl
      have hcz21_7 : w3.cell? ⟨gb178, 7, none⟩ = some (.string a0_7) := (blk_cell BK178.out 7).trans rfl
      have hfz21_0 := blk_frozen BK178.out 0
      have hfz21_1 := blk_frozen BK178.out 1
      have hfz21_2 := blk_frozen BK178.out 2
      have hfz21_3 := blk_frozen BK178.out 3
      have hfz21_4 := blk_frozen BK178.out 4
      have hfz21_5 := blk_frozen BK178.out 5
      have hfz21_6 := blk_frozen BK178.out 6
      have hfz21_7 := blk_frozen BK178.out 7
      go_wp2_with (first | ((with_reducible refine gate_callee (f := 56) rfl ?_); refine goesL_ (some 7) rfl rfl Try.func56 (by kernel_rfl) rfl #[.string a0_0] rfl (by (try simp only [List.map_toArray, List.map_cons, List.map_nil]); first | done | rfl | (simp only [List.length_drop, List.length_take]; rfl)) ?_; (with_reducible refine (impl_isName.calls k a0_0 false _ A4.out).mono ?_); rintro e w' ⟨rfl, ⟨nd, rfl⟩⟩; refine ⟨_, rfl, ?_⟩))
      go_meet
      case rel => exact ⟨_, (true), (by first | rfl | (simp; done) | (simp [*]; done)), H', ⟨by first | omega | exact Nat.le_refl _⟩, ⟨by (with_reducible repeat (first | refine blk_drewN ?_ _ | refine blk_drew ?_ | refine blk_alloc ?_ _)); exact BK178.out⟩, ⟨by repeat (first | (with_reducible first | exact HB.out | apply below_alloc | apply pw_below_drewN | apply below_drew1 | refine below_set ?_ GE178.out) | exact HB.out)⟩⟩
  case rest =>
    clear HC2
    try clear c1
    try clear c2
    try clear p2
    try clear c5
    try clear c7
    try clear c7b0
    try clear c7b1
    try clear c8
    try clear c8b0
    try clear c10
    try clear c10b0
    try clear c13
    try clear c15
    try clear hcz11_0
    try clear hcz11_1
    try clear hcz11_2
    try clear hcz11_3
    try clear hcz11_4
    try clear hcz11_5
    try clear hcz11_6
    try clear hcz11_7
    try clear hcz17_0
    try clear hcz17_1
    try clear hcz17_2
    try clear hcz17_3
    try clear hcz17_4
    try clear hcz17_5
    try clear hcz17_6
    try clear hcz17_7
    try clear hcz18_0
    try clear hcz18_1
    try clear hcz18_2
    try clear hcz18_3
    try clear hcz18_4
    try clear hcz18_5
    try clear hcz18_6
    try clear hcz18_7
    try clear hcz19_0
    try clear hcz19_1
    try clear hcz19_2
    try clear hcz19_3
    try clear hcz19_4
    try clear hcz19_5
    try clear hcz19_6
    try clear hcz19_7
    try clear hcz20_0
    try clear hcz20_1
    try clear hcz20_2
    try clear hcz20_3
    try clear hcz20_4
    try clear hcz20_5
    try clear hcz20_6
    try clear hcz20_7
    try clear hcz21_0
    try clear hcz21_1
    try clear hcz21_2
    try clear hcz21_3
    try clear hcz21_4
    try clear hcz21_5
    try clear hcz21_6
    try clear hcz21_7
    try clear hcz9_0
    try clear hcz9_1
    try clear hcz9_2
    try clear hcz9_3
    try clear hcz9_4
    try clear hcz9_5
    try clear hcz9_6
    try clear hcz9_7
    try clear hfz11_0
    try clear hfz11_1
    try clear hfz11_2
    try clear hfz11_3
    try clear hfz11_4
    try clear hfz11_5
    try clear hfz11_6
    try clear hfz11_7
    try clear hfz17_0
    try clear hfz17_1
    try clear hfz17_2
    try clear hfz17_3
    try clear hfz17_4
    try clear hfz17_5
    try clear hfz17_6
    try clear hfz17_7
    try clear hfz18_0
    try clear hfz18_1
    try clear hfz18_2
    try clear hfz18_3
    try clear hfz18_4
    try clear hfz18_5
    try clear hfz18_6
    try clear hfz18_7
    try clear hfz19_0
    try clear hfz19_1
    try clear hfz19_2
    try clear hfz19_3
    try clear hfz19_4
    try clear hfz19_5
    try clear hfz19_6
    try clear hfz19_7
    try clear hfz20_0
    try clear hfz20_1
    try clear hfz20_2
    try clear hfz20_3
    try clear hfz20_4
    try clear hfz20_5
    try clear hfz20_6
    try clear hfz20_7
    try clear hfz21_0
    try clear hfz21_1
    try clear hfz21_2
    try clear hfz21_3
    try clear hfz21_4
    try clear hfz21_5
    try clear hfz21_6
    try clear hfz21_7
    try clear hfz9_0
    try clear hfz9_1
    try clear hfz9_2
    try clear hfz9_3
    try clear hfz9_4
    try clear hfz9_5
    try clear hfz9_6
    try clear hfz9_7
    obtain ⟨kq, x42_1, rfl, HA, HJ1, BK178, HB⟩ := hcut
    cases kq with
    | zero => exact absurd HA.out (by simp [impl_RecPhaseOk.j0])
    | succ kj1 =>
      have H := HA.out
      clear HA
      simp only [impl_RecPhaseOk.j0] at H
      by_cases c22 : x42_1 = true
      · subst c22
        have H1 : (some false) = some r := by rw [if_pos rfl] at H; exact H
        clear H
        have H := H1
        clear H1
        obtain rfl := Option.some.inj H
        go_wp2
        go_ret
        exact ⟨by first | rfl | (simp [errW_none, errW_some] <;> rfl) | (simp [*, errW_none, errW_some] <;> rfl), by repeat (first | (with_reducible first | exact HB.out | apply below_alloc | apply pw_below_drewN | apply below_drew1 | refine below_set ?_ GE178.out) | exact HB.out)⟩
      · replace c22 := Bool.eq_false_iff.mpr c22
        subst c22
        have H1 : (if a0_1 = 1 then ((impl_isName.f kj1 a0_3).bind fun t184 => (if t184 = true then (if a0_4 ≤ 1000 then (if a0_4 ≥ 1 then (some true) else (some false)) else (some false)) else (some false))) else (if a0_1 = 2 then (if a0_2.toList = a0_3.toList then (some false) else ((impl_isName.f kj1 a0_3).bind fun t185 => (if t185 = true then (if a0_4 ≤ 1000 then (if a0_4 ≥ 1 then (some true) else (some false)) else (some false)) else (some false)))) else (if a0_1 = 3 then (if a0_3.toList = ([] : List UInt8) then (if a0_4 ≤ a0_5 then (if a0_4 ≥ 1 then (some true) else (if a0_5 = 0 then (some (a0_4 == 0)) else (some false))) else (some false)) else (some false)) else (if a0_1 = 4 then (impl_RecPhaseOk.j1 kj1 false (a0_1 == 4) a0_0 a0_1 a0_2 a0_3 a0_4 a0_5 a0_6 a0_7) else (impl_RecPhaseOk.j1 kj1 false (a0_1 == 5) a0_0 a0_1 a0_2 a0_3 a0_4 a0_5 a0_6 a0_7))))) = some r := by rw [if_neg (show ¬ (false = true) by decide)] at H; exact H
        clear H
        have H := H1
        clear H1
        by_cases c23 : a0_1 = 1
        · rw [if_pos c23] at H
          have c23b0 : (a0_1 == 1) = true := beq_iff_eq.mpr c23
          have c23b1 : (a0_1 != 1) = false := bne_eq_false_iff_eq.mpr c23
          clear c23
          replace H := Option.bind_eq_some_iff.mp H
          obtain ⟨t184, A240, H⟩ := H
          replace H : (if t184 = true then (if a0_4 ≤ 1000 then (if a0_4 ≥ 1 then (some true) else (some false)) else (some false)) else (some false)) = some r := H
          have A24 := Aside0.mk A240
          clear A240
          by_cases c25 : t184 = true
          · subst c25
            have H1 : (if a0_4 ≤ 1000 then (if a0_4 ≥ 1 then (some true) else (some false)) else (some false)) = some r := by rw [if_pos rfl] at H; exact H
            clear H
            have H := H1
            clear H1
            by_cases c26 : a0_4 ≤ 1000
            · rw [if_pos c26] at H
              have c26b0 : decide (a0_4 ≤ 1000) = true := decide_eq_true c26
              clear c26
              by_cases c27 : a0_4 ≥ 1
              · rw [if_pos c27] at H
                have c27b0 : decide (1 ≤ a0_4) = true := decide_eq_true c27
                clear c27
                obtain rfl := Option.some.inj H
                have hcz28_0 : wc.cell? ⟨gb178, 0, none⟩ = some (.string a0_0) := (blk_cell BK178.out 0).trans rfl
                have hcz28_1 : wc.cell? ⟨gb178, 1, none⟩ = some (.int .i64 a0_1) := (blk_cell BK178.out 1).trans rfl
                have hcz28_2 : wc.cell? ⟨gb178, 2, none⟩ = some (.string a0_2) := (blk_cell BK178.out 2).trans rfl
                have hcz28_3 : wc.cell? ⟨gb178, 3, none⟩ = some (.string a0_3) := (blk_cell BK178.out 3).trans rfl
                have hcz28_4 : wc.cell? ⟨gb178, 4, none⟩ = some (.int .i64 a0_4) := (blk_cell BK178.out 4).trans rfl
                have hcz28_5 : wc.cell? ⟨gb178, 5, none⟩ = some (.int .i64 a0_5) := (blk_cell BK178.out 5).trans rfl
                have hcz28_6 : wc.cell? ⟨gb178, 6, none⟩ = some (.string a0_6) := (blk_cell BK178.out 6).trans rfl
                have hcz28_7 : wc.cell? ⟨gb178, 7, none⟩ = some (.string a0_7) := (blk_cell BK178.out 7).trans rfl
                have hfz28_0 := blk_frozen BK178.out 0
                have hfz28_1 := blk_frozen BK178.out 1
                have hfz28_2 := blk_frozen BK178.out 2
                have hfz28_3 := blk_frozen BK178.out 3
                have hfz28_4 := blk_frozen BK178.out 4
                have hfz28_5 := blk_frozen BK178.out 5
                have hfz28_6 := blk_frozen BK178.out 6
                have hfz28_7 := blk_frozen BK178.out 7
                go_wp2_with (first | (go_at_call 56; (with_reducible refine (impl_isName.calls kj1 a0_3 true _ A24.out).mono ?_); rintro e w' ⟨rfl, ⟨nd, rfl⟩⟩))
                go_ret
                exact ⟨by first | rfl | (simp [errW_none, errW_some] <;> rfl) | (simp [*, errW_none, errW_some] <;> rfl), by repeat (first | (with_reducible first | exact HB.out | apply below_alloc | apply pw_below_drewN | apply below_drew1 | refine below_set ?_ GE178.out) | exact HB.out)⟩
              · rw [if_neg c27] at H
                have c27b0 : decide (1 ≤ a0_4) = false := decide_eq_false c27
                clear c27
                obtain rfl := Option.some.inj H
                have hcz29_0 : wc.cell? ⟨gb178, 0, none⟩ = some (.string a0_0) := (blk_cell BK178.out 0).trans rfl
                have hcz29_1 : wc.cell? ⟨gb178, 1, none⟩ = some (.int .i64 a0_1) := (blk_cell BK178.out 1).trans rfl
                have hcz29_2 : wc.cell? ⟨gb178, 2, none⟩ = some (.string a0_2) := (blk_cell BK178.out 2).trans rfl
                have hcz29_3 : wc.cell? ⟨gb178, 3, none⟩ = some (.string a0_3) := (blk_cell BK178.out 3).trans rfl
                have hcz29_4 : wc.cell? ⟨gb178, 4, none⟩ = some (.int .i64 a0_4) := (blk_cell BK178.out 4).trans rfl
                have hcz29_5 : wc.cell? ⟨gb178, 5, none⟩ = some (.int .i64 a0_5) := (blk_cell BK178.out 5).trans rfl
                have hcz29_6 : wc.cell? ⟨gb178, 6, none⟩ = some (.string a0_6) := (blk_cell BK178.out 6).trans rfl
                have hcz29_7 : wc.cell? ⟨gb178, 7, none⟩ = some (.string a0_7) := (blk_cell BK178.out 7).trans rfl
                have hfz29_0 := blk_frozen BK178.out 0
                have hfz29_1 := blk_frozen BK178.out 1
                have hfz29_2 := blk_frozen BK178.out 2
                have hfz29_3 := blk_frozen BK178.out 3
                have hfz29_4 := blk_frozen BK178.out 4
                have hfz29_5 := blk_frozen BK178.out 5
                have hfz29_6 := blk_frozen BK178.out 6
                have hfz29_7 := blk_frozen BK178.out 7
                go_wp2_with (first | (go_at_call 56; (with_reducible refine (impl_isName.calls kj1 a0_3 true _ A24.out).mono ?_); rintro e w' ⟨rfl, ⟨nd, rfl⟩⟩))
                go_ret
                exact ⟨by first | rfl | (simp [errW_none, errW_some] <;> rfl) | (simp [*, errW_none, errW_some] <;> rfl), by repeat (first | (with_reducible first | exact HB.out | apply below_alloc | apply pw_below_drewN | apply below_drew1 | refine below_set ?_ GE178.out) | exact HB.out)⟩
            · rw [if_neg c26] at H
              have c26b0 : decide (a0_4 ≤ 1000) = false := decide_eq_false c26
              clear c26
              obtain rfl := Option.some.inj H
              have hcz30_0 : wc.cell? ⟨gb178, 0, none⟩ = some (.string a0_0) := (blk_cell BK178.out 0).trans rfl
              have hcz30_1 : wc.cell? ⟨gb178, 1, none⟩ = some (.int .i64 a0_1) := (blk_cell BK178.out 1).trans rfl
              have hcz30_2 : wc.cell? ⟨gb178, 2, none⟩ = some (.string a0_2) := (blk_cell BK178.out 2).trans rfl
              have hcz30_3 : wc.cell? ⟨gb178, 3, none⟩ = some (.string a0_3) := (blk_cell BK178.out 3).trans rfl
              have hcz30_4 : wc.cell? ⟨gb178, 4, none⟩ = some (.int .i64 a0_4) := (blk_cell BK178.out 4).trans rfl
              have hcz30_5 : wc.cell? ⟨gb178, 5, none⟩ = some (.int .i64 a0_5) := (blk_cell BK178.out 5).trans rfl
              have hcz30_6 : wc.cell? ⟨gb178, 6, none⟩ = some (.string a0_6) := (blk_cell BK178.out 6).trans rfl
              have hcz30_7 : wc.cell? ⟨gb178, 7, none⟩ = some (.string a0_7) := (blk_cell BK178.out 7).trans rfl
              have hfz30_0 := blk_frozen BK178.out 0
              have hfz30_1 := blk_frozen BK178.out 1
              have hfz30_2 := blk_frozen BK178.out 2
              have hfz30_3 := blk_frozen BK178.out 3
              have hfz30_4 := blk_frozen BK178.out 4
              have hfz30_5 := blk_frozen BK178.out 5
              have hfz30_6 := blk_frozen BK178.out 6
              have hfz30_7 := blk_frozen BK178.out 7
              go_wp2_with (first | (go_at_call 56; (with_reducible refine (impl_isName.calls kj1 a0_3 true _ A24.out).mono ?_); rintro e w' ⟨rfl, ⟨nd, rfl⟩⟩))
              go_ret
              exact ⟨by first | rfl | (simp [errW_none, errW_some] <;> rfl) | (simp [*, errW_none, errW_some] <;> rfl), by repeat (first | (with_reducible first | exact HB.out | apply below_alloc | apply pw_below_drewN | apply below_drew1 | refine below_set ?_ GE178.out) | exact HB.out)⟩
          · replace c25 := Bool.eq_false_iff.mpr c25
            subst c25
            have H1 : (some false) = some r := by rw [if_neg (show ¬ (false = true) by decide)] at H; exact H
            clear H
            have H := H1
            clear H1
            obtain rfl := Option.some.inj H
            have hcz31_0 : wc.cell? ⟨gb178, 0, none⟩ = some (.string a0_0) := (blk_cell BK178.out 0).trans rfl
            have hcz31_1 : wc.cell? ⟨gb178, 1, none⟩ = some (.int .i64 a0_1) := (blk_cell BK178.out 1).trans rfl
            have hcz31_2 : wc.cell? ⟨gb178, 2, none⟩ = some (.string a0_2) := (blk_cell BK178.out 2).trans rfl
            have hcz31_3 : wc.cell? ⟨gb178, 3, none⟩ = some (.string a0_3) := (blk_cell BK178.out 3).trans rfl
            have hcz31_4 : wc.cell? ⟨gb178, 4, none⟩ = some (.int .i64 a0_4) := (blk_cell BK178.out 4).trans rfl
            have hcz31_5 : wc.cell? ⟨gb178, 5, none⟩ = some (.int .i64 a0_5) := (blk_cell BK178.out 5).trans rfl
            have hcz31_6 : wc.cell? ⟨gb178, 6, none⟩ = some (.string a0_6) := (blk_cell BK178.out 6).trans rfl
            have hcz31_7 : wc.cell? ⟨gb178, 7, none⟩ = some (.string a0_7) := (blk_cell BK178.out 7).trans rfl
            have hfz31_0 := blk_frozen BK178.out 0
            have hfz31_1 := blk_frozen BK178.out 1
            have hfz31_2 := blk_frozen BK178.out 2
            have hfz31_3 := blk_frozen BK178.out 3
            have hfz31_4 := blk_frozen BK178.out 4
            have hfz31_5 := blk_frozen BK178.out 5
            have hfz31_6 := blk_frozen BK178.out 6
            have hfz31_7 := blk_frozen BK178.out 7
            go_wp2_with (first | (go_at_call 56; (with_reducible refine (impl_isName.calls kj1 a0_3 false _ A24.out).mono ?_); rintro e w' ⟨rfl, ⟨nd, rfl⟩⟩))
            go_ret
            exact ⟨by first | rfl | (simp [errW_none, errW_some] <;> rfl) | (simp [*, errW_none, errW_some] <;> rfl), by repeat (first | (with_reducible first | exact HB.out | apply below_alloc | apply pw_below_drewN | apply below_drew1 | refine below_set ?_ GE178.out) | exact HB.out)⟩
        · rw [if_neg c23] at H
          have c23b0 : (a0_1 == 1) = false := beq_eq_false_iff_ne.mpr c23
          have c23b1 : (a0_1 != 1) = true := bne_iff_ne.mpr c23
          by_cases c32 : a0_1 = 2
          · rw [if_pos c32] at H
            have c32b0 : (a0_1 == 2) = true := beq_iff_eq.mpr c32
            have c32b1 : (a0_1 != 2) = false := bne_eq_false_iff_eq.mpr c32
            clear c32
            by_cases c33 : a0_2.toList = a0_3.toList
            · rw [if_pos c33] at H
              have c33b0 : (a0_2.toList == a0_3.toList) = true := beq_iff_eq.mpr c33
              have c33b1 : (a0_2.toList != a0_3.toList) = false := bne_eq_false_iff_eq.mpr c33
              clear c33
              obtain rfl := Option.some.inj H
              have hcz34_0 : wc.cell? ⟨gb178, 0, none⟩ = some (.string a0_0) := (blk_cell BK178.out 0).trans rfl
              have hcz34_1 : wc.cell? ⟨gb178, 1, none⟩ = some (.int .i64 a0_1) := (blk_cell BK178.out 1).trans rfl
              have hcz34_2 : wc.cell? ⟨gb178, 2, none⟩ = some (.string a0_2) := (blk_cell BK178.out 2).trans rfl
              have hcz34_3 : wc.cell? ⟨gb178, 3, none⟩ = some (.string a0_3) := (blk_cell BK178.out 3).trans rfl
              have hcz34_4 : wc.cell? ⟨gb178, 4, none⟩ = some (.int .i64 a0_4) := (blk_cell BK178.out 4).trans rfl
              have hcz34_5 : wc.cell? ⟨gb178, 5, none⟩ = some (.int .i64 a0_5) := (blk_cell BK178.out 5).trans rfl
              have hcz34_6 : wc.cell? ⟨gb178, 6, none⟩ = some (.string a0_6) := (blk_cell BK178.out 6).trans rfl
              have hcz34_7 : wc.cell? ⟨gb178, 7, none⟩ = some (.string a0_7) := (blk_cell BK178.out 7).trans rfl
              have hfz34_0 := blk_frozen BK178.out 0
              have hfz34_1 := blk_frozen BK178.out 1
              have hfz34_2 := blk_frozen BK178.out 2
              have hfz34_3 := blk_frozen BK178.out 3
              have hfz34_4 := blk_frozen BK178.out 4
              have hfz34_5 := blk_frozen BK178.out 5
              have hfz34_6 := blk_frozen BK178.out 6
              have hfz34_7 := blk_frozen BK178.out 7
              go_wp2
              go_ret
              exact ⟨by first | rfl | (simp [errW_none, errW_some] <;> rfl) | (simp [*, errW_none, errW_some] <;> rfl), by repeat (first | (with_reducible first | exact HB.out | apply below_alloc | apply pw_below_drewN | apply below_drew1 | refine below_set ?_ GE178.out) | exact HB.out)⟩
            · rw [if_neg c33] at H
              have c33b0 : (a0_2.toList == a0_3.toList) = false := beq_eq_false_iff_ne.mpr c33
              have c33b1 : (a0_2.toList != a0_3.toList) = true := bne_iff_ne.mpr c33
              replace H := Option.bind_eq_some_iff.mp H
              obtain ⟨t185, A350, H⟩ := H
              replace H : (if t185 = true then (if a0_4 ≤ 1000 then (if a0_4 ≥ 1 then (some true) else (some false)) else (some false)) else (some false)) = some r := H
              have A35 := Aside0.mk A350
              clear A350
              by_cases c36 : t185 = true
              · subst c36
                have H1 : (if a0_4 ≤ 1000 then (if a0_4 ≥ 1 then (some true) else (some false)) else (some false)) = some r := by rw [if_pos rfl] at H; exact H
                clear H
                have H := H1
                clear H1
                by_cases c37 : a0_4 ≤ 1000
                · rw [if_pos c37] at H
                  have c37b0 : decide (a0_4 ≤ 1000) = true := decide_eq_true c37
                  clear c37
                  by_cases c38 : a0_4 ≥ 1
                  · rw [if_pos c38] at H
                    have c38b0 : decide (1 ≤ a0_4) = true := decide_eq_true c38
                    clear c38
                    obtain rfl := Option.some.inj H
                    have hcz39_0 : wc.cell? ⟨gb178, 0, none⟩ = some (.string a0_0) := (blk_cell BK178.out 0).trans rfl
                    have hcz39_1 : wc.cell? ⟨gb178, 1, none⟩ = some (.int .i64 a0_1) := (blk_cell BK178.out 1).trans rfl
                    have hcz39_2 : wc.cell? ⟨gb178, 2, none⟩ = some (.string a0_2) := (blk_cell BK178.out 2).trans rfl
                    have hcz39_3 : wc.cell? ⟨gb178, 3, none⟩ = some (.string a0_3) := (blk_cell BK178.out 3).trans rfl
                    have hcz39_4 : wc.cell? ⟨gb178, 4, none⟩ = some (.int .i64 a0_4) := (blk_cell BK178.out 4).trans rfl
                    have hcz39_5 : wc.cell? ⟨gb178, 5, none⟩ = some (.int .i64 a0_5) := (blk_cell BK178.out 5).trans rfl
                    have hcz39_6 : wc.cell? ⟨gb178, 6, none⟩ = some (.string a0_6) := (blk_cell BK178.out 6).trans rfl
                    have hcz39_7 : wc.cell? ⟨gb178, 7, none⟩ = some (.string a0_7) := (blk_cell BK178.out 7).trans rfl
                    have hfz39_0 := blk_frozen BK178.out 0
                    have hfz39_1 := blk_frozen BK178.out 1
                    have hfz39_2 := blk_frozen BK178.out 2
                    have hfz39_3 := blk_frozen BK178.out 3
                    have hfz39_4 := blk_frozen BK178.out 4
                    have hfz39_5 := blk_frozen BK178.out 5
                    have hfz39_6 := blk_frozen BK178.out 6
                    have hfz39_7 := blk_frozen BK178.out 7
                    go_wp2_with (first | (go_at_call 56; (with_reducible refine (impl_isName.calls kj1 a0_3 true _ A35.out).mono ?_); rintro e w' ⟨rfl, ⟨nd, rfl⟩⟩))
                    go_ret
                    exact ⟨by first | rfl | (simp [errW_none, errW_some] <;> rfl) | (simp [*, errW_none, errW_some] <;> rfl), by repeat (first | (with_reducible first | exact HB.out | apply below_alloc | apply pw_below_drewN | apply below_drew1 | refine below_set ?_ GE178.out) | exact HB.out)⟩
                  · rw [if_neg c38] at H
                    have c38b0 : decide (1 ≤ a0_4) = false := decide_eq_false c38
                    clear c38
                    obtain rfl := Option.some.inj H
                    have hcz40_0 : wc.cell? ⟨gb178, 0, none⟩ = some (.string a0_0) := (blk_cell BK178.out 0).trans rfl
                    have hcz40_1 : wc.cell? ⟨gb178, 1, none⟩ = some (.int .i64 a0_1) := (blk_cell BK178.out 1).trans rfl
                    have hcz40_2 : wc.cell? ⟨gb178, 2, none⟩ = some (.string a0_2) := (blk_cell BK178.out 2).trans rfl
                    have hcz40_3 : wc.cell? ⟨gb178, 3, none⟩ = some (.string a0_3) := (blk_cell BK178.out 3).trans rfl
                    have hcz40_4 : wc.cell? ⟨gb178, 4, none⟩ = some (.int .i64 a0_4) := (blk_cell BK178.out 4).trans rfl
                    have hcz40_5 : wc.cell? ⟨gb178, 5, none⟩ = some (.int .i64 a0_5) := (blk_cell BK178.out 5).trans rfl
                    have hcz40_6 : wc.cell? ⟨gb178, 6, none⟩ = some (.string a0_6) := (blk_cell BK178.out 6).trans rfl
                    have hcz40_7 : wc.cell? ⟨gb178, 7, none⟩ = some (.string a0_7) := (blk_cell BK178.out 7).trans rfl
                    have hfz40_0 := blk_frozen BK178.out 0
                    have hfz40_1 := blk_frozen BK178.out 1
                    have hfz40_2 := blk_frozen BK178.out 2
                    have hfz40_3 := blk_frozen BK178.out 3
                    have hfz40_4 := blk_frozen BK178.out 4
                    have hfz40_5 := blk_frozen BK178.out 5
                    have hfz40_6 := blk_frozen BK178.out 6
                    have hfz40_7 := blk_frozen BK178.out 7
                    go_wp2_with (first | (go_at_call 56; (with_reducible refine (impl_isName.calls kj1 a0_3 true _ A35.out).mono ?_); rintro e w' ⟨rfl, ⟨nd, rfl⟩⟩))
                    go_ret
                    exact ⟨by first | rfl | (simp [errW_none, errW_some] <;> rfl) | (simp [*, errW_none, errW_some] <;> rfl), by repeat (first | (with_reducible first | exact HB.out | apply below_alloc | apply pw_below_drewN | apply below_drew1 | refine below_set ?_ GE178.out) | exact HB.out)⟩
                · rw [if_neg c37] at H
                  have c37b0 : decide (a0_4 ≤ 1000) = false := decide_eq_false c37
                  clear c37
                  obtain rfl := Option.some.inj H
                  have hcz41_0 : wc.cell? ⟨gb178, 0, none⟩ = some (.string a0_0) := (blk_cell BK178.out 0).trans rfl
                  have hcz41_1 : wc.cell? ⟨gb178, 1, none⟩ = some (.int .i64 a0_1) := (blk_cell BK178.out 1).trans rfl
                  have hcz41_2 : wc.cell? ⟨gb178, 2, none⟩ = some (.string a0_2) := (blk_cell BK178.out 2).trans rfl
                  have hcz41_3 : wc.cell? ⟨gb178, 3, none⟩ = some (.string a0_3) := (blk_cell BK178.out 3).trans rfl
                  have hcz41_4 : wc.cell? ⟨gb178, 4, none⟩ = some (.int .i64 a0_4) := (blk_cell BK178.out 4).trans rfl
                  have hcz41_5 : wc.cell? ⟨gb178, 5, none⟩ = some (.int .i64 a0_5) := (blk_cell BK178.out 5).trans rfl
                  have hcz41_6 : wc.cell? ⟨gb178, 6, none⟩ = some (.string a0_6) := (blk_cell BK178.out 6).trans rfl
                  have hcz41_7 : wc.cell? ⟨gb178, 7, none⟩ = some (.string a0_7) := (blk_cell BK178.out 7).trans rfl
                  have hfz41_0 := blk_frozen BK178.out 0
                  have hfz41_1 := blk_frozen BK178.out 1
                  have hfz41_2 := blk_frozen BK178.out 2
                  have hfz41_3 := blk_frozen BK178.out 3
                  have hfz41_4 := blk_frozen BK178.out 4
                  have hfz41_5 := blk_frozen BK178.out 5
                  have hfz41_6 := blk_frozen BK178.out 6
                  have hfz41_7 := blk_frozen BK178.out 7
                  go_wp2_with (first | (go_at_call 56; (with_reducible refine (impl_isName.calls kj1 a0_3 true _ A35.out).mono ?_); rintro e w' ⟨rfl, ⟨nd, rfl⟩⟩))
                  go_ret
                  exact ⟨by first | rfl | (simp [errW_none, errW_some] <;> rfl) | (simp [*, errW_none, errW_some] <;> rfl), by repeat (first | (with_reducible first | exact HB.out | apply below_alloc | apply pw_below_drewN | apply below_drew1 | refine below_set ?_ GE178.out) | exact HB.out)⟩
              · replace c36 := Bool.eq_false_iff.mpr c36
                subst c36
                have H1 : (some false) = some r := by rw [if_neg (show ¬ (false = true) by decide)] at H; exact H
                clear H
                have H := H1
                clear H1
                obtain rfl := Option.some.inj H
                have hcz42_0 : wc.cell? ⟨gb178, 0, none⟩ = some (.string a0_0) := (blk_cell BK178.out 0).trans rfl
                have hcz42_1 : wc.cell? ⟨gb178, 1, none⟩ = some (.int .i64 a0_1) := (blk_cell BK178.out 1).trans rfl
                have hcz42_2 : wc.cell? ⟨gb178, 2, none⟩ = some (.string a0_2) := (blk_cell BK178.out 2).trans rfl
                have hcz42_3 : wc.cell? ⟨gb178, 3, none⟩ = some (.string a0_3) := (blk_cell BK178.out 3).trans rfl
                have hcz42_4 : wc.cell? ⟨gb178, 4, none⟩ = some (.int .i64 a0_4) := (blk_cell BK178.out 4).trans rfl
                have hcz42_5 : wc.cell? ⟨gb178, 5, none⟩ = some (.int .i64 a0_5) := (blk_cell BK178.out 5).trans rfl
                have hcz42_6 : wc.cell? ⟨gb178, 6, none⟩ = some (.string a0_6) := (blk_cell BK178.out 6).trans rfl
                have hcz42_7 : wc.cell? ⟨gb178, 7, none⟩ = some (.string a0_7) := (blk_cell BK178.out 7).trans rfl
                have hfz42_0 := blk_frozen BK178.out 0
                have hfz42_1 := blk_frozen BK178.out 1
                have hfz42_2 := blk_frozen BK178.out 2
                have hfz42_3 := blk_frozen BK178.out 3
                have hfz42_4 := blk_frozen BK178.out 4
                have hfz42_5 := blk_frozen BK178.out 5
                have hfz42_6 := blk_frozen BK178.out 6
                have hfz42_7 := blk_frozen BK178.out 7
                go_wp2_with (first | (go_at_call 56; (with_reducible refine (impl_isName.calls kj1 a0_3 false _ A35.out).mono ?_); rintro e w' ⟨rfl, ⟨nd, rfl⟩⟩))
                go_ret
                exact ⟨by first | rfl | (simp [errW_none, errW_some] <;> rfl) | (simp [*, errW_none, errW_some] <;> rfl), by repeat (first | (with_reducible first | exact HB.out | apply below_alloc | apply pw_below_drewN | apply below_drew1 | refine below_set ?_ GE178.out) | exact HB.out)⟩
          · rw [if_neg c32] at H
            have c32b0 : (a0_1 == 2) = false := beq_eq_false_iff_ne.mpr c32
            have c32b1 : (a0_1 != 2) = true := bne_iff_ne.mpr c32
            by_cases c43 : a0_1 = 3
            · rw [if_pos c43] at H
              have c43b0 : (a0_1 == 3) = true := beq_iff_eq.mpr c43
              have c43b1 : (a0_1 != 3) = false := bne_eq_false_iff_eq.mpr c43
              clear c43
              by_cases c44 : a0_3.toList = ([] : List UInt8)
              · rw [if_pos c44] at H
                have c44b0 : (a0_3.toList == ([] : List UInt8)) = true := beq_iff_eq.mpr c44
                have c44b1 : (a0_3.toList != ([] : List UInt8)) = false := bne_eq_false_iff_eq.mpr c44
                clear c44
                by_cases c45 : a0_4 ≤ a0_5
                · rw [if_pos c45] at H
                  have c45b0 : decide (a0_4 ≤ a0_5) = true := decide_eq_true c45
                  clear c45
                  by_cases c46 : a0_4 ≥ 1
                  · rw [if_pos c46] at H
                    have c46b0 : decide (1 ≤ a0_4) = true := decide_eq_true c46
                    clear c46
                    obtain rfl := Option.some.inj H
                    have hcz47_0 : wc.cell? ⟨gb178, 0, none⟩ = some (.string a0_0) := (blk_cell BK178.out 0).trans rfl
                    have hcz47_1 : wc.cell? ⟨gb178, 1, none⟩ = some (.int .i64 a0_1) := (blk_cell BK178.out 1).trans rfl
                    have hcz47_2 : wc.cell? ⟨gb178, 2, none⟩ = some (.string a0_2) := (blk_cell BK178.out 2).trans rfl
                    have hcz47_3 : wc.cell? ⟨gb178, 3, none⟩ = some (.string a0_3) := (blk_cell BK178.out 3).trans rfl
                    have hcz47_4 : wc.cell? ⟨gb178, 4, none⟩ = some (.int .i64 a0_4) := (blk_cell BK178.out 4).trans rfl
                    have hcz47_5 : wc.cell? ⟨gb178, 5, none⟩ = some (.int .i64 a0_5) := (blk_cell BK178.out 5).trans rfl
                    have hcz47_6 : wc.cell? ⟨gb178, 6, none⟩ = some (.string a0_6) := (blk_cell BK178.out 6).trans rfl
                    have hcz47_7 : wc.cell? ⟨gb178, 7, none⟩ = some (.string a0_7) := (blk_cell BK178.out 7).trans rfl
                    have hfz47_0 := blk_frozen BK178.out 0
                    have hfz47_1 := blk_frozen BK178.out 1
                    have hfz47_2 := blk_frozen BK178.out 2
                    have hfz47_3 := blk_frozen BK178.out 3
                    have hfz47_4 := blk_frozen BK178.out 4
                    have hfz47_5 := blk_frozen BK178.out 5
                    have hfz47_6 := blk_frozen BK178.out 6
                    have hfz47_7 := blk_frozen BK178.out 7
                    go_wp2
                    go_ret
                    exact ⟨by first | rfl | (simp [errW_none, errW_some] <;> rfl) | (simp [*, errW_none, errW_some] <;> rfl), by repeat (first | (with_reducible first | exact HB.out | apply below_alloc | apply pw_below_drewN | apply below_drew1 | refine below_set ?_ GE178.out) | exact HB.out)⟩
                  · rw [if_neg c46] at H
                    have c46b0 : decide (1 ≤ a0_4) = false := decide_eq_false c46
                    clear c46
                    by_cases c48 : a0_5 = 0
                    · rw [if_pos c48] at H
                      have c48b0 : (a0_5 == 0) = true := beq_iff_eq.mpr c48
                      have c48b1 : (a0_5 != 0) = false := bne_eq_false_iff_eq.mpr c48
                      clear c48
                      obtain rfl := Option.some.inj H
                      have hcz49_0 : wc.cell? ⟨gb178, 0, none⟩ = some (.string a0_0) := (blk_cell BK178.out 0).trans rfl
                      have hcz49_1 : wc.cell? ⟨gb178, 1, none⟩ = some (.int .i64 a0_1) := (blk_cell BK178.out 1).trans rfl
                      have hcz49_2 : wc.cell? ⟨gb178, 2, none⟩ = some (.string a0_2) := (blk_cell BK178.out 2).trans rfl
                      have hcz49_3 : wc.cell? ⟨gb178, 3, none⟩ = some (.string a0_3) := (blk_cell BK178.out 3).trans rfl
                      have hcz49_4 : wc.cell? ⟨gb178, 4, none⟩ = some (.int .i64 a0_4) := (blk_cell BK178.out 4).trans rfl
                      have hcz49_5 : wc.cell? ⟨gb178, 5, none⟩ = some (.int .i64 a0_5) := (blk_cell BK178.out 5).trans rfl
                      have hcz49_6 : wc.cell? ⟨gb178, 6, none⟩ = some (.string a0_6) := (blk_cell BK178.out 6).trans rfl
                      have hcz49_7 : wc.cell? ⟨gb178, 7, none⟩ = some (.string a0_7) := (blk_cell BK178.out 7).trans rfl
                      have hfz49_0 := blk_frozen BK178.out 0
                      have hfz49_1 := blk_frozen BK178.out 1
                      have hfz49_2 := blk_frozen BK178.out 2
                      have hfz49_3 := blk_frozen BK178.out 3
                      have hfz49_4 := blk_frozen BK178.out 4
                      have hfz49_5 := blk_frozen BK178.out 5
                      have hfz49_6 := blk_frozen BK178.out 6
                      have hfz49_7 := blk_frozen BK178.out 7
                      go_wp2
                      go_ret
                      exact ⟨by first | rfl | (simp [errW_none, errW_some] <;> rfl) | (simp [*, errW_none, errW_some] <;> rfl), by repeat (first | (with_reducible first | exact HB.out | apply below_alloc | apply pw_below_drewN | apply below_drew1 | refine below_set ?_ GE178.out) | exact HB.out)⟩
                    · rw [if_neg c48] at H
                      have c48b0 : (a0_5 == 0) = false := beq_eq_false_iff_ne.mpr c48
                      have c48b1 : (a0_5 != 0) = true := bne_iff_ne.mpr c48
                      obtain rfl := Option.some.inj H
                      have hcz50_0 : wc.cell? ⟨gb178, 0, none⟩ = some (.string a0_0) := (blk_cell BK178.out 0).trans rfl
                      have hcz50_1 : wc.cell? ⟨gb178, 1, none⟩ = some (.int .i64 a0_1) := (blk_cell BK178.out 1).trans rfl
                      have hcz50_2 : wc.cell? ⟨gb178, 2, none⟩ = some (.string a0_2) := (blk_cell BK178.out 2).trans rfl
                      have hcz50_3 : wc.cell? ⟨gb178, 3, none⟩ = some (.string a0_3) := (blk_cell BK178.out 3).trans rfl
                      have hcz50_4 : wc.cell? ⟨gb178, 4, none⟩ = some (.int .i64 a0_4) := (blk_cell BK178.out 4).trans rfl
                      have hcz50_5 : wc.cell? ⟨gb178, 5, none⟩ = some (.int .i64 a0_5) := (blk_cell BK178.out 5).trans rfl
                      have hcz50_6 : wc.cell? ⟨gb178, 6, none⟩ = some (.string a0_6) := (blk_cell BK178.out 6).trans rfl
                      have hcz50_7 : wc.cell? ⟨gb178, 7, none⟩ = some (.string a0_7) := (blk_cell BK178.out 7).trans rfl
                      have hfz50_0 := blk_frozen BK178.out 0
                      have hfz50_1 := blk_frozen BK178.out 1
                      have hfz50_2 := blk_frozen BK178.out 2
                      have hfz50_3 := blk_frozen BK178.out 3
                      have hfz50_4 := blk_frozen BK178.out 4
                      have hfz50_5 := blk_frozen BK178.out 5
                      have hfz50_6 := blk_frozen BK178.out 6
                      have hfz50_7 := blk_frozen BK178.out 7
                      go_wp2
                      go_ret
                      exact ⟨by first | rfl | (simp [errW_none, errW_some] <;> rfl) | (simp [*, errW_none, errW_some] <;> rfl), by repeat (first | (with_reducible first | exact HB.out | apply below_alloc | apply pw_below_drewN | apply below_drew1 | refine below_set ?_ GE178.out) | exact HB.out)⟩
                · rw [if_neg c45] at H
                  have c45b0 : decide (a0_4 ≤ a0_5) = false := decide_eq_false c45
                  clear c45
                  obtain rfl := Option.some.inj H
                  have hcz51_0 : wc.cell? ⟨gb178, 0, none⟩ = some (.string a0_0) := (blk_cell BK178.out 0).trans rfl
                  have hcz51_1 : wc.cell? ⟨gb178, 1, none⟩ = some (.int .i64 a0_1) := (blk_cell BK178.out 1).trans rfl
                  have hcz51_2 : wc.cell? ⟨gb178, 2, none⟩ = some (.string a0_2) := (blk_cell BK178.out 2).trans rfl
                  have hcz51_3 : wc.cell? ⟨gb178, 3, none⟩ = some (.string a0_3) := (blk_cell BK178.out 3).trans rfl
                  have hcz51_4 : wc.cell? ⟨gb178, 4, none⟩ = some (.int .i64 a0_4) := (blk_cell BK178.out 4).trans rfl
                  have hcz51_5 : wc.cell? ⟨gb178, 5, none⟩ = some (.int .i64 a0_5) := (blk_cell BK178.out 5).trans rfl
                  have hcz51_6 : wc.cell? ⟨gb178, 6, none⟩ = some (.string a0_6) := (blk_cell BK178.out 6).trans rfl
                  have hcz51_7 : wc.cell? ⟨gb178, 7, none⟩ = some (.string a0_7) := (blk_cell BK178.out 7).trans rfl
                  have hfz51_0 := blk_frozen BK178.out 0
                  have hfz51_1 := blk_frozen BK178.out 1
                  have hfz51_2 := blk_frozen BK178.out 2
                  have hfz51_3 := blk_frozen BK178.out 3
                  have hfz51_4 := blk_frozen BK178.out 4
                  have hfz51_5 := blk_frozen BK178.out 5
                  have hfz51_6 := blk_frozen BK178.out 6
                  have hfz51_7 := blk_frozen BK178.out 7
                  go_wp2
                  go_ret
                  exact ⟨by first | rfl | (simp [errW_none, errW_some] <;> rfl) | (simp [*, errW_none, errW_some] <;> rfl), by repeat (first | (with_reducible first | exact HB.out | apply below_alloc | apply pw_below_drewN | apply below_drew1 | refine below_set ?_ GE178.out) | exact HB.out)⟩
              · rw [if_neg c44] at H
                have c44b0 : (a0_3.toList == ([] : List UInt8)) = false := beq_eq_false_iff_ne.mpr c44
                have c44b1 : (a0_3.toList != ([] : List UInt8)) = true := bne_iff_ne.mpr c44
                obtain rfl := Option.some.inj H
                have hcz52_0 : wc.cell? ⟨gb178, 0, none⟩ = some (.string a0_0) := (blk_cell BK178.out 0).trans rfl
                have hcz52_1 : wc.cell? ⟨gb178, 1, none⟩ = some (.int .i64 a0_1) := (blk_cell BK178.out 1).trans rfl
                have hcz52_2 : wc.cell? ⟨gb178, 2, none⟩ = some (.string a0_2) := (blk_cell BK178.out 2).trans rfl
                have hcz52_3 : wc.cell? ⟨gb178, 3, none⟩ = some (.string a0_3) := (blk_cell BK178.out 3).trans rfl
                have hcz52_4 : wc.cell? ⟨gb178, 4, none⟩ = some (.int .i64 a0_4) := (blk_cell BK178.out 4).trans rfl
                have hcz52_5 : wc.cell? ⟨gb178, 5, none⟩ = some (.int .i64 a0_5) := (blk_cell BK178.out 5).trans rfl
                have hcz52_6 : wc.cell? ⟨gb178, 6, none⟩ = some (.string a0_6) := (blk_cell BK178.out 6).trans rfl
                have hcz52_7 : wc.cell? ⟨gb178, 7, none⟩ = some (.string a0_7) := (blk_cell BK178.out 7).trans rfl
                have hfz52_0 := blk_frozen BK178.out 0
                have hfz52_1 := blk_frozen BK178.out 1
                have hfz52_2 := blk_frozen BK178.out 2
                have hfz52_3 := blk_frozen BK178.out 3
                have hfz52_4 := blk_frozen BK178.out 4
                have hfz52_5 := blk_frozen BK178.out 5
                have hfz52_6 := blk_frozen BK178.out 6
                have hfz52_7 := blk_frozen BK178.out 7
                go_wp2
                go_ret
                exact ⟨by first | rfl | (simp [errW_none, errW_some] <;> rfl) | (simp [*, errW_none, errW_some] <;> rfl), by repeat (first | (with_reducible first | exact HB.out | apply below_alloc | apply pw_below_drewN | apply below_drew1 | refine below_set ?_ GE178.out) | exact HB.out)⟩
            · rw [if_neg c43] at H
              have c43b0 : (a0_1 == 3) = false := beq_eq_false_iff_ne.mpr c43
              have c43b1 : (a0_1 != 3) = true := bne_iff_ne.mpr c43
              have HC53 := Aside0.mk H
              clear H
              have hcz54_0 : wc.cell? ⟨gb178, 0, none⟩ = some (.string a0_0) := (blk_cell BK178.out 0).trans rfl
              have hcz54_1 : wc.cell? ⟨gb178, 1, none⟩ = some (.int .i64 a0_1) := (blk_cell BK178.out 1).trans rfl
              have hcz54_2 : wc.cell? ⟨gb178, 2, none⟩ = some (.string a0_2) := (blk_cell BK178.out 2).trans rfl
              have hcz54_3 : wc.cell? ⟨gb178, 3, none⟩ = some (.string a0_3) := (blk_cell BK178.out 3).trans rfl
              have hcz54_4 : wc.cell? ⟨gb178, 4, none⟩ = some (.int .i64 a0_4) := (blk_cell BK178.out 4).trans rfl
              have hcz54_5 : wc.cell? ⟨gb178, 5, none⟩ = some (.int .i64 a0_5) := (blk_cell BK178.out 5).trans rfl
              have hcz54_6 : wc.cell? ⟨gb178, 6, none⟩ = some (.string a0_6) := (blk_cell BK178.out 6).trans rfl
              have hcz54_7 : wc.cell? ⟨gb178, 7, none⟩ = some (.string a0_7) := (blk_cell BK178.out 7).trans rfl
              have hfz54_0 := blk_frozen BK178.out 0
              have hfz54_1 := blk_frozen BK178.out 1
              have hfz54_2 := blk_frozen BK178.out 2
              have hfz54_3 := blk_frozen BK178.out 3
              have hfz54_4 := blk_frozen BK178.out 4
              have hfz54_5 := blk_frozen BK178.out 5
              have hfz54_6 := blk_frozen BK178.out 6
              have hfz54_7 := blk_frozen BK178.out 7
              go_upto_if 58 with (fail)
              go_cut [58] (fun v58 wc => ∃ (kq : Nat) (x58_52 : Bool), v58 = .bool x58_52 ∧ Aside0 (impl_RecPhaseOk.j1 kq false x58_52 a0_0 a0_1 a0_2 a0_3 a0_4 a0_5 a0_6 a0_7 = some r) ∧ Aside0 (kq ≤ kj1) ∧ Aside0 (wc.heap[gb178]? = some (.cells #[.string a0_0, .int .i64 a0_1, .string a0_2, .string a0_3, .int .i64 a0_4, .int .i64 a0_5, .string a0_6, .string a0_7] 35 (0, 0))) ∧ Aside0 (Below w.heap.size w wc))
              case first =>
                have H := HC53.out
                clear HC53
                by_cases c55 : a0_1 = 4
                · rw [if_pos c55] at H
                  have c55b0 : (a0_1 == 4) = true := beq_iff_eq.mpr c55
                  have c55b1 : (a0_1 != 4) = false := bne_eq_false_iff_eq.mpr c55
                  clear c55
                  (first | rw [c55b0] | (simp only [i64_w, i32_w]; rw [c55b0]) | skip)
                  have H' := Aside0.mk H
                  clear H
                  go_wp2
                  go_meet
                  case rel => exact ⟨_, ((a0_1 == 4)), (by first | rfl | (simp; done) | (simp [*]; done)), H', ⟨by have := HJ1.out; first | omega | exact Nat.le_refl _⟩, ⟨by (with_reducible repeat (first | refine blk_drewN ?_ _ | refine blk_drew ?_ | refine blk_alloc ?_ _)); exact BK178.out⟩, ⟨by repeat (first | (with_reducible first | exact HB.out | apply below_alloc | apply pw_below_drewN | apply below_drew1 | refine below_set ?_ GE178.out) | exact HB.out)⟩⟩
                · rw [if_neg c55] at H
                  have c55b0 : (a0_1 == 4) = false := beq_eq_false_iff_ne.mpr c55
                  have c55b1 : (a0_1 != 4) = true := bne_iff_ne.mpr c55
                  (first | rw [c55b0] | (simp only [i64_w, i32_w]; rw [c55b0]) | skip)
                  have H' := Aside0.mk H
                  clear H
                  go_wp2
                  go_meet
                  case rel => exact ⟨_, ((a0_1 == 5)), (by first | rfl | (simp; done) | (simp [*]; done)), H', ⟨by have := HJ1.out; first | omega | exact Nat.le_refl _⟩, ⟨by (with_reducible repeat (first | refine blk_drewN ?_ _ | refine blk_drew ?_ | refine blk_alloc ?_ _)); exact BK178.out⟩, ⟨by repeat (first | (with_reducible first | exact HB.out | apply below_alloc | apply pw_below_drewN | apply below_drew1 | refine below_set ?_ GE178.out) | exact HB.out)⟩⟩
              case rest =>
                clear HC53
                try clear c1
                try clear c2
                try clear p2
                try clear c3
                try clear c4
                try clear c5
                try clear c7
                try clear c7b0
                try clear c7b1
                try clear c8
                try clear c8b0
                try clear c10
                try clear c10b0
                try clear c13
                try clear c15
                try clear c22
                try clear c23
                try clear c23b0
                try clear c23b1
                try clear c25
                try clear c26
                try clear c26b0
                try clear c27
                try clear c27b0
                try clear c32
                try clear c32b0
                try clear c32b1
                try clear c33
                try clear c33b0
                try clear c33b1
                try clear c36
                try clear c37
                try clear c37b0
                try clear c38
                try clear c38b0
                try clear c43
                try clear c43b0
                try clear c43b1
                try clear c44
                try clear c44b0
                try clear c44b1
                try clear c45
                try clear c45b0
                try clear c46
                try clear c46b0
                try clear c48
                try clear c48b0
                try clear c48b1
                try clear c55
                try clear c55b0
                try clear c55b1
                try clear hcz11_0
                try clear hcz11_1
                try clear hcz11_2
                try clear hcz11_3
                try clear hcz11_4
                try clear hcz11_5
                try clear hcz11_6
                try clear hcz11_7
                try clear hcz17_0
                try clear hcz17_1
                try clear hcz17_2
                try clear hcz17_3
                try clear hcz17_4
                try clear hcz17_5
                try clear hcz17_6
                try clear hcz17_7
                try clear hcz18_0
                try clear hcz18_1
                try clear hcz18_2
                try clear hcz18_3
                try clear hcz18_4
                try clear hcz18_5
                try clear hcz18_6
                try clear hcz18_7
                try clear hcz19_0
                try clear hcz19_1
                try clear hcz19_2
                try clear hcz19_3
                try clear hcz19_4
                try clear hcz19_5
                try clear hcz19_6
                try clear hcz19_7
                try clear hcz20_0
                try clear hcz20_1
                try clear hcz20_2
                try clear hcz20_3
                try clear hcz20_4
                try clear hcz20_5
                try clear hcz20_6
                try clear hcz20_7
                try clear hcz21_0
                try clear hcz21_1
                try clear hcz21_2
                try clear hcz21_3
                try clear hcz21_4
                try clear hcz21_5
                try clear hcz21_6
                try clear hcz21_7
                try clear hcz28_0
                try clear hcz28_1
                try clear hcz28_2
                try clear hcz28_3
                try clear hcz28_4
                try clear hcz28_5
                try clear hcz28_6
                try clear hcz28_7
                try clear hcz29_0
                try clear hcz29_1
                try clear hcz29_2
                try clear hcz29_3
                try clear hcz29_4
                try clear hcz29_5
                try clear hcz29_6
                try clear hcz29_7
                try clear hcz30_0
                try clear hcz30_1
                try clear hcz30_2
                try clear hcz30_3
                try clear hcz30_4
                try clear hcz30_5
                try clear hcz30_6
                try clear hcz30_7
                try clear hcz31_0
                try clear hcz31_1
                try clear hcz31_2
                try clear hcz31_3
                try clear hcz31_4
                try clear hcz31_5
                try clear hcz31_6
                try clear hcz31_7
                try clear hcz34_0
                try clear hcz34_1
                try clear hcz34_2
                try clear hcz34_3
                try clear hcz34_4
                try clear hcz34_5
                try clear hcz34_6
                try clear hcz34_7
                try clear hcz39_0
                try clear hcz39_1
                try clear hcz39_2
                try clear hcz39_3
                try clear hcz39_4
                try clear hcz39_5
                try clear hcz39_6
                try clear hcz39_7
                try clear hcz40_0
                try clear hcz40_1
                try clear hcz40_2
                try clear hcz40_3
                try clear hcz40_4
                try clear hcz40_5
                try clear hcz40_6
                try clear hcz40_7
                try clear hcz41_0
                try clear hcz41_1
                try clear hcz41_2
                try clear hcz41_3
                try clear hcz41_4
                try clear hcz41_5
                try clear hcz41_6
                try clear hcz41_7
                try clear hcz42_0
                try clear hcz42_1
                try clear hcz42_2
                try clear hcz42_3
                try clear hcz42_4
                try clear hcz42_5
                try clear hcz42_6
                try clear hcz42_7
                try clear hcz47_0
                try clear hcz47_1
                try clear hcz47_2
                try clear hcz47_3
                try clear hcz47_4
                try clear hcz47_5
                try clear hcz47_6
                try clear hcz47_7
                try clear hcz49_0
                try clear hcz49_1
                try clear hcz49_2
                try clear hcz49_3
                try clear hcz49_4
                try clear hcz49_5
                try clear hcz49_6
                try clear hcz49_7
                try clear hcz50_0
                try clear hcz50_1
                try clear hcz50_2
                try clear hcz50_3
                try clear hcz50_4
                try clear hcz50_5
                try clear hcz50_6
                try clear hcz50_7
                try clear hcz51_0
                try clear hcz51_1
                try clear hcz51_2
                try clear hcz51_3
                try clear hcz51_4
                try clear hcz51_5
                try clear hcz51_6
                try clear hcz51_7
                try clear hcz52_0
                try clear hcz52_1
                try clear hcz52_2
                try clear hcz52_3
                try clear hcz52_4
                try clear hcz52_5
                try clear hcz52_6
                try clear hcz52_7
                try clear hcz54_0
                try clear hcz54_1
                try clear hcz54_2
                try clear hcz54_3
                try clear hcz54_4
                try clear hcz54_5
                try clear hcz54_6
                try clear hcz54_7
                try clear hcz9_0
                try clear hcz9_1
                try clear hcz9_2
                try clear hcz9_3
                try clear hcz9_4
                try clear hcz9_5
                try clear hcz9_6
                try clear hcz9_7
                try clear hfz11_0
                try clear hfz11_1
                try clear hfz11_2
                try clear hfz11_3
                try clear hfz11_4
                try clear hfz11_5
                try clear hfz11_6
                try clear hfz11_7
                try clear hfz17_0
                try clear hfz17_1
                try clear hfz17_2
                try clear hfz17_3
                try clear hfz17_4
                try clear hfz17_5
                try clear hfz17_6
                try clear hfz17_7
                try clear hfz18_0
                try clear hfz18_1
                try clear hfz18_2
                try clear hfz18_3
                try clear hfz18_4
                try clear hfz18_5
                try clear hfz18_6
                try clear hfz18_7
                try clear hfz19_0
                try clear hfz19_1
                try clear hfz19_2
                try clear hfz19_3
                try clear hfz19_4
                try clear hfz19_5
                try clear hfz19_6
                try clear hfz19_7
                try clear hfz20_0
                try clear hfz20_1
                try clear hfz20_2
                try clear hfz20_3
                try clear hfz20_4
                try clear hfz20_5
                try clear hfz20_6
                try clear hfz20_7
                try clear hfz21_0
                try clear hfz21_1
                try clear hfz21_2
                try clear hfz21_3
                try clear hfz21_4
                try clear hfz21_5
                try clear hfz21_6
                try clear hfz21_7
                try clear hfz28_0
                try clear hfz28_1
                try clear hfz28_2
                try clear hfz28_3
                try clear hfz28_4
                try clear hfz28_5
                try clear hfz28_6
                try clear hfz28_7
                try clear hfz29_0
                try clear hfz29_1
                try clear hfz29_2
                try clear hfz29_3
                try clear hfz29_4
                try clear hfz29_5
                try clear hfz29_6
                try clear hfz29_7
                try clear hfz30_0
                try clear hfz30_1
                try clear hfz30_2
                try clear hfz30_3
                try clear hfz30_4
                try clear hfz30_5
                try clear hfz30_6
                try clear hfz30_7
                try clear hfz31_0
                try clear hfz31_1
                try clear hfz31_2
                try clear hfz31_3
                try clear hfz31_4
                try clear hfz31_5
                try clear hfz31_6
                try clear hfz31_7
                try clear hfz34_0
                try clear hfz34_1
                try clear hfz34_2
                try clear hfz34_3
                try clear hfz34_4
                try clear hfz34_5
                try clear hfz34_6
                try clear hfz34_7
                try clear hfz39_0
                try clear hfz39_1
                try clear hfz39_2
                try clear hfz39_3
                try clear hfz39_4
                try clear hfz39_5
                try clear hfz39_6
                try clear hfz39_7
                try clear hfz40_0
                try clear hfz40_1
                try clear hfz40_2
                try clear hfz40_3
                try clear hfz40_4
                try clear hfz40_5
                try clear hfz40_6
                try clear hfz40_7
                try clear hfz41_0
                try clear hfz41_1
                try clear hfz41_2
                try clear hfz41_3
                try clear hfz41_4
                try clear hfz41_5
                try clear hfz41_6
                try clear hfz41_7
                try clear hfz42_0
                try clear hfz42_1
                try clear hfz42_2
                try clear hfz42_3
                try clear hfz42_4
                try clear hfz42_5
                try clear hfz42_6
                try clear hfz42_7
                try clear hfz47_0
                try clear hfz47_1
                try clear hfz47_2
                try clear hfz47_3
                try clear hfz47_4
                try clear hfz47_5
                try clear hfz47_6
                try clear hfz47_7
                try clear hfz49_0
                try clear hfz49_1
                try clear hfz49_2
                try clear hfz49_3
                try clear hfz49_4
                try clear hfz49_5
                try clear hfz49_6
                try clear hfz49_7
                try clear hfz50_0
                try clear hfz50_1
                try clear hfz50_2
                try clear hfz50_3
                try clear hfz50_4
                try clear hfz50_5
                try clear hfz50_6
                try clear hfz50_7
                try clear hfz51_0
                try clear hfz51_1
                try clear hfz51_2
                try clear hfz51_3
                try clear hfz51_4
                try clear hfz51_5
                try clear hfz51_6
                try clear hfz51_7
                try clear hfz52_0
                try clear hfz52_1
                try clear hfz52_2
                try clear hfz52_3
                try clear hfz52_4
                try clear hfz52_5
                try clear hfz52_6
                try clear hfz52_7
                try clear hfz54_0
                try clear hfz54_1
                try clear hfz54_2
                try clear hfz54_3
                try clear hfz54_4
                try clear hfz54_5
                try clear hfz54_6
                try clear hfz54_7
                try clear hfz9_0
                try clear hfz9_1
                try clear hfz9_2
                try clear hfz9_3
                try clear hfz9_4
                try clear hfz9_5
                try clear hfz9_6
                try clear hfz9_7
                try clear p2
                obtain ⟨kq, x58_52, rfl, HA, HJ52, BK178, HB⟩ := hcut
                cases kq with
                | zero => exact absurd HA.out (by simp [impl_RecPhaseOk.j1])
                | succ kj52 =>
                  have H := HA.out
                  clear HA
                  simp only [impl_RecPhaseOk.j1] at H
                  by_cases c56 : x58_52 = true
                  · subst c56
                    have H1 : (if false = true then ((impl_isName.f kj52 a0_3).bind fun t186 => (if t186 = true then (if a0_4 ≤ 0 then (if a0_4 ≥ 1 then (some true) else (some (a0_4 == 0))) else (some false)) else (some false))) else (if a0_3.toList = ([] : List UInt8) then (if a0_4 ≤ 0 then (if a0_4 ≥ 1 then (some true) else (some (a0_4 == 0))) else (some false)) else (some false))) = some r := by rw [if_pos rfl] at H; exact H
                    clear H
                    have H := H1
                    clear H1
                    have H1 : (if a0_3.toList = ([] : List UInt8) then (if a0_4 ≤ 0 then (if a0_4 ≥ 1 then (some true) else (some (a0_4 == 0))) else (some false)) else (some false)) = some r := by rw [if_neg (by decide)] at H; exact H
                    clear H
                    have H := H1
                    clear H1
                    by_cases c57 : a0_3.toList = ([] : List UInt8)
                    · rw [if_pos c57] at H
                      have c57b0 : (a0_3.toList == ([] : List UInt8)) = true := beq_iff_eq.mpr c57
                      have c57b1 : (a0_3.toList != ([] : List UInt8)) = false := bne_eq_false_iff_eq.mpr c57
                      clear c57
                      by_cases c58 : a0_4 ≤ 0
                      · rw [if_pos c58] at H
                        have c58b0 : decide (a0_4 ≤ 0) = true := decide_eq_true c58
                        clear c58
                        by_cases c59 : a0_4 ≥ 1
                        · rw [if_pos c59] at H
                          have c59b0 : decide (1 ≤ a0_4) = true := decide_eq_true c59
                          clear c59
                          obtain rfl := Option.some.inj H
                          have hcz60_0 : wc.cell? ⟨gb178, 0, none⟩ = some (.string a0_0) := (blk_cell BK178.out 0).trans rfl
                          have hcz60_1 : wc.cell? ⟨gb178, 1, none⟩ = some (.int .i64 a0_1) := (blk_cell BK178.out 1).trans rfl
                          have hcz60_2 : wc.cell? ⟨gb178, 2, none⟩ = some (.string a0_2) := (blk_cell BK178.out 2).trans rfl
                          have hcz60_3 : wc.cell? ⟨gb178, 3, none⟩ = some (.string a0_3) := (blk_cell BK178.out 3).trans rfl
                          have hcz60_4 : wc.cell? ⟨gb178, 4, none⟩ = some (.int .i64 a0_4) := (blk_cell BK178.out 4).trans rfl
                          have hcz60_5 : wc.cell? ⟨gb178, 5, none⟩ = some (.int .i64 a0_5) := (blk_cell BK178.out 5).trans rfl
                          have hcz60_6 : wc.cell? ⟨gb178, 6, none⟩ = some (.string a0_6) := (blk_cell BK178.out 6).trans rfl
                          have hcz60_7 : wc.cell? ⟨gb178, 7, none⟩ = some (.string a0_7) := (blk_cell BK178.out 7).trans rfl
                          have hfz60_0 := blk_frozen BK178.out 0
                          have hfz60_1 := blk_frozen BK178.out 1
                          have hfz60_2 := blk_frozen BK178.out 2
                          have hfz60_3 := blk_frozen BK178.out 3
                          have hfz60_4 := blk_frozen BK178.out 4
                          have hfz60_5 := blk_frozen BK178.out 5
                          have hfz60_6 := blk_frozen BK178.out 6
                          have hfz60_7 := blk_frozen BK178.out 7
                          go_wp2
                          go_ret
                          exact ⟨by first | rfl | (simp [errW_none, errW_some] <;> rfl) | (simp [*, errW_none, errW_some] <;> rfl), by repeat (first | (with_reducible first | exact HB.out | apply below_alloc | apply pw_below_drewN | apply below_drew1 | refine below_set ?_ GE178.out) | exact HB.out)⟩
                        · rw [if_neg c59] at H
                          have c59b0 : decide (1 ≤ a0_4) = false := decide_eq_false c59
                          clear c59
                          obtain rfl := Option.some.inj H
                          have hcz61_0 : wc.cell? ⟨gb178, 0, none⟩ = some (.string a0_0) := (blk_cell BK178.out 0).trans rfl
                          have hcz61_1 : wc.cell? ⟨gb178, 1, none⟩ = some (.int .i64 a0_1) := (blk_cell BK178.out 1).trans rfl
                          have hcz61_2 : wc.cell? ⟨gb178, 2, none⟩ = some (.string a0_2) := (blk_cell BK178.out 2).trans rfl
                          have hcz61_3 : wc.cell? ⟨gb178, 3, none⟩ = some (.string a0_3) := (blk_cell BK178.out 3).trans rfl
                          have hcz61_4 : wc.cell? ⟨gb178, 4, none⟩ = some (.int .i64 a0_4) := (blk_cell BK178.out 4).trans rfl
                          have hcz61_5 : wc.cell? ⟨gb178, 5, none⟩ = some (.int .i64 a0_5) := (blk_cell BK178.out 5).trans rfl
                          have hcz61_6 : wc.cell? ⟨gb178, 6, none⟩ = some (.string a0_6) := (blk_cell BK178.out 6).trans rfl
                          have hcz61_7 : wc.cell? ⟨gb178, 7, none⟩ = some (.string a0_7) := (blk_cell BK178.out 7).trans rfl
                          have hfz61_0 := blk_frozen BK178.out 0
                          have hfz61_1 := blk_frozen BK178.out 1
                          have hfz61_2 := blk_frozen BK178.out 2
                          have hfz61_3 := blk_frozen BK178.out 3
                          have hfz61_4 := blk_frozen BK178.out 4
                          have hfz61_5 := blk_frozen BK178.out 5
                          have hfz61_6 := blk_frozen BK178.out 6
                          have hfz61_7 := blk_frozen BK178.out 7
                          go_wp2
                          go_ret
                          exact ⟨by first | rfl | (simp [errW_none, errW_some] <;> rfl) | (simp [*, errW_none, errW_some] <;> rfl), by repeat (first | (with_reducible first | exact HB.out | apply below_alloc | apply pw_below_drewN | apply below_drew1 | refine below_set ?_ GE178.out) | exact HB.out)⟩
                      · rw [if_neg c58] at H
                        have c58b0 : decide (a0_4 ≤ 0) = false := decide_eq_false c58
                        clear c58
                        obtain rfl := Option.some.inj H
                        have hcz62_0 : wc.cell? ⟨gb178, 0, none⟩ = some (.string a0_0) := (blk_cell BK178.out 0).trans rfl
                        have hcz62_1 : wc.cell? ⟨gb178, 1, none⟩ = some (.int .i64 a0_1) := (blk_cell BK178.out 1).trans rfl
                        have hcz62_2 : wc.cell? ⟨gb178, 2, none⟩ = some (.string a0_2) := (blk_cell BK178.out 2).trans rfl
                        have hcz62_3 : wc.cell? ⟨gb178, 3, none⟩ = some (.string a0_3) := (blk_cell BK178.out 3).trans rfl
                        have hcz62_4 : wc.cell? ⟨gb178, 4, none⟩ = some (.int .i64 a0_4) := (blk_cell BK178.out 4).trans rfl
                        have hcz62_5 : wc.cell? ⟨gb178, 5, none⟩ = some (.int .i64 a0_5) := (blk_cell BK178.out 5).trans rfl
                        have hcz62_6 : wc.cell? ⟨gb178, 6, none⟩ = some (.string a0_6) := (blk_cell BK178.out 6).trans rfl
                        have hcz62_7 : wc.cell? ⟨gb178, 7, none⟩ = some (.string a0_7) := (blk_cell BK178.out 7).trans rfl
                        have hfz62_0 := blk_frozen BK178.out 0
                        have hfz62_1 := blk_frozen BK178.out 1
                        have hfz62_2 := blk_frozen BK178.out 2
                        have hfz62_3 := blk_frozen BK178.out 3
                        have hfz62_4 := blk_frozen BK178.out 4
                        have hfz62_5 := blk_frozen BK178.out 5
                        have hfz62_6 := blk_frozen BK178.out 6
                        have hfz62_7 := blk_frozen BK178.out 7
                        go_wp2
                        go_ret
                        exact ⟨by first | rfl | (simp [errW_none, errW_some] <;> rfl) | (simp [*, errW_none, errW_some] <;> rfl), by repeat (first | (with_reducible first | exact HB.out | apply below_alloc | apply pw_below_drewN | apply below_drew1 | refine below_set ?_ GE178.out) | exact HB.out)⟩
                    · rw [if_neg c57] at H
                      have c57b0 : (a0_3.toList == ([] : List UInt8)) = false := beq_eq_false_iff_ne.mpr c57
                      have c57b1 : (a0_3.toList != ([] : List UInt8)) = true := bne_iff_ne.mpr c57
                      obtain rfl := Option.some.inj H
                      have hcz63_0 : wc.cell? ⟨gb178, 0, none⟩ = some (.string a0_0) := (blk_cell BK178.out 0).trans rfl
                      have hcz63_1 : wc.cell? ⟨gb178, 1, none⟩ = some (.int .i64 a0_1) := (blk_cell BK178.out 1).trans rfl
                      have hcz63_2 : wc.cell? ⟨gb178, 2, none⟩ = some (.string a0_2) := (blk_cell BK178.out 2).trans rfl
                      have hcz63_3 : wc.cell? ⟨gb178, 3, none⟩ = some (.string a0_3) := (blk_cell BK178.out 3).trans rfl
                      have hcz63_4 : wc.cell? ⟨gb178, 4, none⟩ = some (.int .i64 a0_4) := (blk_cell BK178.out 4).trans rfl
                      have hcz63_5 : wc.cell? ⟨gb178, 5, none⟩ = some (.int .i64 a0_5) := (blk_cell BK178.out 5).trans rfl
                      have hcz63_6 : wc.cell? ⟨gb178, 6, none⟩ = some (.string a0_6) := (blk_cell BK178.out 6).trans rfl
                      have hcz63_7 : wc.cell? ⟨gb178, 7, none⟩ = some (.string a0_7) := (blk_cell BK178.out 7).trans rfl
                      have hfz63_0 := blk_frozen BK178.out 0
                      have hfz63_1 := blk_frozen BK178.out 1
                      have hfz63_2 := blk_frozen BK178.out 2
                      have hfz63_3 := blk_frozen BK178.out 3
                      have hfz63_4 := blk_frozen BK178.out 4
                      have hfz63_5 := blk_frozen BK178.out 5
                      have hfz63_6 := blk_frozen BK178.out 6
                      have hfz63_7 := blk_frozen BK178.out 7
                      go_wp2
                      go_ret
                      exact ⟨by first | rfl | (simp [errW_none, errW_some] <;> rfl) | (simp [*, errW_none, errW_some] <;> rfl), by repeat (first | (with_reducible first | exact HB.out | apply below_alloc | apply pw_below_drewN | apply below_drew1 | refine below_set ?_ GE178.out) | exact HB.out)⟩
                  · replace c56 := Bool.eq_false_iff.mpr c56
                    subst c56
                    have H1 : (some false) = some r := by rw [if_neg (show ¬ (false = true) by decide)] at H; exact H
                    clear H
                    have H := H1
                    clear H1
                    obtain rfl := Option.some.inj H
                    go_wp2
                    go_ret
                    exact ⟨by first | rfl | (simp [errW_none, errW_some] <;> rfl) | (simp [*, errW_none, errW_some] <;> rfl), by repeat (first | (with_reducible first | exact HB.out | apply below_alloc | apply pw_below_drewN | apply below_drew1 | refine below_set ?_ GE178.out) | exact HB.out)⟩

end Go.Proofs.Ytccbknhhgnefmaa.QFnExactRecBegin
