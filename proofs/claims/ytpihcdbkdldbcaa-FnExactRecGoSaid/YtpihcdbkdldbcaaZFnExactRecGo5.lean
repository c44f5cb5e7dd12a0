/- Laid by a program of this session: the texts of one law, joined, without what it does not come to. -/
import Derived.Test.YtpihcdbkdldbcaaZFnExactRecGo4
namespace Go.Proofs.Ytpihcdbkdldbcaa.QFnExactRecGo
open Go.RowKit Go.Proofs.YtpihcdbkdldbcaaW.PrintWords Go.Proofs.YtpihcdbkdldbcaaW.PrintLast Go.Proofs.YtpihcdbkdldbcaaW.PrintMore
attribute [local go_sem] str_geq str_gtr str_leq max2_int min2_int max_two min_two max_three min_three max_four min_four   -- for this text's walks alone
set_option linter.unusedVariables false
set_option linter.unusedSimpArgs false
mutual
def impl_RecOk.j0 : Nat → List (S44) → Bool → Option (Bool)
 | 0, _, _ => none
 | k + 1, x0, x16 => if x16 = true then (some false) else (impl_RecOk.l0 k x0 x0 (x0.length : Int) 0)
def impl_RecOk.l0 : Nat → List (S44) → List (S44) → Int → Int → Option (Bool)
 | 0, _, _, _, _ => none
 | k + 1, x0, x17, x18, x19 => if x19 < x18 then (if 0 ≤ x19 then (if x19 < (x17.length : Int) then ((impl_RecPhaseOk.f k ((rd_T44 x17 x19).f0) ((rd_T44 x17 x19).f1) ((rd_T44 x17 x19).f2) ((rd_T44 x17 x19).f3) ((rd_T44 x17 x19).f4) ((rd_T44 x17 x19).f5) ((rd_T44 x17 x19).f6) ((rd_T44 x17 x19).f7)).bind fun t204 => (if t204 = true then ((impl_phase.f k x0 ((rd_T44 x17 x19).f0)).bind fun t205 => (if t205 = x19 then (impl_RecOk.l0 k x0 x17 x18 (wrap64 (x19 + 1))) else (some false))) else (some false))) else (none)) else (none)) else (impl_RecOk.l1 k x0 x0 (x0.length : Int) 0)
def impl_RecOk.l1 : Nat → List (S44) → List (S44) → Int → Int → Option (Bool)
 | 0, _, _, _, _ => none
 | k + 1, x0, x36, x37, x38 => if x38 < x37 then (if 0 ≤ x38 then (if x38 < (x36.length : Int) then ((some (([(rd_T44 x36 x38).f6, (rd_T44 x36 x38).f7] : List ByteArray) : List ByteArray)).bind fun y208 => (impl_RecOk.l2 k x0 x38 x36 x37 x38 y208 (y208.length : Int) 0)) else (none)) else (none)) else (some true)
def impl_RecOk.l2 : Nat → List (S44) → Int → List (S44) → Int → Int → List ByteArray → Int → Int → Option (Bool)
 | 0, _, _, _, _, _, _, _, _ => none
 | k + 1, x0, x5, x36, x37, x38, x47, x48, x49 => if x49 < x48 then (if 0 ≤ x49 then (if x49 < (x47.length : Int) then ((impl_RecEnd.f (rdOf ByteArray.empty x47 x49)).bind fun t212 => (if t212 = 0 then ((impl_phase.f k x0 (rdOf ByteArray.empty x47 x49)).bind fun t213 => (if t213 ≤ x5 then (some false) else (impl_RecOk.l2 k x0 x5 x36 x37 x38 x47 x48 (wrap64 (x49 + 1))))) else (impl_RecOk.l2 k x0 x5 x36 x37 x38 x47 x48 (wrap64 (x49 + 1))))) else (none)) else (none)) else (impl_RecOk.l1 k x0 x36 x37 (wrap64 (x38 + 1)))
end
def impl_RecOk.f (k : Nat) (l0 : List (S44)) : Option (Bool) := if (l0.length : Int) < 1 then (impl_RecOk.j0 k l0 true) else (impl_RecOk.j0 k l0 (decide ((l0.length : Int) > 12)))
theorem impl_RecOk.mono_l : ∀ k, (∀ y0 y1, LeO (impl_RecOk.j0 k y0 y1) (impl_RecOk.j0 (k + 1) y0 y1)) ∧ (∀ y0 y1 y2 y3, LeO (impl_RecOk.l0 k y0 y1 y2 y3) (impl_RecOk.l0 (k + 1) y0 y1 y2 y3)) ∧ (∀ y0 y1 y2 y3, LeO (impl_RecOk.l1 k y0 y1 y2 y3) (impl_RecOk.l1 (k + 1) y0 y1 y2 y3)) ∧ (∀ y0 y1 y2 y3 y4 y5 y6 y7, LeO (impl_RecOk.l2 k y0 y1 y2 y3 y4 y5 y6 y7) (impl_RecOk.l2 (k + 1) y0 y1 y2 y3 y4 y5 y6 y7))
 | 0 => ⟨fun _ _ r h => by simp [impl_RecOk.j0] at h, fun _ _ _ _ r h => by simp [impl_RecOk.l0] at h, fun _ _ _ _ r h => by simp [impl_RecOk.l1] at h, fun _ _ _ _ _ _ _ _ r h => by simp [impl_RecOk.l2] at h⟩
 | k + 1 => by
  obtain ⟨ih0, ih1, ih2, ih3⟩ := impl_RecOk.mono_l k
  refine ⟨?_, ?_, ?_, ?_⟩
  ·intro y0 y1
   unfold impl_RecOk.j0
   repeat' first
   | (with_reducible exact ih0 _ _)
   | (with_reducible exact ih1 _ _ _ _)
   | (with_reducible exact ih2 _ _ _ _)
   | (with_reducible exact ih3 _ _ _ _ _ _ _ _)
   | (with_reducible exact impl_RecPhaseOk.mono _ _ _ _ _ _ _ _ _)
   | (with_reducible exact impl_phase.mono _ _ _)
   | (with_reducible exact LeO.refl _)
   | (with_reducible exact LeO.none _)
   | (with_reducible refine LeO.ite ?_ ?_)
   | (with_reducible refine LeO.bind ?_ (fun _ => ?_))
   | exact ih0 _ _
   | exact ih1 _ _ _ _
   | exact ih2 _ _ _ _
   | exact ih3 _ _ _ _ _ _ _ _
   | exact impl_RecPhaseOk.mono _ _ _ _ _ _ _ _ _
   | exact impl_phase.mono _ _ _
   | exact LeO.none _
   | refine LeO.ite ?_ ?_
   | refine LeO.bind ?_ (fun _ => ?_)
  ·intro y0 y1 y2 y3
   unfold impl_RecOk.l0
   repeat' first
   | (with_reducible exact ih0 _ _)
   | (with_reducible exact ih1 _ _ _ _)
   | (with_reducible exact ih2 _ _ _ _)
   | (with_reducible exact ih3 _ _ _ _ _ _ _ _)
   | (with_reducible exact impl_RecPhaseOk.mono _ _ _ _ _ _ _ _ _)
   | (with_reducible exact impl_phase.mono _ _ _)
   | (with_reducible exact LeO.refl _)
   | (with_reducible exact LeO.none _)
   | (with_reducible refine LeO.ite ?_ ?_)
   | (with_reducible refine LeO.bind ?_ (fun _ => ?_))
   | exact ih0 _ _
   | exact ih1 _ _ _ _
   | exact ih2 _ _ _ _
   | exact ih3 _ _ _ _ _ _ _ _
   | exact impl_RecPhaseOk.mono _ _ _ _ _ _ _ _ _
   | exact impl_phase.mono _ _ _
   | exact LeO.none _
   | refine LeO.ite ?_ ?_
   | refine LeO.bind ?_ (fun _ => ?_)
  ·intro y0 y1 y2 y3
   unfold impl_RecOk.l1
   repeat' first
   | (with_reducible exact ih0 _ _)
   | (with_reducible exact ih1 _ _ _ _)
   | (with_reducible exact ih2 _ _ _ _)
   | (with_reducible exact ih3 _ _ _ _ _ _ _ _)
   | (with_reducible exact impl_RecPhaseOk.mono _ _ _ _ _ _ _ _ _)
   | (with_reducible exact impl_phase.mono _ _ _)
   | (with_reducible exact LeO.refl _)
   | (with_reducible exact LeO.none _)
   | (with_reducible refine LeO.ite ?_ ?_)
   | (with_reducible refine LeO.bind ?_ (fun _ => ?_))
   | exact ih0 _ _
   | exact ih1 _ _ _ _
   | exact ih2 _ _ _ _
   | exact ih3 _ _ _ _ _ _ _ _
   | exact impl_RecPhaseOk.mono _ _ _ _ _ _ _ _ _
   | exact impl_phase.mono _ _ _
   | exact LeO.none _
   | refine LeO.ite ?_ ?_
   | refine LeO.bind ?_ (fun _ => ?_)
  ·intro y0 y1 y2 y3 y4 y5 y6 y7
   unfold impl_RecOk.l2
   repeat' first
   | (with_reducible exact ih0 _ _)
   | (with_reducible exact ih1 _ _ _ _)
   | (with_reducible exact ih2 _ _ _ _)
   | (with_reducible exact ih3 _ _ _ _ _ _ _ _)
   | (with_reducible exact impl_RecPhaseOk.mono _ _ _ _ _ _ _ _ _)
   | (with_reducible exact impl_phase.mono _ _ _)
   | (with_reducible exact LeO.refl _)
   | (with_reducible exact LeO.none _)
   | (with_reducible refine LeO.ite ?_ ?_)
   | (with_reducible refine LeO.bind ?_ (fun _ => ?_))
   | exact ih0 _ _
   | exact ih1 _ _ _ _
   | exact ih2 _ _ _ _
   | exact ih3 _ _ _ _ _ _ _ _
   | exact impl_RecPhaseOk.mono _ _ _ _ _ _ _ _ _
   | exact impl_phase.mono _ _ _
   | exact LeO.none _
   | refine LeO.ite ?_ ?_
   | refine LeO.bind ?_ (fun _ => ?_)
theorem impl_RecOk.mono : ∀ a0 k, LeO (impl_RecOk.f k a0) (impl_RecOk.f (k + 1) a0) := by
 intro a0 k
 obtain ⟨ih0, ih1, ih2, ih3⟩ := impl_RecOk.mono_l k
 unfold impl_RecOk.f
 repeat' first
   | (with_reducible exact ih0 _ _)
   | (with_reducible exact ih1 _ _ _ _)
   | (with_reducible exact ih2 _ _ _ _)
   | (with_reducible exact ih3 _ _ _ _ _ _ _ _)
   | (with_reducible exact impl_RecPhaseOk.mono _ _ _ _ _ _ _ _ _)
   | (with_reducible exact impl_phase.mono _ _ _)
   | (with_reducible exact LeO.refl _)
   | (with_reducible exact LeO.none _)
   | (with_reducible refine LeO.ite ?_ ?_)
   | (with_reducible refine LeO.bind ?_ (fun _ => ?_))
   | exact ih0 _ _
   | exact ih1 _ _ _ _
   | exact ih2 _ _ _ _
   | exact ih3 _ _ _ _ _ _ _ _
   | exact impl_RecPhaseOk.mono _ _ _ _ _ _ _ _ _
   | exact impl_phase.mono _ _ _
   | exact LeO.none _
   | refine LeO.ite ?_ ?_
   | refine LeO.bind ?_ (fun _ => ?_)
set_option maxHeartbeats 8000000 in
set_option maxRecDepth 100000 in
theorem impl_RecOk.calls (k : Nat) (A0 : Option Addr) (c0 : Nat) (l0 : List (S44)) (r : Bool) (w : World) (hr0 : Kd.C k44 w A0 l0.length l0) (hc0 : l0.length ≤ c0) (h : impl_RecOk.f k l0 = some r) :
  Calls Try.prog 35 #[.slice A0 l0.length c0] w fun e w' => e = .returned (.bool r) ∧ Below w.heap.size w w' := by
 have hu44 := Try.underlying44
 have HR0 := Aside0.mk hr0
 have HC0 := Aside0.mk hc0
 clear hr0 hc0
 have HB := Aside0.mk (Below.refl w.heap.size w)
 have H : (if (l0.length : Int) < 1 then (impl_RecOk.j0 k l0 true) else (impl_RecOk.j0 k l0 (decide ((l0.length : Int) > 12)))) = some r := h
 clear h
 have HC2 := Aside0.mk H
 clear H
 go_enter Try.func35, Try.ntmps35
 go_upto_region 1 with (fail)
 go_cut [16] (fun v16 wc => ∃ (kq : Nat) (x16_1 : Bool), v16 = .bool x16_1 ∧ Aside0 (impl_RecOk.j0 kq l0 x16_1 = some r) ∧ Aside0 (kq ≤ k) ∧ Aside0 (Below w.heap.size w wc))
 case first =>
  have H := HC2.out
  clear HC2
  by_cases c3 : (l0.length : Int) < 1
  ·rw [if_pos c3] at H
   have c3b0 : decide ((l0.length : Int) < 1) = true := decide_eq_true c3
   have c3b1 : decide (l0.length < 1) = true := decide_eq_true (by omega)
   clear c3
   (first | rw [c3b0] | (simp only [i64_w, i32_w]; rw [c3b0]) | skip)
   have H' := Aside0.mk H
   clear H
   go_wp2
   go_meet
   case rel => exact ⟨_, (true), m11_, H', ⟨m42_⟩, ⟨m0_⟩⟩
  ·rw [if_neg c3] at H
   have c3b0 : decide ((l0.length : Int) < 1) = false := decide_eq_false c3
   have c3b1 : decide (l0.length < 1) = false := decide_eq_false (by omega)
   clear c3
   (first | rw [c3b0] | (simp only [i64_w, i32_w]; rw [c3b0]) | skip)
   have H' := Aside0.mk H
   clear H
   go_wp2
   go_meet
   case rel => exact ⟨_, (decide ((l0.length : Int) > 12)), m11_, H', ⟨m42_⟩, ⟨m0_⟩⟩
 case rest =>
  clear HC2
  try clear p2
  try clear c3
  try clear c3b0
  try clear c3b1
  obtain ⟨kq, x16_1, rfl, HA, HJ1, HB⟩ := hcut
  cases kq with
  | zero => exact absurd HA.out (by simp [impl_RecOk.j0])
  | succ kj1 =>
   have H := HA.out
   clear HA
   simp only [impl_RecOk.j0] at H
   by_cases c4 : x16_1 = true
   ·subst c4
    have H1 : (some false) = some r := by rw [if_pos rfl] at H; exact H
    clear H
    have H := H1
    clear H1
    obtain rfl := Option.some.inj H
    go_wp2
    go_ret
    exact ⟨m7_, m0_⟩
   ·replace c4 := Bool.eq_false_iff.mpr c4
    subst c4
    have H1 : (impl_RecOk.l0 kj1 l0 l0 (l0.length : Int) 0) = some r := by rw [if_neg (show ¬ (false = true) by decide)] at H; exact H
    clear H
    have H := H1
    clear H1
    have H' := Aside0.mk H
    clear H
    go_wp2
    go_loopg [19] kj1 (fun kq v19 w' => ∃ (x19_2 : Int), v19 = .int .i64 x19_2 ∧ Aside0 (impl_RecOk.l0 kq l0 l0 (l0.length : Int) x19_2 = some r) ∧ Aside0 (kq ≤ kj1) ∧ Aside0 (Below w.heap.size w w'))
    case atStart => exact ⟨(0), m11_, H', ⟨Nat.le_refl _⟩, ⟨m0_⟩⟩
    case round =>
     clear H'
     try clear p2
     try clear c3
     try clear c3b0
     try clear c3b1
     try clear c4
     try clear p2
     obtain ⟨x19_2, rfl, HA, HK2, HB⟩ := hrel
     cases gk with
     | zero => exact absurd HA.out (by simp [impl_RecOk.l0])
     | succ k2 =>
      have H := HA.out
      clear HA
      simp only [impl_RecOk.l0] at H
      by_cases c5 : x19_2 < (l0.length : Int)
      ·rw [if_pos c5] at H
       have c5b0 : decide (x19_2 < (l0.length : Int)) = true := decide_eq_true c5
       clear c5
       by_cases c6 : 0 ≤ x19_2
       ·rw [if_pos c6] at H
        have c6b0 : decide (0 ≤ x19_2) = true := decide_eq_true c6
        clear c6
        by_cases c7 : x19_2 < (l0.length : Int)
        ·rw [if_pos c7] at H
         have c7b0 : decide (x19_2 < (l0.length : Int)) = true := decide_eq_true c7
         clear c7
         replace H := Option.bind_eq_some_iff.mp H
         obtain ⟨t204, A80, H⟩ := H
         replace H : (if t204 = true then ((impl_phase.f k2 l0 ((rd_T44 l0 x19_2).f0)).bind fun t205 => (if t205 = x19_2 then (impl_RecOk.l0 k2 l0 l0 (l0.length : Int) (wrap64 (x19_2 + 1))) else (some false))) else (some false)) = some r := H
         have A8 := Aside0.mk A80
         clear A80
         by_cases c9 : t204 = true
         ·subst c9
          have H1 : ((impl_phase.f k2 l0 ((rd_T44 l0 x19_2).f0)).bind fun t205 => (if t205 = x19_2 then (impl_RecOk.l0 k2 l0 l0 (l0.length : Int) (wrap64 (x19_2 + 1))) else (some false))) = some r := by rw [if_pos rfl] at H; exact H
          clear H
          have H := H1
          clear H1
          replace H := Option.bind_eq_some_iff.mp H
          obtain ⟨t205, A100, H⟩ := H
          replace H : (if t205 = x19_2 then (impl_RecOk.l0 k2 l0 l0 (l0.length : Int) (wrap64 (x19_2 + 1))) else (some false)) = some r := H
          have A10 := Aside0.mk A100
          clear A100
          by_cases c11 : t205 = x19_2
          ·rw [if_pos c11] at H
           have c11b0 : (t205 == x19_2) = true := beq_iff_eq.mpr c11
           have c11b1 : (t205 != x19_2) = false := bne_eq_false_iff_eq.mpr c11
           clear c11
           have H' := Aside0.mk H
           clear H
           have p202 : 0 ≤ (x19_2 : Int) := of_decide_eq_true m8_
           have q202 : x19_2 < (l0.length : Int) := of_decide_eq_true m8_
           obtain ⟨ad202, e202, hx202_0, hx202_1, hx202_2, hx202_3, hx202_4, hx202_5, hx202_6, hx202_7⟩ := at_T44 HR0.out x19_2 p202 q202
           cases e202
           replace hx202_0 := (HB.out.cell (World.block_lt_of_cell? w _ hx202_0)).trans hx202_0
           replace hx202_1 := (HB.out.cell (World.block_lt_of_cell? w _ hx202_1)).trans hx202_1
           replace hx202_2 := (HB.out.cell (World.block_lt_of_cell? w _ hx202_2)).trans hx202_2
           replace hx202_3 := (HB.out.cell (World.block_lt_of_cell? w _ hx202_3)).trans hx202_3
           replace hx202_4 := (HB.out.cell (World.block_lt_of_cell? w _ hx202_4)).trans hx202_4
           replace hx202_5 := (HB.out.cell (World.block_lt_of_cell? w _ hx202_5)).trans hx202_5
           replace hx202_6 := (HB.out.cell (World.block_lt_of_cell? w _ hx202_6)).trans hx202_6
           replace hx202_7 := (HB.out.cell (World.block_lt_of_cell? w _ hx202_7)).trans hx202_7
           replace p202 := eq_true p202
           replace q202 := eq_true q202
           go_wp2_with (first | ((with_reducible refine gate_dst (N := 4) rfl ?_); (try (refine gate_guard (by rfl) ?_; dsimp only)); refine box_event ?hg (N := 4) ?hd (cs := #[.string (⟨#[]⟩ : ByteArray), .int .i64 0, .string (⟨#[]⟩ : ByteArray), .string (⟨#[]⟩ : ByteArray), .int .i64 0, .int .i64 0, .string (⟨#[]⟩ : ByteArray), .string (⟨#[]⟩ : ByteArray)]) (t := 44) ?hr ?_; (case hd => rfl); (case hg => rfl); (case hr => first | (go_simp; done) | (go_simp; rfl)); intro gb203 hg w12 hbox hb; have n0_ := Aside0.mk (below_step m0_ hb); have n1_ := Aside0.mk (hbox); have n2_ := Aside0.mk ((by rw [hg]; exact (below_size m0_) : w.heap.size ≤ gb203)); have n3_ := Aside0.mk ((by rw [hg]; exact (below_size m0_) : w.heap.size ≤ gb203)); clear HB; have HB := n0_; have BK203 := n1_; have GW203 := n2_; have GE203 := n3_; clear n0_ n1_ n2_ n3_; clear hb hbox hg; obtain ⟨hcz13_0, hcz13_1, hcz13_2, hcz13_3, hcz13_4, hcz13_5, hcz13_6, hcz13_7⟩ := cz8_ BK203.out; obtain ⟨hfz13_0, hfz13_1, hfz13_2, hfz13_3, hfz13_4, hfz13_5, hfz13_6, hfz13_7⟩ := fz8_ BK203.out) | ((with_reducible refine gate_callee (f := 54) rfl ?_); refine goesL_ (some 25) rfl rfl Try.func54 (by kernel_rfl) rfl #[.agg #[.string ((rd_T44 l0 x19_2).f0), .int .i64 ((rd_T44 l0 x19_2).f1), .string ((rd_T44 l0 x19_2).f2), .string ((rd_T44 l0 x19_2).f3), .int .i64 ((rd_T44 l0 x19_2).f4), .int .i64 ((rd_T44 l0 x19_2).f5), .string ((rd_T44 l0 x19_2).f6), .string ((rd_T44 l0 x19_2).f7)]] rfl m1_ ?_; (with_reducible refine (impl_RecPhaseOk.calls k2 ((rd_T44 l0 x19_2).f0) ((rd_T44 l0 x19_2).f1) ((rd_T44 l0 x19_2).f2) ((rd_T44 l0 x19_2).f3) ((rd_T44 l0 x19_2).f4) ((rd_T44 l0 x19_2).f5) ((rd_T44 l0 x19_2).f6) ((rd_T44 l0 x19_2).f7) true _ A8.out).mono ?_); rintro e w14 ⟨rfl, hb⟩; refine ⟨_, rfl, ?_⟩; have n0_ := Aside0.mk (blk_below (g := gb203) (o := .cells #[.string ((rd_T44 l0 x19_2).f0), .int .i64 ((rd_T44 l0 x19_2).f1), .string ((rd_T44 l0 x19_2).f2), .string ((rd_T44 l0 x19_2).f3), .int .i64 ((rd_T44 l0 x19_2).f4), .int .i64 ((rd_T44 l0 x19_2).f5), .string ((rd_T44 l0 x19_2).f6), .string ((rd_T44 l0 x19_2).f7)] 44 (0, 0)) m6_ hb); have n1_ := Aside0.mk (below_step m35_ hb); clear BK203; clear HB; have BK203 := n0_; have HB := n1_; clear n0_ n1_; (try clear hb); (try clear hb2); (try clear hk); (try clear hi); obtain ⟨hcz15_0, hcz15_1, hcz15_2, hcz15_3, hcz15_4, hcz15_5, hcz15_6, hcz15_7⟩ := cz8_ BK203.out; obtain ⟨hfz15_0, hfz15_1, hfz15_2, hfz15_3, hfz15_4, hfz15_5, hfz15_6, hfz15_7⟩ := fz8_ BK203.out) | (go_at_call 36; (with_reducible refine (impl_phase.calls k2 _ _ l0 ((rd_T44 l0 x19_2).f0) t205 _ ?side1 ?side2 A10.out).mono ?_); (case side1 => exact m12_); (case side2 => exact HC0.out); rintro e w16 ⟨rfl, hb⟩; have n0_ := Aside0.mk (blk_below (g := gb203) (o := .cells #[.string ((rd_T44 l0 x19_2).f0), .int .i64 ((rd_T44 l0 x19_2).f1), .string ((rd_T44 l0 x19_2).f2), .string ((rd_T44 l0 x19_2).f3), .int .i64 ((rd_T44 l0 x19_2).f4), .int .i64 ((rd_T44 l0 x19_2).f5), .string ((rd_T44 l0 x19_2).f6), .string ((rd_T44 l0 x19_2).f7)] 44 (0, 0)) (by (with_reducible repeat (first | refine blk_drewN ?_ _ | refine blk_drew ?_ | refine blk_alloc ?_ _)); exact BK203.out) hb); have n1_ := Aside0.mk (below_step m35_ hb); clear BK203; clear HB; have BK203 := n0_; have HB := n1_; clear n0_ n1_; (try clear hb); (try clear hb2); (try clear hk); (try clear hi)))
           go_roundg k2
           case measure => have := HJ1.out; have := HK2.out; omega
           case rel => exact ⟨(wrap64 (x19_2 + 1)), m11_, H', ⟨(by have := HJ1.out; have := HK2.out; omega)⟩, ⟨m35_⟩⟩
          ·rw [if_neg c11] at H
           have c11b0 : (t205 == x19_2) = false := beq_eq_false_iff_ne.mpr c11
           have c11b1 : (t205 != x19_2) = true := bne_iff_ne.mpr c11
           obtain rfl := Option.some.inj H
           have p202 : 0 ≤ (x19_2 : Int) := of_decide_eq_true m8_
           have q202 : x19_2 < (l0.length : Int) := of_decide_eq_true m8_
           obtain ⟨ad202, e202, hx202_0, hx202_1, hx202_2, hx202_3, hx202_4, hx202_5, hx202_6, hx202_7⟩ := at_T44 HR0.out x19_2 p202 q202
           cases e202
           replace hx202_0 := (HB.out.cell (World.block_lt_of_cell? w _ hx202_0)).trans hx202_0
           replace hx202_1 := (HB.out.cell (World.block_lt_of_cell? w _ hx202_1)).trans hx202_1
           replace hx202_2 := (HB.out.cell (World.block_lt_of_cell? w _ hx202_2)).trans hx202_2
           replace hx202_3 := (HB.out.cell (World.block_lt_of_cell? w _ hx202_3)).trans hx202_3
           replace hx202_4 := (HB.out.cell (World.block_lt_of_cell? w _ hx202_4)).trans hx202_4
           replace hx202_5 := (HB.out.cell (World.block_lt_of_cell? w _ hx202_5)).trans hx202_5
           replace hx202_6 := (HB.out.cell (World.block_lt_of_cell? w _ hx202_6)).trans hx202_6
           replace hx202_7 := (HB.out.cell (World.block_lt_of_cell? w _ hx202_7)).trans hx202_7
           replace p202 := eq_true p202
           replace q202 := eq_true q202
           go_wp2_with (first | ((with_reducible refine gate_dst (N := 4) rfl ?_); (try (refine gate_guard (by rfl) ?_; dsimp only)); refine box_event ?hg (N := 4) ?hd (cs := #[.string (⟨#[]⟩ : ByteArray), .int .i64 0, .string (⟨#[]⟩ : ByteArray), .string (⟨#[]⟩ : ByteArray), .int .i64 0, .int .i64 0, .string (⟨#[]⟩ : ByteArray), .string (⟨#[]⟩ : ByteArray)]) (t := 44) ?hr ?_; (case hd => rfl); (case hg => rfl); (case hr => first | (go_simp; done) | (go_simp; rfl)); intro gb203 hg w17 hbox hb; have n0_ := Aside0.mk (below_step m0_ hb); have n1_ := Aside0.mk (hbox); have n2_ := Aside0.mk ((by rw [hg]; exact (below_size m0_) : w.heap.size ≤ gb203)); have n3_ := Aside0.mk ((by rw [hg]; exact (below_size m0_) : w.heap.size ≤ gb203)); clear HB; have HB := n0_; have BK203 := n1_; have GW203 := n2_; have GE203 := n3_; clear n0_ n1_ n2_ n3_; clear hb hbox hg; obtain ⟨hcz18_0, hcz18_1, hcz18_2, hcz18_3, hcz18_4, hcz18_5, hcz18_6, hcz18_7⟩ := cz8_ BK203.out; obtain ⟨hfz18_0, hfz18_1, hfz18_2, hfz18_3, hfz18_4, hfz18_5, hfz18_6, hfz18_7⟩ := fz8_ BK203.out) | ((with_reducible refine gate_callee (f := 54) rfl ?_); refine goesL_ (some 25) rfl rfl Try.func54 (by kernel_rfl) rfl #[.agg #[.string ((rd_T44 l0 x19_2).f0), .int .i64 ((rd_T44 l0 x19_2).f1), .string ((rd_T44 l0 x19_2).f2), .string ((rd_T44 l0 x19_2).f3), .int .i64 ((rd_T44 l0 x19_2).f4), .int .i64 ((rd_T44 l0 x19_2).f5), .string ((rd_T44 l0 x19_2).f6), .string ((rd_T44 l0 x19_2).f7)]] rfl m1_ ?_; (with_reducible refine (impl_RecPhaseOk.calls k2 ((rd_T44 l0 x19_2).f0) ((rd_T44 l0 x19_2).f1) ((rd_T44 l0 x19_2).f2) ((rd_T44 l0 x19_2).f3) ((rd_T44 l0 x19_2).f4) ((rd_T44 l0 x19_2).f5) ((rd_T44 l0 x19_2).f6) ((rd_T44 l0 x19_2).f7) true _ A8.out).mono ?_); rintro e w19 ⟨rfl, hb⟩; refine ⟨_, rfl, ?_⟩; have n0_ := Aside0.mk (blk_below (g := gb203) (o := .cells #[.string ((rd_T44 l0 x19_2).f0), .int .i64 ((rd_T44 l0 x19_2).f1), .string ((rd_T44 l0 x19_2).f2), .string ((rd_T44 l0 x19_2).f3), .int .i64 ((rd_T44 l0 x19_2).f4), .int .i64 ((rd_T44 l0 x19_2).f5), .string ((rd_T44 l0 x19_2).f6), .string ((rd_T44 l0 x19_2).f7)] 44 (0, 0)) m6_ hb); have n1_ := Aside0.mk (below_step m35_ hb); clear BK203; clear HB; have BK203 := n0_; have HB := n1_; clear n0_ n1_; (try clear hb); (try clear hb2); (try clear hk); (try clear hi); obtain ⟨hcz20_0, hcz20_1, hcz20_2, hcz20_3, hcz20_4, hcz20_5, hcz20_6, hcz20_7⟩ := cz8_ BK203.out; obtain ⟨hfz20_0, hfz20_1, hfz20_2, hfz20_3, hfz20_4, hfz20_5, hfz20_6, hfz20_7⟩ := fz8_ BK203.out) | (go_at_call 36; (with_reducible refine (impl_phase.calls k2 _ _ l0 ((rd_T44 l0 x19_2).f0) t205 _ ?side1 ?side2 A10.out).mono ?_); (case side1 => exact m12_); (case side2 => exact HC0.out); rintro e w21 ⟨rfl, hb⟩; have n0_ := Aside0.mk (blk_below (g := gb203) (o := .cells #[.string ((rd_T44 l0 x19_2).f0), .int .i64 ((rd_T44 l0 x19_2).f1), .string ((rd_T44 l0 x19_2).f2), .string ((rd_T44 l0 x19_2).f3), .int .i64 ((rd_T44 l0 x19_2).f4), .int .i64 ((rd_T44 l0 x19_2).f5), .string ((rd_T44 l0 x19_2).f6), .string ((rd_T44 l0 x19_2).f7)] 44 (0, 0)) (by (with_reducible repeat (first | refine blk_drewN ?_ _ | refine blk_drew ?_ | refine blk_alloc ?_ _)); exact BK203.out) hb); have n1_ := Aside0.mk (below_step m35_ hb); clear BK203; clear HB; have BK203 := n0_; have HB := n1_; clear n0_ n1_; (try clear hb); (try clear hb2); (try clear hk); (try clear hi)))
           go_ret
           exact ⟨m7_, m35_⟩
         ·replace c9 := Bool.eq_false_iff.mpr c9
          subst c9
          have H1 : (some false) = some r := by rw [if_neg (show ¬ (false = true) by decide)] at H; exact H
          clear H
          have H := H1
          clear H1
          obtain rfl := Option.some.inj H
          have p202 : 0 ≤ (x19_2 : Int) := of_decide_eq_true m8_
          have q202 : x19_2 < (l0.length : Int) := of_decide_eq_true m8_
          obtain ⟨ad202, e202, hx202_0, hx202_1, hx202_2, hx202_3, hx202_4, hx202_5, hx202_6, hx202_7⟩ := at_T44 HR0.out x19_2 p202 q202
          cases e202
          replace hx202_0 := (HB.out.cell (World.block_lt_of_cell? w _ hx202_0)).trans hx202_0
          replace hx202_1 := (HB.out.cell (World.block_lt_of_cell? w _ hx202_1)).trans hx202_1
          replace hx202_2 := (HB.out.cell (World.block_lt_of_cell? w _ hx202_2)).trans hx202_2
          replace hx202_3 := (HB.out.cell (World.block_lt_of_cell? w _ hx202_3)).trans hx202_3
          replace hx202_4 := (HB.out.cell (World.block_lt_of_cell? w _ hx202_4)).trans hx202_4
          replace hx202_5 := (HB.out.cell (World.block_lt_of_cell? w _ hx202_5)).trans hx202_5
          replace hx202_6 := (HB.out.cell (World.block_lt_of_cell? w _ hx202_6)).trans hx202_6
          replace hx202_7 := (HB.out.cell (World.block_lt_of_cell? w _ hx202_7)).trans hx202_7
          replace p202 := eq_true p202
          replace q202 := eq_true q202
          go_wp2_with (first | ((with_reducible refine gate_dst (N := 4) rfl ?_); (try (refine gate_guard (by rfl) ?_; dsimp only)); refine box_event ?hg (N := 4) ?hd (cs := #[.string (⟨#[]⟩ : ByteArray), .int .i64 0, .string (⟨#[]⟩ : ByteArray), .string (⟨#[]⟩ : ByteArray), .int .i64 0, .int .i64 0, .string (⟨#[]⟩ : ByteArray), .string (⟨#[]⟩ : ByteArray)]) (t := 44) ?hr ?_; (case hd => rfl); (case hg => rfl); (case hr => first | (go_simp; done) | (go_simp; rfl)); intro gb203 hg w22 hbox hb; have n0_ := Aside0.mk (below_step m0_ hb); have n1_ := Aside0.mk (hbox); have n2_ := Aside0.mk ((by rw [hg]; exact (below_size m0_) : w.heap.size ≤ gb203)); have n3_ := Aside0.mk ((by rw [hg]; exact (below_size m0_) : w.heap.size ≤ gb203)); clear HB; have HB := n0_; have BK203 := n1_; have GW203 := n2_; have GE203 := n3_; clear n0_ n1_ n2_ n3_; clear hb hbox hg; obtain ⟨hcz23_0, hcz23_1, hcz23_2, hcz23_3, hcz23_4, hcz23_5, hcz23_6, hcz23_7⟩ := cz8_ BK203.out; obtain ⟨hfz23_0, hfz23_1, hfz23_2, hfz23_3, hfz23_4, hfz23_5, hfz23_6, hfz23_7⟩ := fz8_ BK203.out) | ((with_reducible refine gate_callee (f := 54) rfl ?_); refine goesL_ (some 25) rfl rfl Try.func54 (by kernel_rfl) rfl #[.agg #[.string ((rd_T44 l0 x19_2).f0), .int .i64 ((rd_T44 l0 x19_2).f1), .string ((rd_T44 l0 x19_2).f2), .string ((rd_T44 l0 x19_2).f3), .int .i64 ((rd_T44 l0 x19_2).f4), .int .i64 ((rd_T44 l0 x19_2).f5), .string ((rd_T44 l0 x19_2).f6), .string ((rd_T44 l0 x19_2).f7)]] rfl m1_ ?_; (with_reducible refine (impl_RecPhaseOk.calls k2 ((rd_T44 l0 x19_2).f0) ((rd_T44 l0 x19_2).f1) ((rd_T44 l0 x19_2).f2) ((rd_T44 l0 x19_2).f3) ((rd_T44 l0 x19_2).f4) ((rd_T44 l0 x19_2).f5) ((rd_T44 l0 x19_2).f6) ((rd_T44 l0 x19_2).f7) false _ A8.out).mono ?_); rintro e w24 ⟨rfl, hb⟩; refine ⟨_, rfl, ?_⟩; have n0_ := Aside0.mk (blk_below (g := gb203) (o := .cells #[.string ((rd_T44 l0 x19_2).f0), .int .i64 ((rd_T44 l0 x19_2).f1), .string ((rd_T44 l0 x19_2).f2), .string ((rd_T44 l0 x19_2).f3), .int .i64 ((rd_T44 l0 x19_2).f4), .int .i64 ((rd_T44 l0 x19_2).f5), .string ((rd_T44 l0 x19_2).f6), .string ((rd_T44 l0 x19_2).f7)] 44 (0, 0)) m6_ hb); have n1_ := Aside0.mk (below_step m35_ hb); clear BK203; clear HB; have BK203 := n0_; have HB := n1_; clear n0_ n1_; (try clear hb); (try clear hb2); (try clear hk); (try clear hi)))
          go_ret
          exact ⟨m7_, m35_⟩
        ·rw [if_neg c7] at H
         exact absurd H (by simp)
       ·rw [if_neg c6] at H
        exact absurd H (by simp)
      ·rw [if_neg c5] at H
       have c5b0 : decide (x19_2 < (l0.length : Int)) = false := decide_eq_false c5
       clear c5
       have H' := Aside0.mk H
       clear H
       go_wp2
       go_loopg [38] k2 (fun kq v38 w' => ∃ (x38_3 : Int), v38 = .int .i64 x38_3 ∧ Aside0 (impl_RecOk.l1 kq l0 l0 (l0.length : Int) x38_3 = some r) ∧ Aside0 (kq ≤ k2) ∧ Aside0 (Below w.heap.size w w'))
       case atStart => exact ⟨(0), m11_, H', ⟨Nat.le_refl _⟩, ⟨m0_⟩⟩
       case round =>
        clear H'
        try clear c1
        try clear p2
        try clear q2
        try clear hx2
        try clear c3
        try clear c3b0
        try clear c3b1
        try clear c4
        try clear c5
        try clear c5b0
        try clear c6
        try clear c6b0
        try clear p6
        try clear c7
        try clear c7b0
        try clear c9
        try clear c11
        try clear c11b0
        try clear c11b1
        try clear p20
        try clear q20
        try clear hx20
        try clear hcz13_0
        try clear hcz13_1
        try clear hcz13_2
        try clear hcz13_3
        try clear hcz13_4
        try clear hcz13_5
        try clear hcz13_6
        try clear hcz13_7
        try clear hcz15_0
        try clear hcz15_1
        try clear hcz15_2
        try clear hcz15_3
        try clear hcz15_4
        try clear hcz15_5
        try clear hcz15_6
        try clear hcz15_7
        try clear hcz18_0
        try clear hcz18_1
        try clear hcz18_2
        try clear hcz18_3
        try clear hcz18_4
        try clear hcz18_5
        try clear hcz18_6
        try clear hcz18_7
        try clear hcz20_0
        try clear hcz20_1
        try clear hcz20_2
        try clear hcz20_3
        try clear hcz20_4
        try clear hcz20_5
        try clear hcz20_6
        try clear hcz20_7
        try clear hcz23_0
        try clear hcz23_1
        try clear hcz23_2
        try clear hcz23_3
        try clear hcz23_4
        try clear hcz23_5
        try clear hcz23_6
        try clear hcz23_7
        try clear hfz13_0
        try clear hfz13_1
        try clear hfz13_2
        try clear hfz13_3
        try clear hfz13_4
        try clear hfz13_5
        try clear hfz13_6
        try clear hfz13_7
        try clear hfz15_0
        try clear hfz15_1
        try clear hfz15_2
        try clear hfz15_3
        try clear hfz15_4
        try clear hfz15_5
        try clear hfz15_6
        try clear hfz15_7
        try clear hfz18_0
        try clear hfz18_1
        try clear hfz18_2
        try clear hfz18_3
        try clear hfz18_4
        try clear hfz18_5
        try clear hfz18_6
        try clear hfz18_7
        try clear hfz20_0
        try clear hfz20_1
        try clear hfz20_2
        try clear hfz20_3
        try clear hfz20_4
        try clear hfz20_5
        try clear hfz20_6
        try clear hfz20_7
        try clear hfz23_0
        try clear hfz23_1
        try clear hfz23_2
        try clear hfz23_3
        try clear hfz23_4
        try clear hfz23_5
        try clear hfz23_6
        try clear hfz23_7
        try clear hx202_0
        try clear hx202_1
        try clear hx202_2
        try clear hx202_3
        try clear hx202_4
        try clear hx202_5
        try clear hx202_6
        try clear hx202_7
        try clear p2
        try clear p202
        try clear q202
        obtain ⟨x38_3, rfl, HA, HK3, HB⟩ := hrel
        cases gk with
        | zero => exact absurd HA.out (by simp [impl_RecOk.l1])
        | succ k3 =>
         have H := HA.out
         clear HA
         simp only [impl_RecOk.l1] at H
         by_cases c25 : x38_3 < (l0.length : Int)
         ·rw [if_pos c25] at H
          have c25b0 : decide (x38_3 < (l0.length : Int)) = true := decide_eq_true c25
          clear c25
          by_cases c26 : 0 ≤ x38_3
          ·rw [if_pos c26] at H
           have c26b0 : decide (0 ≤ x38_3) = true := decide_eq_true c26
           clear c26
           by_cases c27 : x38_3 < (l0.length : Int)
           ·rw [if_pos c27] at H
            have c27b0 : decide (x38_3 < (l0.length : Int)) = true := decide_eq_true c27
            clear c27
            obtain ⟨y208, hy208⟩ : ∃ y_ : List ByteArray, y_ = (([(rd_T44 l0 x38_3).f6, (rd_T44 l0 x38_3).f7] : List ByteArray)) := ⟨_, rfl⟩
            replace H : (impl_RecOk.l2 k3 l0 x38_3 l0 (l0.length : Int) x38_3 y208 (y208.length : Int) 0) = some r := by first | (rw [hy208]; with_reducible exact H) | (have H2_ := (Option.bind_some _ _).symm.trans H; rw [hy208]; with_reducible exact H2_) | (have H2_ := (Option.bind_some _ _).symm.trans H; with_reducible exact H2_) | with_reducible exact H | (rw [hy208]; exact H) | exact H
            have Ny208 := Aside0.mk hy208
            clear hy208
            have H' := Aside0.mk H
            clear H
            have p206 : 0 ≤ (x38_3 : Int) := of_decide_eq_true m8_
            have q206 : x38_3 < (l0.length : Int) := of_decide_eq_true m8_
            obtain ⟨ad206, e206, hx206_0, hx206_1, hx206_2, hx206_3, hx206_4, hx206_5, hx206_6, hx206_7⟩ := at_T44 HR0.out x38_3 p206 q206
            cases e206
            replace hx206_0 := (HB.out.cell (World.block_lt_of_cell? w _ hx206_0)).trans hx206_0
            replace hx206_1 := (HB.out.cell (World.block_lt_of_cell? w _ hx206_1)).trans hx206_1
            replace hx206_2 := (HB.out.cell (World.block_lt_of_cell? w _ hx206_2)).trans hx206_2
            replace hx206_3 := (HB.out.cell (World.block_lt_of_cell? w _ hx206_3)).trans hx206_3
            replace hx206_4 := (HB.out.cell (World.block_lt_of_cell? w _ hx206_4)).trans hx206_4
            replace hx206_5 := (HB.out.cell (World.block_lt_of_cell? w _ hx206_5)).trans hx206_5
            replace hx206_6 := (HB.out.cell (World.block_lt_of_cell? w _ hx206_6)).trans hx206_6
            replace hx206_7 := (HB.out.cell (World.block_lt_of_cell? w _ hx206_7)).trans hx206_7
            replace p206 := eq_true p206
            replace q206 := eq_true q206
            go_wp2_with (first | ((with_reducible refine gate_dst (N := 6) rfl ?_); (try (refine gate_guard (by rfl) ?_; dsimp only)); refine box_event ?hg (N := 6) ?hd (cs := #[.string (⟨#[]⟩ : ByteArray), .int .i64 0, .string (⟨#[]⟩ : ByteArray), .string (⟨#[]⟩ : ByteArray), .int .i64 0, .int .i64 0, .string (⟨#[]⟩ : ByteArray), .string (⟨#[]⟩ : ByteArray)]) (t := 44) ?hr ?_; (case hd => rfl); (case hg => rfl); (case hr => first | (go_simp; done) | (go_simp; rfl)); intro gb207 hg w28 hbox hb; have n0_ := Aside0.mk (below_step m0_ hb); have n1_ := Aside0.mk (hbox); have n2_ := Aside0.mk ((by rw [hg]; exact (below_size m0_) : w.heap.size ≤ gb207)); have n3_ := Aside0.mk ((by rw [hg]; exact (below_size m0_) : w.heap.size ≤ gb207)); clear HB; have HB := n0_; have BK207 := n1_; have GW207 := n2_; have GE207 := n3_; clear n0_ n1_ n2_ n3_; clear hb hbox hg; obtain ⟨hcz29_0, hcz29_1, hcz29_2, hcz29_3, hcz29_4, hcz29_5, hcz29_6, hcz29_7⟩ := cz8_ BK207.out; obtain ⟨hfz29_0, hfz29_1, hfz29_2, hfz29_3, hfz29_4, hfz29_5, hfz29_6, hfz29_7⟩ := fz8_ BK207.out) | ((with_reducible refine gate_dst (N := 47) rfl ?_); (try (refine gate_guard (by rfl) ?_; dsimp only)); refine Kd.R_lit Kd.string _ 9 ?hg (N := 47) ?hd (xs := ([(rd_T44 l0 x38_3).f6, (rd_T44 l0 x38_3).f7] : List ByteArray)) (inner := [.string ((rd_T44 l0 x38_3).f6), .string ((rd_T44 l0 x38_3).f7)]) (ok := fun _ => True) (okp := fun _ => True) ?hr ?hp (fun _ hk => hk) trivial (Below.refl _ _) (Nat.le_refl _) (by simp) ?_; (case hd => rfl); (case hg => rfl); (case hr => first | (go_simp; done) | (go_simp; rfl)); (case hp => exact (Reps.one (show Kd.M Kd.string _ _ _ ((rd_T44 l0 x38_3).f6) [.string ((rd_T44 l0 x38_3).f6)] from rfl) (Reps.one (show Kd.M Kd.string _ _ _ ((rd_T44 l0 x38_3).f7) [.string ((rd_T44 l0 x38_3).f7)] from rfl) (Reps.none _ _)))); intro v209 w30 ho31 hb hg_ hnew_; clear hg_ hnew_; (first | rw [← Ny208.out] at ho31 | (simp only [Int.reduceToNat] at ho31; rw [← Ny208.out] at ho31)); have n0_ := Aside0.mk (Kd.R_lower ho31 (below_size m24_)); have n1_ := Aside0.mk (blk_below (g := gb207) (o := .cells #[.string ((rd_T44 l0 x38_3).f0), .int .i64 ((rd_T44 l0 x38_3).f1), .string ((rd_T44 l0 x38_3).f2), .string ((rd_T44 l0 x38_3).f3), .int .i64 ((rd_T44 l0 x38_3).f4), .int .i64 ((rd_T44 l0 x38_3).f5), .string ((rd_T44 l0 x38_3).f6), .string ((rd_T44 l0 x38_3).f7)] 44 (0, 0)) (by (with_reducible repeat (first | refine blk_drewN ?_ _ | refine blk_drew ?_ | refine blk_alloc ?_ _)); refine blk_put (cs := #[.string ((rd_T44 l0 x38_3).f0), .int .i64 ((rd_T44 l0 x38_3).f1), .string ((rd_T44 l0 x38_3).f2), .string ((rd_T44 l0 x38_3).f3), .int .i64 ((rd_T44 l0 x38_3).f4), .int .i64 ((rd_T44 l0 x38_3).f5), .string ((rd_T44 l0 x38_3).f6), .string (⟨#[]⟩ : ByteArray)]) ?_ 7 _ rfl; (with_reducible repeat (first | refine blk_drewN ?_ _ | refine blk_drew ?_ | refine blk_alloc ?_ _)); refine blk_put (cs := #[.string ((rd_T44 l0 x38_3).f0), .int .i64 ((rd_T44 l0 x38_3).f1), .string ((rd_T44 l0 x38_3).f2), .string ((rd_T44 l0 x38_3).f3), .int .i64 ((rd_T44 l0 x38_3).f4), .int .i64 ((rd_T44 l0 x38_3).f5), .string (⟨#[]⟩ : ByteArray), .string (⟨#[]⟩ : ByteArray)]) ?_ 6 _ rfl; (with_reducible repeat (first | refine blk_drewN ?_ _ | refine blk_drew ?_ | refine blk_alloc ?_ _)); refine blk_put (cs := #[.string ((rd_T44 l0 x38_3).f0), .int .i64 ((rd_T44 l0 x38_3).f1), .string ((rd_T44 l0 x38_3).f2), .string ((rd_T44 l0 x38_3).f3), .int .i64 ((rd_T44 l0 x38_3).f4), .int .i64 0, .string (⟨#[]⟩ : ByteArray), .string (⟨#[]⟩ : ByteArray)]) ?_ 5 _ rfl; (with_reducible repeat (first | refine blk_drewN ?_ _ | refine blk_drew ?_ | refine blk_alloc ?_ _)); refine blk_put (cs := #[.string ((rd_T44 l0 x38_3).f0), .int .i64 ((rd_T44 l0 x38_3).f1), .string ((rd_T44 l0 x38_3).f2), .string ((rd_T44 l0 x38_3).f3), .int .i64 0, .int .i64 0, .string (⟨#[]⟩ : ByteArray), .string (⟨#[]⟩ : ByteArray)]) ?_ 4 _ rfl; (with_reducible repeat (first | refine blk_drewN ?_ _ | refine blk_drew ?_ | refine blk_alloc ?_ _)); refine blk_put (cs := #[.string ((rd_T44 l0 x38_3).f0), .int .i64 ((rd_T44 l0 x38_3).f1), .string ((rd_T44 l0 x38_3).f2), .string (⟨#[]⟩ : ByteArray), .int .i64 0, .int .i64 0, .string (⟨#[]⟩ : ByteArray), .string (⟨#[]⟩ : ByteArray)]) ?_ 3 _ rfl; (with_reducible repeat (first | refine blk_drewN ?_ _ | refine blk_drew ?_ | refine blk_alloc ?_ _)); refine blk_put (cs := #[.string ((rd_T44 l0 x38_3).f0), .int .i64 ((rd_T44 l0 x38_3).f1), .string (⟨#[]⟩ : ByteArray), .string (⟨#[]⟩ : ByteArray), .int .i64 0, .int .i64 0, .string (⟨#[]⟩ : ByteArray), .string (⟨#[]⟩ : ByteArray)]) ?_ 2 _ rfl; (with_reducible repeat (first | refine blk_drewN ?_ _ | refine blk_drew ?_ | refine blk_alloc ?_ _)); refine blk_put (cs := #[.string ((rd_T44 l0 x38_3).f0), .int .i64 0, .string (⟨#[]⟩ : ByteArray), .string (⟨#[]⟩ : ByteArray), .int .i64 0, .int .i64 0, .string (⟨#[]⟩ : ByteArray), .string (⟨#[]⟩ : ByteArray)]) ?_ 1 _ rfl; (with_reducible repeat (first | refine blk_drewN ?_ _ | refine blk_drew ?_ | refine blk_alloc ?_ _)); refine blk_put (cs := #[.string (⟨#[]⟩ : ByteArray), .int .i64 0, .string (⟨#[]⟩ : ByteArray), .string (⟨#[]⟩ : ByteArray), .int .i64 0, .int .i64 0, .string (⟨#[]⟩ : ByteArray), .string (⟨#[]⟩ : ByteArray)]) ?_ 0 _ rfl; (with_reducible repeat (first | refine blk_drewN ?_ _ | refine blk_drew ?_ | refine blk_alloc ?_ _)); exact BK207.out) hb); have n2_ := Aside0.mk (below_step m24_ hb); clear BK207; clear HB; have HO210 := n0_; have BK207 := n1_; have HB := n2_; clear n0_ n1_ n2_; clear hb ho31; obtain ⟨Ao32, co32, eo32⟩ := Kd.R_slice HO210.out; subst eo32))
            go_loopg [49] k3 (fun kq v49 w' => ∃ (x49_4 : Int), v49 = .int .i64 x49_4 ∧ Aside0 (impl_RecOk.l2 kq l0 x38_3 l0 (l0.length : Int) x38_3 y208 (y208.length : Int) x49_4 = some r) ∧ Aside0 (kq ≤ k3) ∧ Aside0 (Kd.R Kd.string 9 w' w.heap.size (fun _ => True) (.slice Ao32 y208.length co32) y208) ∧ Aside0 (w'.heap[gb207]? = some (.cells #[.string ((rd_T44 l0 x38_3).f0), .int .i64 ((rd_T44 l0 x38_3).f1), .string ((rd_T44 l0 x38_3).f2), .string ((rd_T44 l0 x38_3).f3), .int .i64 ((rd_T44 l0 x38_3).f4), .int .i64 ((rd_T44 l0 x38_3).f5), .string ((rd_T44 l0 x38_3).f6), .string ((rd_T44 l0 x38_3).f7)] 44 (0, 0))) ∧ Aside0 (Below w.heap.size w w'))
            case atStart => exact ⟨(0), m11_, H', ⟨Nat.le_refl _⟩, ⟨(by (with_reducible repeat (first | apply Kd.R_alloc | apply Kd.R_drewN | apply Kd.R_drew)); exact HO210.out)⟩, ⟨m51_⟩, ⟨m24_⟩⟩
            case round =>
             clear H'
             try clear c1
             try clear c2
             try clear p2
             try clear q2
             try clear hx2
             try clear c3
             try clear c3b0
             try clear c3b1
             try clear c4
             try clear c5
             try clear c5b0
             try clear c6
             try clear c6b0
             try clear p6
             try clear c7
             try clear c7b0
             try clear c9
             try clear c11
             try clear c11b0
             try clear c11b1
             try clear p20
             try clear q20
             try clear hx20
             try clear c25
             try clear c25b0
             try clear c26
             try clear c26b0
             try clear c27
             try clear c27b0
             try clear hcz13_0
             try clear hcz13_1
             try clear hcz13_2
             try clear hcz13_3
             try clear hcz13_4
             try clear hcz13_5
             try clear hcz13_6
             try clear hcz13_7
             try clear hcz15_0
             try clear hcz15_1
             try clear hcz15_2
             try clear hcz15_3
             try clear hcz15_4
             try clear hcz15_5
             try clear hcz15_6
             try clear hcz15_7
             try clear hcz18_0
             try clear hcz18_1
             try clear hcz18_2
             try clear hcz18_3
             try clear hcz18_4
             try clear hcz18_5
             try clear hcz18_6
             try clear hcz18_7
             try clear hcz20_0
             try clear hcz20_1
             try clear hcz20_2
             try clear hcz20_3
             try clear hcz20_4
             try clear hcz20_5
             try clear hcz20_6
             try clear hcz20_7
             try clear hcz23_0
             try clear hcz23_1
             try clear hcz23_2
             try clear hcz23_3
             try clear hcz23_4
             try clear hcz23_5
             try clear hcz23_6
             try clear hcz23_7
             try clear hcz29_0
             try clear hcz29_1
             try clear hcz29_2
             try clear hcz29_3
             try clear hcz29_4
             try clear hcz29_5
             try clear hcz29_6
             try clear hcz29_7
             try clear hfz13_0
             try clear hfz13_1
             try clear hfz13_2
             try clear hfz13_3
             try clear hfz13_4
             try clear hfz13_5
             try clear hfz13_6
             try clear hfz13_7
             try clear hfz15_0
             try clear hfz15_1
             try clear hfz15_2
             try clear hfz15_3
             try clear hfz15_4
             try clear hfz15_5
             try clear hfz15_6
             try clear hfz15_7
             try clear hfz18_0
             try clear hfz18_1
             try clear hfz18_2
             try clear hfz18_3
             try clear hfz18_4
             try clear hfz18_5
             try clear hfz18_6
             try clear hfz18_7
             try clear hfz20_0
             try clear hfz20_1
             try clear hfz20_2
             try clear hfz20_3
             try clear hfz20_4
             try clear hfz20_5
             try clear hfz20_6
             try clear hfz20_7
             try clear hfz23_0
             try clear hfz23_1
             try clear hfz23_2
             try clear hfz23_3
             try clear hfz23_4
             try clear hfz23_5
             try clear hfz23_6
             try clear hfz23_7
             try clear hfz29_0
             try clear hfz29_1
             try clear hfz29_2
             try clear hfz29_3
             try clear hfz29_4
             try clear hfz29_5
             try clear hfz29_6
             try clear hfz29_7
             try clear hx202_0
             try clear hx202_1
             try clear hx202_2
             try clear hx202_3
             try clear hx202_4
             try clear hx202_5
             try clear hx202_6
             try clear hx202_7
             try clear hx206_0
             try clear hx206_1
             try clear hx206_2
             try clear hx206_3
             try clear hx206_4
             try clear hx206_5
             try clear hx206_6
             try clear hx206_7
             try clear p2
             try clear p20
             try clear p202
             try clear p206
             try clear p6
             try clear q2
             try clear q20
             try clear q202
             try clear q206
             obtain ⟨x49_4, rfl, HA, HK4, HO_47, BK207, HB⟩ := hrel
             cases gk with
             | zero => exact absurd HA.out (by simp [impl_RecOk.l2])
             | succ k4 =>
              have H := HA.out
              clear HA
              simp only [impl_RecOk.l2] at H
              by_cases c33 : x49_4 < (y208.length : Int)
              ·rw [if_pos c33] at H
               have c33b0 : decide (x49_4 < (y208.length : Int)) = true := decide_eq_true c33
               clear c33
               by_cases c34 : 0 ≤ x49_4
               ·rw [if_pos c34] at H
                have c34b0 : decide (0 ≤ x49_4) = true := decide_eq_true c34
                clear c34
                by_cases c35 : x49_4 < (y208.length : Int)
                ·rw [if_pos c35] at H
                 have c35b0 : decide (x49_4 < (y208.length : Int)) = true := decide_eq_true c35
                 clear c35
                 replace H := Option.bind_eq_some_iff.mp H
                 obtain ⟨t212, A360, H⟩ := H
                 replace H : (if t212 = 0 then ((impl_phase.f k4 l0 (rdOf ByteArray.empty y208 x49_4)).bind fun t213 => (if t213 ≤ x38_3 then (some false) else (impl_RecOk.l2 k4 l0 x38_3 l0 (l0.length : Int) x38_3 y208 (y208.length : Int) (wrap64 (x49_4 + 1))))) else (impl_RecOk.l2 k4 l0 x38_3 l0 (l0.length : Int) x38_3 y208 (y208.length : Int) (wrap64 (x49_4 + 1)))) = some r := H
                 have A36 := Aside0.mk A360
                 clear A360
                 by_cases c37 : t212 = 0
                 ·rw [if_pos c37] at H
                  have c37b0 : (t212 == 0) = true := beq_iff_eq.mpr c37
                  have c37b1 : (t212 != 0) = false := bne_eq_false_iff_eq.mpr c37
                  clear c37
                  replace H := Option.bind_eq_some_iff.mp H
                  obtain ⟨t213, A380, H⟩ := H
                  replace H : (if t213 ≤ x38_3 then (some false) else (impl_RecOk.l2 k4 l0 x38_3 l0 (l0.length : Int) x38_3 y208 (y208.length : Int) (wrap64 (x49_4 + 1)))) = some r := H
                  have A38 := Aside0.mk A380
                  clear A380
                  by_cases c39 : t213 ≤ x38_3
                  ·rw [if_pos c39] at H
                   have c39b0 : decide (t213 ≤ x38_3) = true := decide_eq_true c39
                   clear c39
                   obtain rfl := Option.some.inj H
                   have p211 : 0 ≤ (x49_4 : Int) := of_decide_eq_true m8_
                   have q211 : x49_4 < (y208.length : Int) := of_decide_eq_true m8_
                   obtain ⟨ad211, e211, hx211_0⟩ := Kd.at_string (Kd.R_reads' HO_47.out).2.2 x49_4 p211 q211
                   cases e211
                   replace p211 := eq_true p211
                   replace q211 := eq_true q211
                   go_wp2_with (first | ((with_reducible refine gate_callee (f := 55) rfl ?_); refine goesL_ (some 54) rfl rfl Try.func55 (by kernel_rfl) rfl #[.string (rdOf ByteArray.empty y208 x49_4)] rfl m1_ ?_; (with_reducible refine (impl_RecEnd.calls (rdOf ByteArray.empty y208 x49_4) t212 _ A36.out).mono ?_); rintro e w' ⟨rfl, ⟨nd, rfl⟩⟩; refine ⟨_, rfl, ?_⟩) | (go_at_call 36; (with_reducible refine (impl_phase.calls k4 _ _ l0 (rdOf ByteArray.empty y208 x49_4) t213 _ ?side1 ?side2 A38.out).mono ?_); (case side1 => exact (by repeat (first | exact (Kd.C_below HR0.out m24_) | (with_reducible refine Kd.C_alloc ?_ _) | (with_reducible refine Kd.C_drewN ?_ _) | (with_reducible refine Kd.C_drew ?_)))); (case side2 => exact HC0.out); rintro e w40 ⟨rfl, hb⟩; have n0_ := Aside0.mk (Kd.R_below m72_ hb); have n1_ := Aside0.mk (blk_below (g := gb207) (o := .cells #[.string ((rd_T44 l0 x38_3).f0), .int .i64 ((rd_T44 l0 x38_3).f1), .string ((rd_T44 l0 x38_3).f2), .string ((rd_T44 l0 x38_3).f3), .int .i64 ((rd_T44 l0 x38_3).f4), .int .i64 ((rd_T44 l0 x38_3).f5), .string ((rd_T44 l0 x38_3).f6), .string ((rd_T44 l0 x38_3).f7)] 44 (0, 0)) m51_ hb); have n2_ := Aside0.mk (below_step m24_ hb); clear HO_47; clear BK207; clear HB; have HO_47 := n0_; have BK207 := n1_; have HB := n2_; clear n0_ n1_ n2_; (try clear hb); (try clear hb2); (try clear hk); (try clear hi)))
                   go_ret
                   exact ⟨m7_, m24_⟩
                  ·rw [if_neg c39] at H
                   have c39b0 : decide (t213 ≤ x38_3) = false := decide_eq_false c39
                   clear c39
                   have H' := Aside0.mk H
                   clear H
                   have p211 : 0 ≤ (x49_4 : Int) := of_decide_eq_true m8_
                   have q211 : x49_4 < (y208.length : Int) := of_decide_eq_true m8_
                   obtain ⟨ad211, e211, hx211_0⟩ := Kd.at_string (Kd.R_reads' HO_47.out).2.2 x49_4 p211 q211
                   cases e211
                   replace p211 := eq_true p211
                   replace q211 := eq_true q211
                   go_wp2_with (first | ((with_reducible refine gate_callee (f := 55) rfl ?_); refine goesL_ (some 54) rfl rfl Try.func55 (by kernel_rfl) rfl #[.string (rdOf ByteArray.empty y208 x49_4)] rfl m1_ ?_; (with_reducible refine (impl_RecEnd.calls (rdOf ByteArray.empty y208 x49_4) t212 _ A36.out).mono ?_); rintro e w' ⟨rfl, ⟨nd, rfl⟩⟩; refine ⟨_, rfl, ?_⟩) | (go_at_call 36; (with_reducible refine (impl_phase.calls k4 _ _ l0 (rdOf ByteArray.empty y208 x49_4) t213 _ ?side1 ?side2 A38.out).mono ?_); (case side1 => exact (by repeat (first | exact (Kd.C_below HR0.out m24_) | (with_reducible refine Kd.C_alloc ?_ _) | (with_reducible refine Kd.C_drewN ?_ _) | (with_reducible refine Kd.C_drew ?_)))); (case side2 => exact HC0.out); rintro e w41 ⟨rfl, hb⟩; have n0_ := Aside0.mk (Kd.R_below m72_ hb); have n1_ := Aside0.mk (blk_below (g := gb207) (o := .cells #[.string ((rd_T44 l0 x38_3).f0), .int .i64 ((rd_T44 l0 x38_3).f1), .string ((rd_T44 l0 x38_3).f2), .string ((rd_T44 l0 x38_3).f3), .int .i64 ((rd_T44 l0 x38_3).f4), .int .i64 ((rd_T44 l0 x38_3).f5), .string ((rd_T44 l0 x38_3).f6), .string ((rd_T44 l0 x38_3).f7)] 44 (0, 0)) m51_ hb); have n2_ := Aside0.mk (below_step m24_ hb); clear HO_47; clear BK207; clear HB; have HO_47 := n0_; have BK207 := n1_; have HB := n2_; clear n0_ n1_ n2_; (try clear hb); (try clear hb2); (try clear hk); (try clear hi)))
                   go_roundg k4
                   case measure => have := HJ1.out; have := HK2.out; have := HK3.out; have := HK4.out; omega
                   case rel => exact ⟨(wrap64 (x49_4 + 1)), m11_, H', ⟨(by have := HJ1.out; have := HK2.out; have := HK3.out; have := HK4.out; omega)⟩, ⟨m72_⟩, ⟨m51_⟩, ⟨m24_⟩⟩
                 ·rw [if_neg c37] at H
                  have c37b0 : (t212 == 0) = false := beq_eq_false_iff_ne.mpr c37
                  have c37b1 : (t212 != 0) = true := bne_iff_ne.mpr c37
                  have H' := Aside0.mk H
                  clear H
                  have p211 : 0 ≤ (x49_4 : Int) := of_decide_eq_true m8_
                  have q211 : x49_4 < (y208.length : Int) := of_decide_eq_true m8_
                  obtain ⟨ad211, e211, hx211_0⟩ := Kd.at_string (Kd.R_reads' HO_47.out).2.2 x49_4 p211 q211
                  cases e211
                  replace p211 := eq_true p211
                  replace q211 := eq_true q211
                  go_wp2_with (first | ((with_reducible refine gate_callee (f := 55) rfl ?_); refine goesL_ (some 54) rfl rfl Try.func55 (by kernel_rfl) rfl #[.string (rdOf ByteArray.empty y208 x49_4)] rfl m1_ ?_; (with_reducible refine (impl_RecEnd.calls (rdOf ByteArray.empty y208 x49_4) t212 _ A36.out).mono ?_); rintro e w' ⟨rfl, ⟨nd, rfl⟩⟩; refine ⟨_, rfl, ?_⟩))
                  go_roundg k4
                  case measure => have := HJ1.out; have := HK2.out; have := HK3.out; have := HK4.out; omega
                  case rel => exact ⟨(wrap64 (x49_4 + 1)), m11_, H', ⟨(by have := HJ1.out; have := HK2.out; have := HK3.out; have := HK4.out; omega)⟩, ⟨m72_⟩, ⟨m51_⟩, ⟨m24_⟩⟩
                ·rw [if_neg c35] at H
                 exact absurd H (by simp)
               ·rw [if_neg c34] at H
                exact absurd H (by simp)
              ·rw [if_neg c33] at H
               have c33b0 : decide (x49_4 < (y208.length : Int)) = false := decide_eq_false c33
               clear c33
               have H' := Aside0.mk H
               clear H
               go_wp2
               go_roundg k4
               case measure => have := HJ1.out; have := HK2.out; have := HK3.out; have := HK4.out; omega
               case rel => exact ⟨(wrap64 (x38_3 + 1)), m11_, H', ⟨(by have := HJ1.out; have := HK2.out; have := HK3.out; have := HK4.out; omega)⟩, ⟨m24_⟩⟩
           ·rw [if_neg c27] at H
            exact absurd H (by simp)
          ·rw [if_neg c26] at H
           exact absurd H (by simp)
         ·rw [if_neg c25] at H
          have c25b0 : decide (x38_3 < (l0.length : Int)) = false := decide_eq_false c25
          clear c25
          obtain rfl := Option.some.inj H
          go_wp2
          go_ret
          exact ⟨m7_, m0_⟩

end Go.Proofs.Ytpihcdbkdldbcaa.QFnExactRecGo
namespace Go.Proofs.Ytpihcdbkdldbcaa.QFnExactRecGo
open Go.RowKit Go.Proofs.YtpihcdbkdldbcaaW.PrintWords Go.Proofs.YtpihcdbkdldbcaaW.PrintLast Go.Proofs.YtpihcdbkdldbcaaW.PrintMore
attribute [local go_sem] str_geq str_gtr str_leq max2_int min2_int max_two min_two max_three min_three max_four min_four   -- for this text's walks alone
set_option linter.unusedVariables false
set_option linter.unusedSimpArgs false
/-! ### impl_bound: function 37 -/
def impl_bound.f : Nat → List (S44) → ByteArray → Option (Int)
 | 0, _, _ => none
 | k + 1, l0, a1 => (impl_phase.f k l0 a1).bind fun t214 => (if t214 < 0 then (some 0) else (if 0 ≤ t214 then (if t214 < (l0.length : Int) then ((impl_bound.f k l0 ((rd_T44 l0 t214).f6)).bind fun t217 => ((impl_bound.f k l0 ((rd_T44 l0 t214).f7)).bind fun t219 => (some (wrap64 (((rd_T44 l0 t214).f5) + (mx t217 t219)))))) else (none)) else (none)))
theorem impl_bound.mono_l : ∀ k, (∀ y0 y1, LeO (impl_bound.f k y0 y1) (impl_bound.f (k + 1) y0 y1))
 | 0 => fun _ _ r h => by simp [impl_bound.f] at h
 | k + 1 => by
  have ih0 := impl_bound.mono_l k
  ·intro y0 y1
   unfold impl_bound.f
   repeat' first
   | (with_reducible exact ih0 _ _)
   | (with_reducible exact impl_phase.mono _ _ _)
   | (with_reducible exact LeO.refl _)
   | (with_reducible exact LeO.none _)
   | (with_reducible refine LeO.ite ?_ ?_)
   | (with_reducible refine LeO.bind ?_ (fun _ => ?_))
   | exact ih0 _ _
   | exact impl_phase.mono _ _ _
   | exact LeO.none _
   | refine LeO.ite ?_ ?_
   | refine LeO.bind ?_ (fun _ => ?_)
theorem impl_bound.mono : ∀ a0 a1 k, LeO (impl_bound.f k a0 a1) (impl_bound.f (k + 1) a0 a1) := by
 intro a0 a1 k
 have ih0 := impl_bound.mono_l k
 exact ih0 a0 a1
def impl_bound.T4 : Bool × List (List Nat × List Nat) := (true, [([], []), ([], []), ([0, 1], [0, 1]), ([2], [2]), ([3], [3]), ([], []), ([], []), ([], []), ([6, 7], [6, 7]), ([8], [8]), ([9], [9]), ([5, 10], [5, 10]), ([], []), ([], []), ([], []), ([13, 14], [13, 14]), ([15], [15]), ([16], [16]), ([12, 17, 11], [12, 17]), ([11, 18], [11, 18]), ([4, 19], [4, 19]), ([20, 18, 0, 1, 2, 3, 4, 5, 6, 7, 8, 9, 10, 11, 12, 13, 14, 15, 16, 17, 18, 19, 20], [20])])
def impl_bound.B4 : List Nat := [0, 0, 3, 7, 15, 0, 0, 0, 192, 448, 960, 2016, 0, 0, 0, 24576, 57344, 122880, 262112, 524256, 1048575, 2097151]
theorem impl_bound.tab4 : rtab .any (opsOf Try.f37 4) = impl_bound.T4 := by kernel_rfl
theorem impl_bound.bits4 : waitsOk impl_bound.T4.2 impl_bound.B4 = true := by kernel_rfl
set_option maxHeartbeats 8000000 in
set_option maxRecDepth 100000 in
theorem impl_bound.calls (k : Nat) : ∀ (A0 : Option Addr) (c0 : Nat) (l0 : List (S44)) (a1 : ByteArray) (r : Int) (w : World) (hr0 : Kd.C k44 w A0 l0.length l0) (hc0 : l0.length ≤ c0) (h : impl_bound.f k l0 a1 = some r),
  Calls Try.prog 37 #[.slice A0 l0.length c0, .string a1] w fun e w' => e = .returned (.int .i64 r) ∧ Below w.heap.size w w' := by
 induction k using Nat.strongRecOn with
 | _ k ih =>
 intro A0 c0 l0 a1 r w hr0 hc0 h
 cases k with
 | zero => exact absurd h (by simp [impl_bound.f])
 | succ k =>
 simp only [impl_bound.f] at h
 have HR0 := Aside0.mk hr0
 have HC0 := Aside0.mk hc0
 clear hr0 hc0
 have HB := Aside0.mk (Below.refl w.heap.size w)
 have H : ((impl_phase.f k l0 a1).bind fun t214 => (if t214 < 0 then (some 0) else (if 0 ≤ t214 then (if t214 < (l0.length : Int) then ((impl_bound.f k l0 ((rd_T44 l0 t214).f6)).bind fun t217 => ((impl_bound.f k l0 ((rd_T44 l0 t214).f7)).bind fun t219 => (some (wrap64 (((rd_T44 l0 t214).f5) + (mx t217 t219)))))) else (none)) else (none)))) = some r := h
 clear h
 replace H := Option.bind_eq_some_iff.mp H
 obtain ⟨t214, A30, H⟩ := H
 replace H : (if t214 < 0 then (some 0) else (if 0 ≤ t214 then (if t214 < (l0.length : Int) then ((impl_bound.f k l0 ((rd_T44 l0 t214).f6)).bind fun t217 => ((impl_bound.f k l0 ((rd_T44 l0 t214).f7)).bind fun t219 => (some (wrap64 (((rd_T44 l0 t214).f5) + (mx t217 t219)))))) else (none)) else (none))) = some r := H
 have A3 := Aside0.mk A30
 clear A30
 by_cases c4 : t214 < 0
 ·rw [if_pos c4] at H
  have c4b0 : decide (t214 < 0) = true := decide_eq_true c4
  clear c4
  obtain rfl := Option.some.inj H
  go_enter Try.func37, Try.ntmps37
  go_wp2_with (first | ((with_reducible refine gate_callee (f := 36) rfl ?_); refine goesL_ (some 8) rfl rfl Try.func36 (by kernel_rfl) rfl #[.slice A0 l0.length c0, .string a1] rfl m1_ ?_; (with_reducible refine (impl_phase.calls k _ _ l0 a1 t214 _ ?side1 ?side2 A3.out).mono ?_); (case side1 => exact m39_); (case side2 => exact HC0.out); rintro e w5 ⟨rfl, hb⟩; refine ⟨_, rfl, ?_⟩; have n0_ := Aside0.mk (below_step m0_ hb); clear HB; have HB := n0_; clear n0_; (try clear hb); (try clear hb2); (try clear hk); (try clear hi)))
  go_ret
  exact ⟨m7_, m0_⟩
 ·rw [if_neg c4] at H
  have c4b0 : decide (t214 < 0) = false := decide_eq_false c4
  clear c4
  by_cases c6 : 0 ≤ t214
  ·rw [if_pos c6] at H
   have c6b0 : decide (0 ≤ t214) = true := decide_eq_true c6
   clear c6
   by_cases c7 : t214 < (l0.length : Int)
   ·rw [if_pos c7] at H
    have c7b0 : decide (t214 < (l0.length : Int)) = true := decide_eq_true c7
    clear c7
    replace H := Option.bind_eq_some_iff.mp H
    obtain ⟨t217, A80, H⟩ := H
    replace H : ((impl_bound.f k l0 ((rd_T44 l0 t214).f7)).bind fun t219 => (some (wrap64 (((rd_T44 l0 t214).f5) + (mx t217 t219))))) = some r := H
    have A8 := Aside0.mk A80
    clear A80
    replace H := Option.bind_eq_some_iff.mp H
    obtain ⟨t219, A90, H⟩ := H
    replace H : (some (wrap64 (((rd_T44 l0 t214).f5) + (mx t217 t219)))) = some r := H
    have A9 := Aside0.mk A90
    clear A90
    obtain ⟨ji10, hji10⟩ : ∃ j_ : Int, (mx t217 t219) = j_ := ⟨_, rfl⟩
    replace H : (some (wrap64 (((rd_T44 l0 t214).f5) + (ji10)))) = some r := by first | (rw [hji10] at H; exact H) | (simp only [hji10] at H ⊢; exact H)
    (try rw [hji10] at A3)
    (try rw [hji10] at A8)
    (try rw [hji10] at A9)
    have hji10_ : (if t217 < t219 then t219 else t217) = ji10 := hji10
    obtain rfl := Option.some.inj H
    go_enter Try.func37, Try.ntmps37
    try go_wp2_with (first | ((with_reducible refine gate_callee (f := 36) rfl ?_); refine goesL_ (some 8) rfl rfl Try.func36 (by kernel_rfl) rfl #[.slice A0 l0.length c0, .string a1] rfl m1_ ?_; (with_reducible refine (impl_phase.calls k _ _ l0 a1 t214 _ ?side1 ?side2 A3.out).mono ?_); (case side1 => exact m39_); (case side2 => exact HC0.out); rintro e w11 ⟨rfl, hb⟩; refine ⟨_, rfl, ?_⟩; have n0_ := Aside0.mk (below_step m0_ hb); clear HB; have HB := n0_; clear n0_; (try clear hb); (try clear hb2); (try clear hk); (try clear hi)))
    have n0_ := Aside0.mk (below_drew1 HB.out)
    clear HB
    have HB := n0_
    clear n0_
    have p215 : 0 ≤ (t214 : Int) := of_decide_eq_true m8_
    have q215 : t214 < (l0.length : Int) := of_decide_eq_true m8_
    obtain ⟨ad215, e215, hx215_0, hx215_1, hx215_2, hx215_3, hx215_4, hx215_5, hx215_6, hx215_7⟩ := at_T44 HR0.out t214 p215 q215
    have hw215_7 := hx215_7
    have hw215_6 := hx215_6
    have hw215_5 := hx215_5
    have hw215_4 := hx215_4
    have hw215_3 := hx215_3
    have hw215_2 := hx215_2
    have hw215_1 := hx215_1
    have hw215_0 := hx215_0
    cases e215
    replace hx215_0 := (HB.out.cell (World.block_lt_of_cell? w _ hx215_0)).trans hx215_0
    replace hx215_1 := (HB.out.cell (World.block_lt_of_cell? w _ hx215_1)).trans hx215_1
    replace hx215_2 := (HB.out.cell (World.block_lt_of_cell? w _ hx215_2)).trans hx215_2
    replace hx215_3 := (HB.out.cell (World.block_lt_of_cell? w _ hx215_3)).trans hx215_3
    replace hx215_4 := (HB.out.cell (World.block_lt_of_cell? w _ hx215_4)).trans hx215_4
    replace hx215_5 := (HB.out.cell (World.block_lt_of_cell? w _ hx215_5)).trans hx215_5
    replace hx215_6 := (HB.out.cell (World.block_lt_of_cell? w _ hx215_6)).trans hx215_6
    replace hx215_7 := (HB.out.cell (World.block_lt_of_cell? w _ hx215_7)).trans hx215_7
    replace p215 := eq_true p215
    replace q215 := eq_true q215
    have p216 : 0 ≤ (t214 : Int) := of_decide_eq_true m8_
    have q216 : t214 < (l0.length : Int) := of_decide_eq_true m8_
    obtain ⟨ad216, e216, hx216_0, hx216_1, hx216_2, hx216_3, hx216_4, hx216_5, hx216_6, hx216_7⟩ := at_T44 HR0.out t214 p216 q216
    have hw216_7 := hx216_7
    have hw216_6 := hx216_6
    have hw216_5 := hx216_5
    have hw216_4 := hx216_4
    have hw216_3 := hx216_3
    have hw216_2 := hx216_2
    have hw216_1 := hx216_1
    have hw216_0 := hx216_0
    obtain rfl : ad215 = ad216 := (by injection e216)
    replace hx216_0 := (HB.out.cell (World.block_lt_of_cell? w _ hx216_0)).trans hx216_0
    replace hx216_1 := (HB.out.cell (World.block_lt_of_cell? w _ hx216_1)).trans hx216_1
    replace hx216_2 := (HB.out.cell (World.block_lt_of_cell? w _ hx216_2)).trans hx216_2
    replace hx216_3 := (HB.out.cell (World.block_lt_of_cell? w _ hx216_3)).trans hx216_3
    replace hx216_4 := (HB.out.cell (World.block_lt_of_cell? w _ hx216_4)).trans hx216_4
    replace hx216_5 := (HB.out.cell (World.block_lt_of_cell? w _ hx216_5)).trans hx216_5
    replace hx216_6 := (HB.out.cell (World.block_lt_of_cell? w _ hx216_6)).trans hx216_6
    replace hx216_7 := (HB.out.cell (World.block_lt_of_cell? w _ hx216_7)).trans hx216_7
    replace p216 := eq_true p216
    replace q216 := eq_true q216
    have p218 : 0 ≤ (t214 : Int) := of_decide_eq_true m8_
    have q218 : t214 < (l0.length : Int) := of_decide_eq_true m8_
    obtain ⟨ad218, e218, hx218_0, hx218_1, hx218_2, hx218_3, hx218_4, hx218_5, hx218_6, hx218_7⟩ := at_T44 HR0.out t214 p218 q218
    have hw218_7 := hx218_7
    have hw218_6 := hx218_6
    have hw218_5 := hx218_5
    have hw218_4 := hx218_4
    have hw218_3 := hx218_3
    have hw218_2 := hx218_2
    have hw218_1 := hx218_1
    have hw218_0 := hx218_0
    obtain rfl : ad215 = ad218 := (by injection e218)
    replace hx218_0 := (HB.out.cell (World.block_lt_of_cell? w _ hx218_0)).trans hx218_0
    replace hx218_1 := (HB.out.cell (World.block_lt_of_cell? w _ hx218_1)).trans hx218_1
    replace hx218_2 := (HB.out.cell (World.block_lt_of_cell? w _ hx218_2)).trans hx218_2
    replace hx218_3 := (HB.out.cell (World.block_lt_of_cell? w _ hx218_3)).trans hx218_3
    replace hx218_4 := (HB.out.cell (World.block_lt_of_cell? w _ hx218_4)).trans hx218_4
    replace hx218_5 := (HB.out.cell (World.block_lt_of_cell? w _ hx218_5)).trans hx218_5
    replace hx218_6 := (HB.out.cell (World.block_lt_of_cell? w _ hx218_6)).trans hx218_6
    replace hx218_7 := (HB.out.cell (World.block_lt_of_cell? w _ hx218_7)).trans hx218_7
    replace p218 := eq_true p218
    replace q218 := eq_true q218
    refine start_ (n := 22) (S := fun w' => w'.cell? (ad215.add ((t214).toNat * 8)) = some (.string ((rd_T44 l0 t214).f0)) ∧ w'.cell? ⟨(ad215.add ((t214).toNat * 8)).block, (ad215.add ((t214).toNat * 8)).off + 1, none⟩ = some (.int .i64 ((rd_T44 l0 t214).f1)) ∧ w'.cell? ⟨(ad215.add ((t214).toNat * 8)).block, (ad215.add ((t214).toNat * 8)).off + 2, none⟩ = some (.string ((rd_T44 l0 t214).f2)) ∧ w'.cell? ⟨(ad215.add ((t214).toNat * 8)).block, (ad215.add ((t214).toNat * 8)).off + 3, none⟩ = some (.string ((rd_T44 l0 t214).f3)) ∧ w'.cell? ⟨(ad215.add ((t214).toNat * 8)).block, (ad215.add ((t214).toNat * 8)).off + 4, none⟩ = some (.int .i64 ((rd_T44 l0 t214).f4)) ∧ w'.cell? ⟨(ad215.add ((t214).toNat * 8)).block, (ad215.add ((t214).toNat * 8)).off + 5, none⟩ = some (.int .i64 ((rd_T44 l0 t214).f5)) ∧ w'.cell? ⟨(ad215.add ((t214).toNat * 8)).block, (ad215.add ((t214).toNat * 8)).off + 6, none⟩ = some (.string ((rd_T44 l0 t214).f6)) ∧ w'.cell? ⟨(ad215.add ((t214).toNat * 8)).block, (ad215.add ((t214).toNat * 8)).off + 7, none⟩ = some (.string ((rd_T44 l0 t214).f7)) ∧ w'.cell? (ad215.add ((t214).toNat * 8)) = some (.string ((rd_T44 l0 t214).f0)) ∧ w'.cell? ⟨(ad215.add ((t214).toNat * 8)).block, (ad215.add ((t214).toNat * 8)).off + 1, none⟩ = some (.int .i64 ((rd_T44 l0 t214).f1)) ∧ w'.cell? ⟨(ad215.add ((t214).toNat * 8)).block, (ad215.add ((t214).toNat * 8)).off + 2, none⟩ = some (.string ((rd_T44 l0 t214).f2)) ∧ w'.cell? ⟨(ad215.add ((t214).toNat * 8)).block, (ad215.add ((t214).toNat * 8)).off + 3, none⟩ = some (.string ((rd_T44 l0 t214).f3)) ∧ w'.cell? ⟨(ad215.add ((t214).toNat * 8)).block, (ad215.add ((t214).toNat * 8)).off + 4, none⟩ = some (.int .i64 ((rd_T44 l0 t214).f4)) ∧ w'.cell? ⟨(ad215.add ((t214).toNat * 8)).block, (ad215.add ((t214).toNat * 8)).off + 5, none⟩ = some (.int .i64 ((rd_T44 l0 t214).f5)) ∧ w'.cell? ⟨(ad215.add ((t214).toNat * 8)).block, (ad215.add ((t214).toNat * 8)).off + 6, none⟩ = some (.string ((rd_T44 l0 t214).f6)) ∧ w'.cell? ⟨(ad215.add ((t214).toNat * 8)).block, (ad215.add ((t214).toNat * 8)).off + 7, none⟩ = some (.string ((rd_T44 l0 t214).f7)) ∧ w'.cell? (ad215.add ((t214).toNat * 8)) = some (.string ((rd_T44 l0 t214).f0)) ∧ w'.cell? ⟨(ad215.add ((t214).toNat * 8)).block, (ad215.add ((t214).toNat * 8)).off + 1, none⟩ = some (.int .i64 ((rd_T44 l0 t214).f1)) ∧ w'.cell? ⟨(ad215.add ((t214).toNat * 8)).block, (ad215.add ((t214).toNat * 8)).off + 2, none⟩ = some (.string ((rd_T44 l0 t214).f2)) ∧ w'.cell? ⟨(ad215.add ((t214).toNat * 8)).block, (ad215.add ((t214).toNat * 8)).off + 3, none⟩ = some (.string ((rd_T44 l0 t214).f3)) ∧ w'.cell? ⟨(ad215.add ((t214).toNat * 8)).block, (ad215.add ((t214).toNat * 8)).off + 4, none⟩ = some (.int .i64 ((rd_T44 l0 t214).f4)) ∧ w'.cell? ⟨(ad215.add ((t214).toNat * 8)).block, (ad215.add ((t214).toNat * 8)).off + 5, none⟩ = some (.int .i64 ((rd_T44 l0 t214).f5)) ∧ w'.cell? ⟨(ad215.add ((t214).toNat * 8)).block, (ad215.add ((t214).toNat * 8)).off + 6, none⟩ = some (.string ((rd_T44 l0 t214).f6)) ∧ w'.cell? ⟨(ad215.add ((t214).toNat * 8)).block, (ad215.add ((t214).toNat * 8)).off + 7, none⟩ = some (.string ((rd_T44 l0 t214).f7))) (ds := []) (bm 22 0) (by kernel_rfl) rfl rfl ⟨((HB.out.cell (World.block_lt_of_cell? w _ hw215_0)).trans hw215_0), ((HB.out.cell (World.block_lt_of_cell? w _ hw215_1)).trans hw215_1), ((HB.out.cell (World.block_lt_of_cell? w _ hw215_2)).trans hw215_2), ((HB.out.cell (World.block_lt_of_cell? w _ hw215_3)).trans hw215_3), ((HB.out.cell (World.block_lt_of_cell? w _ hw215_4)).trans hw215_4), ((HB.out.cell (World.block_lt_of_cell? w _ hw215_5)).trans hw215_5), ((HB.out.cell (World.block_lt_of_cell? w _ hw215_6)).trans hw215_6), ((HB.out.cell (World.block_lt_of_cell? w _ hw215_7)).trans hw215_7), ((HB.out.cell (World.block_lt_of_cell? w _ hw216_0)).trans hw216_0), ((HB.out.cell (World.block_lt_of_cell? w _ hw216_1)).trans hw216_1), ((HB.out.cell (World.block_lt_of_cell? w _ hw216_2)).trans hw216_2), ((HB.out.cell (World.block_lt_of_cell? w _ hw216_3)).trans hw216_3), ((HB.out.cell (World.block_lt_of_cell? w _ hw216_4)).trans hw216_4), ((HB.out.cell (World.block_lt_of_cell? w _ hw216_5)).trans hw216_5), ((HB.out.cell (World.block_lt_of_cell? w _ hw216_6)).trans hw216_6), ((HB.out.cell (World.block_lt_of_cell? w _ hw216_7)).trans hw216_7), ((HB.out.cell (World.block_lt_of_cell? w _ hw218_0)).trans hw218_0), ((HB.out.cell (World.block_lt_of_cell? w _ hw218_1)).trans hw218_1), ((HB.out.cell (World.block_lt_of_cell? w _ hw218_2)).trans hw218_2), ((HB.out.cell (World.block_lt_of_cell? w _ hw218_3)).trans hw218_3), ((HB.out.cell (World.block_lt_of_cell? w _ hw218_4)).trans hw218_4), ((HB.out.cell (World.block_lt_of_cell? w _ hw218_5)).trans hw218_5), ((HB.out.cell (World.block_lt_of_cell? w _ hw218_6)).trans hw218_6), ((HB.out.cell (World.block_lt_of_cell? w _ hw218_7)).trans hw218_7)⟩ (fun hHeld => ?_); refine with_tabW impl_bound.tab4 impl_bound.bits4 (fun HT_ HW_ => ?_)
    generalize w11.drew = w12 at HB hx215_0 hx215_1 hx215_2 hx215_3 hx215_4 hx215_5 hx215_6 hx215_7 hx216_0 hx216_1 hx216_2 hx216_3 hx216_4 hx216_5 hx216_6 hx216_7 hx218_0 hx218_1 hx218_2 hx218_3 hx218_4 hx218_5 hx218_6 hx218_7 hHeld ⊢
    refine pure_ (i := 0) (N := some 11) (v := ?_) (a' := ?_) (bm 22 1) rfl rfl (any_of HT_.out (by kernel_rfl)) (fun _ _ _ h => h) (Or.inl ⟨(by rfl), ?_⟩) ?_ ?_; rotate_left; intro w'; go_simp; with_reducible rfl; rotate_left; simp only [Act.put, List.setIfInBounds_toArray, List.set_cons_zero, List.set_cons_succ, i64_w, i32_w]; rfl
    refine pure_ (i := 1) (N := some 12) (v := ?_) (a' := ?_) (bm 22 3) rfl rfl (any_of HT_.out (by kernel_rfl)) (fun _ _ _ h => h) (Or.inl ⟨(by rfl), ?_⟩) ?_ ?_; rotate_left; intro w'; go_simp; with_reducible rfl; rotate_left; simp only [Act.put, List.setIfInBounds_toArray, List.set_cons_zero, List.set_cons_succ, i64_w, i32_w]; rfl
    refine pure_ (i := 2) (N := some 13) (v := ?_) (a' := ?_) (bm 22 7) rfl rfl (any_of HT_.out (by kernel_rfl)) (fun _ _ _ h => h) (Or.inl ⟨(by rfl), ?_⟩) ?_ ?_; rotate_left; intro w'; go_simp; with_reducible rfl; rotate_left; simp only [Act.put, List.setIfInBounds_toArray, List.set_cons_zero, List.set_cons_succ, i64_w, i32_w]; rfl
    refine pure_ (i := 3) (N := some 14) (v := ?_) (a' := ?_) (bm 22 15) rfl rfl (any_of HT_.out (by kernel_rfl)) (fun _ _ _ h => h) (Or.inl ⟨(by rfl), ?_⟩) ?_ ?_; rotate_left; intro w'; go_simp; with_reducible rfl; rotate_left; simp only [Act.put, List.setIfInBounds_toArray, List.set_cons_zero, List.set_cons_succ, i64_w, i32_w]; rfl
    refine pure_ (i := 5) (N := some 16) (v := ?_) (a' := ?_) (bm 22 47) rfl rfl (any_of HT_.out (by kernel_rfl)) (fun _ _ _ h => h) (Or.inl ⟨(by rfl), ?_⟩) ?_ ?_; rotate_left; intro w'; go_simp; with_reducible rfl; rotate_left; simp only [Act.put, List.setIfInBounds_toArray, List.set_cons_zero, List.set_cons_succ, i64_w, i32_w]; rfl
    refine pure_ (i := 6) (N := some 17) (v := ?_) (a' := ?_) (bm 22 111) rfl rfl (any_of HT_.out (by kernel_rfl)) (fun _ _ _ h => h) (Or.inl ⟨(by rfl), ?_⟩) ?_ ?_; rotate_left; intro w'; go_simp; with_reducible rfl; rotate_left; simp only [Act.put, List.setIfInBounds_toArray, List.set_cons_zero, List.set_cons_succ, i64_w, i32_w]; rfl
    refine pure_ (i := 7) (N := some 18) (v := ?_) (a' := ?_) (bm 22 239) rfl rfl (any_of HT_.out (by kernel_rfl)) (fun _ _ _ h => h) (Or.inl ⟨(by rfl), ?_⟩) ?_ ?_; rotate_left; intro w'; go_simp; with_reducible rfl; rotate_left; simp only [Act.put, List.setIfInBounds_toArray, List.set_cons_zero, List.set_cons_succ, i64_w, i32_w]; rfl
    refine pure_ (i := 8) (N := some 19) (v := ?_) (a' := ?_) (bm 22 495) rfl rfl (any_of HT_.out (by kernel_rfl)) (fun _ _ _ h => h) (Or.inl ⟨(by rfl), ?_⟩) ?_ ?_; rotate_left; intro w'; go_simp; with_reducible rfl; rotate_left; simp only [Act.put, List.setIfInBounds_toArray, List.set_cons_zero, List.set_cons_succ, i64_w, i32_w]; rfl
    refine pure_ (i := 9) (N := some 20) (v := ?_) (a' := ?_) (bm 22 1007) rfl rfl (any_of HT_.out (by kernel_rfl)) (fun _ _ _ h => h) (Or.inl ⟨(by rfl), ?_⟩) ?_ ?_; rotate_left; intro w'; go_simp; with_reducible rfl; rotate_left; simp only [Act.put, List.setIfInBounds_toArray, List.set_cons_zero, List.set_cons_succ, i64_w, i32_w]; rfl
    refine pure_ (i := 12) (N := some 23) (v := ?_) (a' := ?_) (bm 22 5103) rfl rfl (any_of HT_.out (by kernel_rfl)) (fun _ _ _ h => h) (Or.inl ⟨(by rfl), ?_⟩) ?_ ?_; rotate_left; intro w'; go_simp; with_reducible rfl; rotate_left; simp only [Act.put, List.setIfInBounds_toArray, List.set_cons_zero, List.set_cons_succ, i64_w, i32_w]; rfl
    refine pure_ (i := 13) (N := some 24) (v := ?_) (a' := ?_) (bm 22 13295) rfl rfl (any_of HT_.out (by kernel_rfl)) (fun _ _ _ h => h) (Or.inl ⟨(by rfl), ?_⟩) ?_ ?_; rotate_left; intro w'; go_simp; with_reducible rfl; rotate_left; simp only [Act.put, List.setIfInBounds_toArray, List.set_cons_zero, List.set_cons_succ, i64_w, i32_w]; rfl
    refine pure_ (i := 14) (N := some 25) (v := ?_) (a' := ?_) (bm 22 29679) rfl rfl (any_of HT_.out (by kernel_rfl)) (fun _ _ _ h => h) (Or.inl ⟨(by rfl), ?_⟩) ?_ ?_; rotate_left; intro w'; go_simp; with_reducible rfl; rotate_left; simp only [Act.put, List.setIfInBounds_toArray, List.set_cons_zero, List.set_cons_succ, i64_w, i32_w]; rfl
    refine pure_ (i := 15) (N := some 26) (v := ?_) (a' := ?_) (bm 22 62447) rfl rfl (any_of HT_.out (by kernel_rfl)) (fun _ _ _ h => h) (Or.inl ⟨(by rfl), ?_⟩) ?_ ?_; rotate_left; intro w'; go_simp; with_reducible rfl; rotate_left; simp only [Act.put, List.setIfInBounds_toArray, List.set_cons_zero, List.set_cons_succ, i64_w, i32_w]; rfl
    refine pure_ (i := 16) (N := some 27) (v := ?_) (a' := ?_) (bm 22 127983) rfl rfl (any_of HT_.out (by kernel_rfl)) (fun _ _ _ h => h) (Or.inl ⟨(by rfl), ?_⟩) ?_ ?_; rotate_left; intro w'; go_simp; with_reducible rfl; rotate_left; simp only [Act.put, List.setIfInBounds_toArray, List.set_cons_zero, List.set_cons_succ, i64_w, i32_w]; rfl
    refine take_ (i := 4) (N := some 15) (v := ?_) (a' := ?_) (bm 22 127999) rfl rfl (take_ofW HT_.out HW_.out (by kernel_rfl)) (fun _ _ _ h => h) (Or.inl ⟨(by rfl), ?_⟩) hHeld ?_ ?_; rotate_left; rintro w' ⟨s0, s1, s2, s3, s4, s5, s6, s7, s8, s9, s10, s11, s12, s13, s14, s15, s16, s17, s18, s19, s20, s21, s22, s23⟩; go_simp; with_reducible rfl; rotate_left; simp only [Act.put, List.setIfInBounds_toArray, List.set_cons_zero, List.set_cons_succ, i64_w, i32_w]; rfl
    refine take_ (i := 10) (N := some 21) (v := ?_) (a' := ?_) (bm 22 129023) rfl rfl (take_ofW HT_.out HW_.out (by kernel_rfl)) (fun _ _ _ h => h) (Or.inl ⟨(by rfl), ?_⟩) hHeld ?_ ?_; rotate_left; rintro w' ⟨s0, s1, s2, s3, s4, s5, s6, s7, s8, s9, s10, s11, s12, s13, s14, s15, s16, s17, s18, s19, s20, s21, s22, s23⟩; go_simp; with_reducible rfl; rotate_left; simp only [Act.put, List.setIfInBounds_toArray, List.set_cons_zero, List.set_cons_succ, i64_w, i32_w]; rfl
    refine take_ (i := 17) (N := some 28) (v := ?_) (a' := ?_) (bm 22 260095) rfl rfl (take_ofW HT_.out HW_.out (by kernel_rfl)) (fun _ _ _ h => h) (Or.inl ⟨(by rfl), ?_⟩) hHeld ?_ ?_; rotate_left; rintro w' ⟨s0, s1, s2, s3, s4, s5, s6, s7, s8, s9, s10, s11, s12, s13, s14, s15, s16, s17, s18, s19, s20, s21, s22, s23⟩; go_simp; with_reducible rfl; rotate_left; simp only [Act.put, List.setIfInBounds_toArray, List.set_cons_zero, List.set_cons_succ, i64_w, i32_w]; rfl
    refine one_ (i := 11) (N := some 22) (bm 22 262143) rfl rfl (one_of HT_.out (by kernel_rfl)) (by decide) (fun K hK => ?_)
    refine goes_ Try.func37 (by kernel_rfl) rfl #[.slice (some ad215) l0.length c0, .string ((rd_T44 l0 t214).f6)] (by rfl) rfl rfl m1_ ?_
    with_reducible refine (ih k (by omega) _ _ l0 ((rd_T44 l0 t214).f6) t217 _ ?side1 ?side2 A8.out).mono ?_
    (case side1 => exact m12_)
    (case side2 => exact HC0.out)
    rintro e w13 ⟨rfl, hb⟩
    refine ⟨_, rfl, ?_⟩
    have n0_ := Aside0.mk (below_step m0_ hb)
    clear HB
    have HB := n0_
    clear n0_
    (try clear hb)
    (try clear hb2)
    (try clear hk)
    (try clear hi)
    refine hK.out _ _ ⟨((HB.out.cell (World.block_lt_of_cell? w _ hw215_0)).trans hw215_0), ((HB.out.cell (World.block_lt_of_cell? w _ hw215_1)).trans hw215_1), ((HB.out.cell (World.block_lt_of_cell? w _ hw215_2)).trans hw215_2), ((HB.out.cell (World.block_lt_of_cell? w _ hw215_3)).trans hw215_3), ((HB.out.cell (World.block_lt_of_cell? w _ hw215_4)).trans hw215_4), ((HB.out.cell (World.block_lt_of_cell? w _ hw215_5)).trans hw215_5), ((HB.out.cell (World.block_lt_of_cell? w _ hw215_6)).trans hw215_6), ((HB.out.cell (World.block_lt_of_cell? w _ hw215_7)).trans hw215_7), ((HB.out.cell (World.block_lt_of_cell? w _ hw216_0)).trans hw216_0), ((HB.out.cell (World.block_lt_of_cell? w _ hw216_1)).trans hw216_1), ((HB.out.cell (World.block_lt_of_cell? w _ hw216_2)).trans hw216_2), ((HB.out.cell (World.block_lt_of_cell? w _ hw216_3)).trans hw216_3), ((HB.out.cell (World.block_lt_of_cell? w _ hw216_4)).trans hw216_4), ((HB.out.cell (World.block_lt_of_cell? w _ hw216_5)).trans hw216_5), ((HB.out.cell (World.block_lt_of_cell? w _ hw216_6)).trans hw216_6), ((HB.out.cell (World.block_lt_of_cell? w _ hw216_7)).trans hw216_7), ((HB.out.cell (World.block_lt_of_cell? w _ hw218_0)).trans hw218_0), ((HB.out.cell (World.block_lt_of_cell? w _ hw218_1)).trans hw218_1), ((HB.out.cell (World.block_lt_of_cell? w _ hw218_2)).trans hw218_2), ((HB.out.cell (World.block_lt_of_cell? w _ hw218_3)).trans hw218_3), ((HB.out.cell (World.block_lt_of_cell? w _ hw218_4)).trans hw218_4), ((HB.out.cell (World.block_lt_of_cell? w _ hw218_5)).trans hw218_5), ((HB.out.cell (World.block_lt_of_cell? w _ hw218_6)).trans hw218_6), ((HB.out.cell (World.block_lt_of_cell? w _ hw218_7)).trans hw218_7)⟩ (fun hHeld => ?_)
    clear hK K
    refine no_ ?_
    refine one_ (i := 18) (N := some 29) (bm 22 524287) rfl rfl (one_of HT_.out (by kernel_rfl)) (by decide) (fun K hK => ?_)
    refine goes_ Try.func37 (by kernel_rfl) rfl #[.slice (some ad215) l0.length c0, .string ((rd_T44 l0 t214).f7)] (by rfl) rfl rfl m1_ ?_
    with_reducible refine (ih k (by omega) _ _ l0 ((rd_T44 l0 t214).f7) t219 _ ?side1 ?side2 A9.out).mono ?_
    (case side1 => exact m12_)
    (case side2 => exact HC0.out)
    rintro e w14 ⟨rfl, hb⟩
    refine ⟨_, rfl, ?_⟩
    have n0_ := Aside0.mk (below_step m0_ hb)
    clear HB
    have HB := n0_
    clear n0_
    (try clear hb)
    (try clear hb2)
    (try clear hk)
    (try clear hi)
    refine hK.out _ _ ⟨((HB.out.cell (World.block_lt_of_cell? w _ hw215_0)).trans hw215_0), ((HB.out.cell (World.block_lt_of_cell? w _ hw215_1)).trans hw215_1), ((HB.out.cell (World.block_lt_of_cell? w _ hw215_2)).trans hw215_2), ((HB.out.cell (World.block_lt_of_cell? w _ hw215_3)).trans hw215_3), ((HB.out.cell (World.block_lt_of_cell? w _ hw215_4)).trans hw215_4), ((HB.out.cell (World.block_lt_of_cell? w _ hw215_5)).trans hw215_5), ((HB.out.cell (World.block_lt_of_cell? w _ hw215_6)).trans hw215_6), ((HB.out.cell (World.block_lt_of_cell? w _ hw215_7)).trans hw215_7), ((HB.out.cell (World.block_lt_of_cell? w _ hw216_0)).trans hw216_0), ((HB.out.cell (World.block_lt_of_cell? w _ hw216_1)).trans hw216_1), ((HB.out.cell (World.block_lt_of_cell? w _ hw216_2)).trans hw216_2), ((HB.out.cell (World.block_lt_of_cell? w _ hw216_3)).trans hw216_3), ((HB.out.cell (World.block_lt_of_cell? w _ hw216_4)).trans hw216_4), ((HB.out.cell (World.block_lt_of_cell? w _ hw216_5)).trans hw216_5), ((HB.out.cell (World.block_lt_of_cell? w _ hw216_6)).trans hw216_6), ((HB.out.cell (World.block_lt_of_cell? w _ hw216_7)).trans hw216_7), ((HB.out.cell (World.block_lt_of_cell? w _ hw218_0)).trans hw218_0), ((HB.out.cell (World.block_lt_of_cell? w _ hw218_1)).trans hw218_1), ((HB.out.cell (World.block_lt_of_cell? w _ hw218_2)).trans hw218_2), ((HB.out.cell (World.block_lt_of_cell? w _ hw218_3)).trans hw218_3), ((HB.out.cell (World.block_lt_of_cell? w _ hw218_4)).trans hw218_4), ((HB.out.cell (World.block_lt_of_cell? w _ hw218_5)).trans hw218_5), ((HB.out.cell (World.block_lt_of_cell? w _ hw218_6)).trans hw218_6), ((HB.out.cell (World.block_lt_of_cell? w _ hw218_7)).trans hw218_7)⟩ (fun hHeld => ?_)
    clear hK K
    refine no_ ?_
    refine pure_ (i := 19) (N := some 30) (v := ?_) (a' := ?_) (bm 22 1048575) rfl rfl (any_of HT_.out (by kernel_rfl)) (fun _ _ _ h => h) (Or.inl ⟨(by rfl), ?_⟩) ?_ ?_; rotate_left; intro w'; go_simp; with_reducible rfl; rotate_left; simp only [Act.put, List.setIfInBounds_toArray, List.set_cons_zero, List.set_cons_succ, i64_w, i32_w]; rfl
    refine pure_ (i := 20) (N := some 31) (v := ?_) (a' := ?_) (bm 22 2097151) rfl rfl (any_of HT_.out (by kernel_rfl)) (fun _ _ _ h => h) (Or.inl ⟨(by rfl), ?_⟩) ?_ ?_; rotate_left; intro w'; go_simp; with_reducible rfl; rotate_left; simp only [Act.put, List.setIfInBounds_toArray, List.set_cons_zero, List.set_cons_succ, i64_w, i32_w]; rfl
    refine pure_ (i := 21) (N := some 4) (v := ?_) (a' := ?_) (bm 22 4194303) rfl rfl (any_of HT_.out (by kernel_rfl)) (fun _ _ _ h => h) (Or.inl ⟨(by rfl), ?_⟩) ?_ ?_; rotate_left; intro w'; go_simp; with_reducible rfl; rotate_left; simp only [Act.put, List.setIfInBounds_toArray, List.set_cons_zero, List.set_cons_succ, i64_w, i32_w]; rfl
    refine done_ (done_of HT_.out (by kernel_rfl)) ?_
    try go_wp2
    go_ret
    exact ⟨(by first | rfl | (simp [errW_none, errW_some] <;> rfl) | (simp only [← hji10]; first | rfl | (simp [errW_none, errW_some] <;> rfl)) | (simp [*, errW_none, errW_some] <;> rfl)), m0_⟩
   ·rw [if_neg c7] at H
    exact absurd H (by simp)
  ·rw [if_neg c6] at H
   exact absurd H (by simp)

end Go.Proofs.Ytpihcdbkdldbcaa.QFnExactRecGo
namespace Go.Proofs.Ytpihcdbkdldbcaa.QFnExactRecGo
open Go.RowKit Go.Proofs.YtpihcdbkdldbcaaW.PrintWords Go.Proofs.YtpihcdbkdldbcaaW.PrintLast Go.Proofs.YtpihcdbkdldbcaaW.PrintMore
attribute [local go_sem] str_geq str_gtr str_leq max2_int min2_int max_two min_two max_three min_three max_four min_four   -- for this text's walks alone
set_option linter.unusedVariables false
set_option linter.unusedSimpArgs false
mutual
def impl_RecGo.j0 : Nat → List (S44) → Bool → ByteArray → Int → Int → Int → Bool → Option (ByteArray × Int × Int × Bool)
 | 0, _, _, _, _, _, _, _ => none
 | k + 1, x0, x31, x221000, x221001, x221002, x222000, x222001 => if x31 = true then (some (x221000, x221001, x221002, false)) else ((impl_phase.f k x0 x221000).bind fun t225 => (if 0 ≤ t225 then (if t225 < (x0.length : Int) then (if x222001 = true then (impl_RecGo.j1 k x0 (mx 0 x222000) x222001 (((rd_T44 x0 t225).f1) == 3) x221000 x221001 x221002 ((rd_T44 x0 t225).f0) ((rd_T44 x0 t225).f1) ((rd_T44 x0 t225).f2) ((rd_T44 x0 t225).f3) ((rd_T44 x0 t225).f4) ((rd_T44 x0 t225).f5) ((rd_T44 x0 t225).f6) ((rd_T44 x0 t225).f7)) else (impl_RecGo.j1 k x0 (mx 0 x222000) x222001 false x221000 x221001 x221002 ((rd_T44 x0 t225).f0) ((rd_T44 x0 t225).f1) ((rd_T44 x0 t225).f2) ((rd_T44 x0 t225).f3) ((rd_T44 x0 t225).f4) ((rd_T44 x0 t225).f5) ((rd_T44 x0 t225).f6) ((rd_T44 x0 t225).f7))) else (none)) else (none)))
def impl_RecGo.j1 : Nat → List (S44) → Int → Bool → Bool → ByteArray → Int → Int → ByteArray → Int → ByteArray → ByteArray → Int → Int → ByteArray → ByteArray → Option (ByteArray × Int × Int × Bool)
 | 0, _, _, _, _, _, _, _, _, _, _, _, _, _, _, _ => none
 | k + 1, x0, x9, x10, x50, x221000, x221001, x221002, x228000, x228001, x228002, x228003, x228004, x228005, x228006, x228007 => if x50 = true then (impl_RecGo.j2 k x0 (mx x9 x228004) x10 x221000 x221001 x221002 x228000 x228001 x228002 x228003 x228004 x228005 x228006 x228007) else (impl_RecGo.j2 k x0 x9 x10 x221000 x221001 x221002 x228000 x228001 x228002 x228003 x228004 x228005 x228006 x228007)
def impl_RecGo.j2 : Nat → List (S44) → Int → Bool → ByteArray → Int → Int → ByteArray → Int → ByteArray → ByteArray → Int → Int → ByteArray → ByteArray → Option (ByteArray × Int × Int × Bool)
 | 0, _, _, _, _, _, _, _, _, _, _, _, _, _, _ => none
 | k + 1, x0, x9, x10, x221000, x221001, x221002, x228000, x228001, x228002, x228003, x228004, x228005, x228006, x228007 => if x9 > x228005 then (impl_RecGo.j3 k x0 x228005 false x221000 x221001 x221002 x228000 x228001 x228002 x228003 x228004 x228005 x228006 x228007) else (impl_RecGo.j3 k x0 x9 x10 x221000 x221001 x221002 x228000 x228001 x228002 x228003 x228004 x228005 x228006 x228007)
def impl_RecGo.j3 : Nat → List (S44) → Int → Bool → ByteArray → Int → Int → ByteArray → Int → ByteArray → ByteArray → Int → Int → ByteArray → ByteArray → Option (ByteArray × Int × Int × Bool)
 | 0, _, _, _, _, _, _, _, _, _, _, _, _, _, _ => none
 | k + 1, x0, x9, x10, x221000, x221001, x221002, x228000, x228001, x228002, x228003, x228004, x228005, x228006, x228007 => if x10 = true then ((impl_bound.f k x0 x228006).bind fun t228 => (some (x228006, wrap64 (x221001 + x9), t228, true))) else ((impl_bound.f k x0 x228007).bind fun t229 => (some (x228007, wrap64 (x221001 + x9), t229, true)))
end
def impl_RecGo.f (k : Nat) (l0 : List (S44)) (a1_0 : ByteArray) (a1_1 : Int) (a1_2 : Int) (a2_0 : Int) (a2_1 : Bool) : Option (ByteArray × Int × Int × Bool) := (impl_RecOk.f k l0).bind fun t223 => (if t223 = true then ((impl_phase.f k l0 a1_0).bind fun t224 => (if t224 < 0 then (impl_RecGo.j0 k l0 true a1_0 a1_1 a1_2 a2_0 a2_1) else (if a1_1 < 0 then (impl_RecGo.j0 k l0 true a1_0 a1_1 a1_2 a2_0 a2_1) else (impl_RecGo.j0 k l0 (decide (a1_1 > 12000)) a1_0 a1_1 a1_2 a2_0 a2_1)))) else (impl_RecGo.j0 k l0 true a1_0 a1_1 a1_2 a2_0 a2_1))
theorem impl_RecGo.mono_l : ∀ k, (∀ y0 y1 y2 y3 y4 y5 y6, LeO (impl_RecGo.j0 k y0 y1 y2 y3 y4 y5 y6) (impl_RecGo.j0 (k + 1) y0 y1 y2 y3 y4 y5 y6)) ∧ (∀ y0 y1 y2 y3 y4 y5 y6 y7 y8 y9 y10 y11 y12 y13 y14, LeO (impl_RecGo.j1 k y0 y1 y2 y3 y4 y5 y6 y7 y8 y9 y10 y11 y12 y13 y14) (impl_RecGo.j1 (k + 1) y0 y1 y2 y3 y4 y5 y6 y7 y8 y9 y10 y11 y12 y13 y14)) ∧ (∀ y0 y1 y2 y3 y4 y5 y6 y7 y8 y9 y10 y11 y12 y13, LeO (impl_RecGo.j2 k y0 y1 y2 y3 y4 y5 y6 y7 y8 y9 y10 y11 y12 y13) (impl_RecGo.j2 (k + 1) y0 y1 y2 y3 y4 y5 y6 y7 y8 y9 y10 y11 y12 y13)) ∧ (∀ y0 y1 y2 y3 y4 y5 y6 y7 y8 y9 y10 y11 y12 y13, LeO (impl_RecGo.j3 k y0 y1 y2 y3 y4 y5 y6 y7 y8 y9 y10 y11 y12 y13) (impl_RecGo.j3 (k + 1) y0 y1 y2 y3 y4 y5 y6 y7 y8 y9 y10 y11 y12 y13))
 | 0 => ⟨fun _ _ _ _ _ _ _ r h => by simp [impl_RecGo.j0] at h, fun _ _ _ _ _ _ _ _ _ _ _ _ _ _ _ r h => by simp [impl_RecGo.j1] at h, fun _ _ _ _ _ _ _ _ _ _ _ _ _ _ r h => by simp [impl_RecGo.j2] at h, fun _ _ _ _ _ _ _ _ _ _ _ _ _ _ r h => by simp [impl_RecGo.j3] at h⟩
 | k + 1 => by
  obtain ⟨ih0, ih1, ih2, ih3⟩ := impl_RecGo.mono_l k
  refine ⟨?_, ?_, ?_, ?_⟩
  ·intro y0 y1 y2 y3 y4 y5 y6
   unfold impl_RecGo.j0
   repeat' first
   | (with_reducible exact ih0 _ _ _ _ _ _ _)
   | (with_reducible exact ih1 _ _ _ _ _ _ _ _ _ _ _ _ _ _ _)
   | (with_reducible exact ih2 _ _ _ _ _ _ _ _ _ _ _ _ _ _)
   | (with_reducible exact ih3 _ _ _ _ _ _ _ _ _ _ _ _ _ _)
   | (with_reducible exact impl_RecOk.mono _ _)
   | (with_reducible exact impl_bound.mono _ _ _)
   | (with_reducible exact impl_phase.mono _ _ _)
   | (with_reducible exact LeO.refl _)
   | (with_reducible exact LeO.none _)
   | (with_reducible refine LeO.ite ?_ ?_)
   | (with_reducible refine LeO.bind ?_ (fun _ => ?_))
   | exact ih0 _ _ _ _ _ _ _
   | exact ih1 _ _ _ _ _ _ _ _ _ _ _ _ _ _ _
   | exact ih2 _ _ _ _ _ _ _ _ _ _ _ _ _ _
   | exact ih3 _ _ _ _ _ _ _ _ _ _ _ _ _ _
   | exact impl_RecOk.mono _ _
   | exact impl_bound.mono _ _ _
   | exact impl_phase.mono _ _ _
   | exact LeO.none _
   | refine LeO.ite ?_ ?_
   | refine LeO.bind ?_ (fun _ => ?_)
  ·intro y0 y1 y2 y3 y4 y5 y6 y7 y8 y9 y10 y11 y12 y13 y14
   unfold impl_RecGo.j1
   repeat' first
   | (with_reducible exact ih0 _ _ _ _ _ _ _)
   | (with_reducible exact ih1 _ _ _ _ _ _ _ _ _ _ _ _ _ _ _)
   | (with_reducible exact ih2 _ _ _ _ _ _ _ _ _ _ _ _ _ _)
   | (with_reducible exact ih3 _ _ _ _ _ _ _ _ _ _ _ _ _ _)
   | (with_reducible exact impl_RecOk.mono _ _)
   | (with_reducible exact impl_bound.mono _ _ _)
   | (with_reducible exact impl_phase.mono _ _ _)
   | (with_reducible exact LeO.refl _)
   | (with_reducible exact LeO.none _)
   | (with_reducible refine LeO.ite ?_ ?_)
   | (with_reducible refine LeO.bind ?_ (fun _ => ?_))
   | exact ih0 _ _ _ _ _ _ _
   | exact ih1 _ _ _ _ _ _ _ _ _ _ _ _ _ _ _
   | exact ih2 _ _ _ _ _ _ _ _ _ _ _ _ _ _
   | exact ih3 _ _ _ _ _ _ _ _ _ _ _ _ _ _
   | exact impl_RecOk.mono _ _
   | exact impl_bound.mono _ _ _
   | exact impl_phase.mono _ _ _
   | exact LeO.none _
   | refine LeO.ite ?_ ?_
   | refine LeO.bind ?_ (fun _ => ?_)
  ·intro y0 y1 y2 y3 y4 y5 y6 y7 y8 y9 y10 y11 y12 y13
   unfold impl_RecGo.j2
   repeat' first
   | (with_reducible exact ih0 _ _ _ _ _ _ _)
   | (with_reducible exact ih1 _ _ _ _ _ _ _ _ _ _ _ _ _ _ _)
   | (with_reducible exact ih2 _ _ _ _ _ _ _ _ _ _ _ _ _ _)
   | (with_reducible exact ih3 _ _ _ _ _ _ _ _ _ _ _ _ _ _)
   | (with_reducible exact impl_RecOk.mono _ _)
   | (with_reducible exact impl_bound.mono _ _ _)
   | (with_reducible exact impl_phase.mono _ _ _)
   | (with_reducible exact LeO.refl _)
   | (with_reducible exact LeO.none _)
   | (with_reducible refine LeO.ite ?_ ?_)
   | (with_reducible refine LeO.bind ?_ (fun _ => ?_))
   | exact ih0 _ _ _ _ _ _ _
   | exact ih1 _ _ _ _ _ _ _ _ _ _ _ _ _ _ _
   | exact ih2 _ _ _ _ _ _ _ _ _ _ _ _ _ _
   | exact ih3 _ _ _ _ _ _ _ _ _ _ _ _ _ _
   | exact impl_RecOk.mono _ _
   | exact impl_bound.mono _ _ _
   | exact impl_phase.mono _ _ _
   | exact LeO.none _
   | refine LeO.ite ?_ ?_
   | refine LeO.bind ?_ (fun _ => ?_)
  ·intro y0 y1 y2 y3 y4 y5 y6 y7 y8 y9 y10 y11 y12 y13
   unfold impl_RecGo.j3
   repeat' first
   | (with_reducible exact ih0 _ _ _ _ _ _ _)
   | (with_reducible exact ih1 _ _ _ _ _ _ _ _ _ _ _ _ _ _ _)
   | (with_reducible exact ih2 _ _ _ _ _ _ _ _ _ _ _ _ _ _)
   | (with_reducible exact ih3 _ _ _ _ _ _ _ _ _ _ _ _ _ _)
   | (with_reducible exact impl_RecOk.mono _ _)
   | (with_reducible exact impl_bound.mono _ _ _)
   | (with_reducible exact impl_phase.mono _ _ _)
   | (with_reducible exact LeO.refl _)
   | (with_reducible exact LeO.none _)
   | (with_reducible refine LeO.ite ?_ ?_)
   | (with_reducible refine LeO.bind ?_ (fun _ => ?_))
   | exact ih0 _ _ _ _ _ _ _
   | exact ih1 _ _ _ _ _ _ _ _ _ _ _ _ _ _ _
   | exact ih2 _ _ _ _ _ _ _ _ _ _ _ _ _ _
   | exact ih3 _ _ _ _ _ _ _ _ _ _ _ _ _ _
   | exact impl_RecOk.mono _ _
   | exact impl_bound.mono _ _ _
   | exact impl_phase.mono _ _ _
   | exact LeO.none _
   | refine LeO.ite ?_ ?_
   | refine LeO.bind ?_ (fun _ => ?_)
theorem impl_RecGo.mono : ∀ a0 a1 a2 a3 a4 a5 k, LeO (impl_RecGo.f k a0 a1 a2 a3 a4 a5) (impl_RecGo.f (k + 1) a0 a1 a2 a3 a4 a5) := by
 intro a0 a1 a2 a3 a4 a5 k
 obtain ⟨ih0, ih1, ih2, ih3⟩ := impl_RecGo.mono_l k
 unfold impl_RecGo.f
 repeat' first
   | (with_reducible exact ih0 _ _ _ _ _ _ _)
   | (with_reducible exact ih1 _ _ _ _ _ _ _ _ _ _ _ _ _ _ _)
   | (with_reducible exact ih2 _ _ _ _ _ _ _ _ _ _ _ _ _ _)
   | (with_reducible exact ih3 _ _ _ _ _ _ _ _ _ _ _ _ _ _)
   | (with_reducible exact impl_RecOk.mono _ _)
   | (with_reducible exact impl_bound.mono _ _ _)
   | (with_reducible exact impl_phase.mono _ _ _)
   | (with_reducible exact LeO.refl _)
   | (with_reducible exact LeO.none _)
   | (with_reducible refine LeO.ite ?_ ?_)
   | (with_reducible refine LeO.bind ?_ (fun _ => ?_))
   | exact ih0 _ _ _ _ _ _ _
   | exact ih1 _ _ _ _ _ _ _ _ _ _ _ _ _ _ _
   | exact ih2 _ _ _ _ _ _ _ _ _ _ _ _ _ _
   | exact ih3 _ _ _ _ _ _ _ _ _ _ _ _ _ _
   | exact impl_RecOk.mono _ _
   | exact impl_bound.mono _ _ _
   | exact impl_phase.mono _ _ _
   | exact LeO.none _
   | refine LeO.ite ?_ ?_
   | refine LeO.bind ?_ (fun _ => ?_)
def impl_RecGo.T12 : Bool × List (List Nat × List Nat) := (true, [([], []), ([], []), ([1], [1]), ([], []), ([2, 3], [2, 3]), ([], []), ([], []), ([5, 6], [5, 6]), ([0, 4, 7], [0, 4, 7]), ([8, 7, 0, 1, 2, 3, 4, 5, 6, 7, 8], [8]), ([9, 0, 1, 2, 3, 4, 5, 6, 7, 8, 9], [])])
def impl_RecGo.B12 : List Nat := [0, 0, 2, 0, 14, 0, 0, 96, 255, 511, 1023]
theorem impl_RecGo.tab12 : rtab .any (opsOf Try.f13 12) = impl_RecGo.T12 := by kernel_rfl
theorem impl_RecGo.bits12 : waitsOk impl_RecGo.T12.2 impl_RecGo.B12 = true := by kernel_rfl
set_option maxHeartbeats 8000000 in
set_option maxRecDepth 100000 in
theorem impl_RecGo.calls (k : Nat) (A0 : Option Addr) (c0 : Nat) (l0 : List (S44)) (a1_0 : ByteArray) (a1_1 : Int) (a1_2 : Int) (a2_0 : Int) (a2_1 : Bool) (r1 : ByteArray) (r2 : Int) (r3 : Int) (r4 : Bool) (w : World) (hr0 : Kd.C k44 w A0 l0.length l0) (hc0 : l0.length ≤ c0) (h : impl_RecGo.f k l0 a1_0 a1_1 a1_2 a2_0 a2_1 = some (r1, r2, r3, r4)) :
  Calls Try.prog 13 #[.slice A0 l0.length c0, .agg #[.string a1_0, .int .i64 a1_1, .int .i64 a1_2], .agg #[.int .i64 a2_0, .bool a2_1]] w fun e w' => e = .returned (.tuple #[.agg #[.string r1, .int .i64 r2, .int .i64 r3], .bool r4]) ∧ Below w.heap.size w w' := by
 have hu29 := Try.underlying29
 have hu35 := Try.underlying35
 have hu44 := Try.underlying44
 have HR0 := Aside0.mk hr0
 have HC0 := Aside0.mk hc0
 clear hr0 hc0
 have HB := Aside0.mk (Below.refl w.heap.size w)
 have H : ((impl_RecOk.f k l0).bind fun t223 => (if t223 = true then ((impl_phase.f k l0 a1_0).bind fun t224 => (if t224 < 0 then (impl_RecGo.j0 k l0 true a1_0 a1_1 a1_2 a2_0 a2_1) else (if a1_1 < 0 then (impl_RecGo.j0 k l0 true a1_0 a1_1 a1_2 a2_0 a2_1) else (impl_RecGo.j0 k l0 (decide (a1_1 > 12000)) a1_0 a1_1 a1_2 a2_0 a2_1)))) else (impl_RecGo.j0 k l0 true a1_0 a1_1 a1_2 a2_0 a2_1))) = some (r1, r2, r3, r4) := h
 clear h
 have HC4 := Aside0.mk H
 clear H
 go_enter Try.func13, Try.ntmps13
 go_upto_region 1 with (first | ((with_reducible refine gate_dst (N := 4) rfl ?_); refine box_event ?hg (N := 4) ?hd (cs := #[.string a1_0, .int .i64 a1_1, .int .i64 a1_2]) (t := 29) ?hr ?_; (case hd => rfl); (case hg => rfl); (case hr => first | (go_simp; done) | (go_simp; rfl)); intro gb220 hg w5 hbox hb; have n0_ := Aside0.mk (below_step m0_ hb); have n1_ := Aside0.mk (hbox); have n2_ := Aside0.mk ((by rw [hg]; exact (below_size m0_) : w.heap.size ≤ gb220)); have n3_ := Aside0.mk ((by rw [hg]; exact (below_size m0_) : w.heap.size ≤ gb220)); clear HB; have HB := n0_; have BK220 := n1_; have GW220 := n2_; have GE220 := n3_; clear n0_ n1_ n2_ n3_; clear hb hbox hg) | ((with_reducible refine gate_dst (N := 5) rfl ?_); refine box_event ?hg (N := 5) ?hd (cs := #[.int .i64 a2_0, .bool a2_1]) (t := 35) ?hr ?_; (case hd => rfl); (case hg => rfl); (case hr => first | (go_simp; done) | (go_simp; rfl)); intro gb221 hg w6 hbox hb; have n0_ := Aside0.mk (blk_below (g := gb220) (o := .cells #[.string a1_0, .int .i64 a1_1, .int .i64 a1_2] 29 (0, 0)) m14_ hb); have n1_ := Aside0.mk (below_step m69_ hb); have n2_ := Aside0.mk (hbox); have n3_ := Aside0.mk ((by rw [hg]; exact (below_size m69_) : w.heap.size ≤ gb221)); have n4_ := Aside0.mk ((by rw [hg]; exact (below_size m69_) : w.heap.size ≤ gb221)); have n5_ := Aside0.mk ((by rw [hg]; exact Nat.ne_of_lt (blk_lt (g := gb220) (o := .cells #[.string a1_0, .int .i64 a1_1, .int .i64 a1_2] 29 (0, 0)) m14_) : gb220 ≠ gb221)); have n6_ := Aside0.mk ((by rw [hg]; exact Nat.ne_of_gt (blk_lt (g := gb220) (o := .cells #[.string a1_0, .int .i64 a1_1, .int .i64 a1_2] 29 (0, 0)) m14_) : gb221 ≠ gb220)); clear BK220; clear HB; have BK220 := n0_; have HB := n1_; have BK221 := n2_; have GW221 := n3_; have GE221 := n4_; have NB220_221 := n5_; have NB221_220 := n6_; clear n0_ n1_ n2_ n3_ n4_ n5_ n6_; clear hb hbox hg) | ((with_reducible refine gate_dst (N := 6) rfl ?_); refine box_event ?hg (N := 6) ?hd (cs := #[.string (⟨#[]⟩ : ByteArray), .int .i64 0, .int .i64 0]) (t := 29) ?hr ?_; (case hd => rfl); (case hg => rfl); (case hr => first | (go_simp; done) | (go_simp; rfl)); intro gb222 hg w7 hbox hb; have n0_ := Aside0.mk (blk_below (g := gb220) (o := .cells #[.string a1_0, .int .i64 a1_1, .int .i64 a1_2] 29 (0, 0)) m14_ hb); have n1_ := Aside0.mk (blk_below (g := gb221) (o := .cells #[.int .i64 a2_0, .bool a2_1] 35 (0, 0)) m17_ hb); have n2_ := Aside0.mk (below_step m60_ hb); have n3_ := Aside0.mk (hbox); have n4_ := Aside0.mk ((by rw [hg]; exact (below_size m60_) : w.heap.size ≤ gb222)); have n5_ := Aside0.mk ((by rw [hg]; exact (below_size m60_) : w.heap.size ≤ gb222)); have n6_ := Aside0.mk ((by rw [hg]; exact Nat.ne_of_lt (blk_lt (g := gb220) (o := .cells #[.string a1_0, .int .i64 a1_1, .int .i64 a1_2] 29 (0, 0)) m14_) : gb220 ≠ gb222)); have n7_ := Aside0.mk ((by rw [hg]; exact Nat.ne_of_gt (blk_lt (g := gb220) (o := .cells #[.string a1_0, .int .i64 a1_1, .int .i64 a1_2] 29 (0, 0)) m14_) : gb222 ≠ gb220)); have n8_ := Aside0.mk ((by rw [hg]; exact Nat.ne_of_lt (blk_lt (g := gb221) (o := .cells #[.int .i64 a2_0, .bool a2_1] 35 (0, 0)) m17_) : gb221 ≠ gb222)); have n9_ := Aside0.mk ((by rw [hg]; exact Nat.ne_of_gt (blk_lt (g := gb221) (o := .cells #[.int .i64 a2_0, .bool a2_1] 35 (0, 0)) m17_) : gb222 ≠ gb221)); clear BK220; clear BK221; clear HB; have BK220 := n0_; have BK221 := n1_; have HB := n2_; have BK222 := n3_; have GW222 := n4_; have GE222 := n5_; have NB220_222 := n6_; have NB222_220 := n7_; have NB221_222 := n8_; have NB222_221 := n9_; clear n0_ n1_ n2_ n3_ n4_ n5_ n6_ n7_ n8_ n9_; clear hb hbox hg))
 (try simp only [Act.put, List.setIfInBounds_toArray, List.set_cons_zero, List.set_cons_succ])
 go_cut [31] (fun v31 wc => ∃ (kq : Nat) (x31_3 : Bool), v31 = .bool x31_3 ∧ Aside0 (impl_RecGo.j0 kq l0 x31_3 a1_0 a1_1 a1_2 a2_0 a2_1 = some (r1, r2, r3, r4)) ∧ Aside0 (kq ≤ k) ∧ Aside0 (wc.heap[gb220]? = some (.cells #[.string a1_0, .int .i64 a1_1, .int .i64 a1_2] 29 (0, 0))) ∧ Aside0 (wc.heap[gb221]? = some (.cells #[.int .i64 a2_0, .bool a2_1] 35 (0, 0))) ∧ Aside0 (wc.heap[gb222]? = some (.cells #[.string (⟨#[]⟩ : ByteArray), .int .i64 0, .int .i64 0] 29 (0, 0))) ∧ Aside0 (Below w.heap.size w wc))
 case first =>
  have H := HC4.out
  clear HC4
  replace H := Option.bind_eq_some_iff.mp H
  obtain ⟨t223, A80, H⟩ := H
  replace H : (if t223 = true then ((impl_phase.f k l0 a1_0).bind fun t224 => (if t224 < 0 then (impl_RecGo.j0 k l0 true a1_0 a1_1 a1_2 a2_0 a2_1) else (if a1_1 < 0 then (impl_RecGo.j0 k l0 true a1_0 a1_1 a1_2 a2_0 a2_1) else (impl_RecGo.j0 k l0 (decide (a1_1 > 12000)) a1_0 a1_1 a1_2 a2_0 a2_1)))) else (impl_RecGo.j0 k l0 true a1_0 a1_1 a1_2 a2_0 a2_1)) = some (r1, r2, r3, r4) := H
  have A8 := Aside0.mk A80
  clear A80
  refine (Classical.em (t223 = true)).elim (fun c9 => ?yes65) (fun c9 => ?no65)
  case' yes65 =>
   subst c9
   have H1 : ((impl_phase.f k l0 a1_0).bind fun t224 => (if t224 < 0 then (impl_RecGo.j0 k l0 true a1_0 a1_1 a1_2 a2_0 a2_1) else (if a1_1 < 0 then (impl_RecGo.j0 k l0 true a1_0 a1_1 a1_2 a2_0 a2_1) else (impl_RecGo.j0 k l0 (decide (a1_1 > 12000)) a1_0 a1_1 a1_2 a2_0 a2_1)))) = some (r1, r2, r3, r4) := by rw [if_pos rfl] at H; exact H
   clear H
   have H := H1
   clear H1
   replace H := Option.bind_eq_some_iff.mp H
   obtain ⟨t224, A100, H⟩ := H
   replace H : (if t224 < 0 then (impl_RecGo.j0 k l0 true a1_0 a1_1 a1_2 a2_0 a2_1) else (if a1_1 < 0 then (impl_RecGo.j0 k l0 true a1_0 a1_1 a1_2 a2_0 a2_1) else (impl_RecGo.j0 k l0 (decide (a1_1 > 12000)) a1_0 a1_1 a1_2 a2_0 a2_1))) = some (r1, r2, r3, r4) := H
   have A10 := Aside0.mk A100
   clear A100
   refine (Classical.em (t224 < 0)).elim (fun c11 => ?yes66) (fun c11 => ?no66)
   case' yes66 =>
    rw [if_pos c11] at H
    have c11b0 : decide (t224 < 0) = true := decide_eq_true c11
    clear c11
    (first | rw [c11b0] | (simp only [i64_w, i32_w]; rw [c11b0]) | skip)
    have H' := Aside0.mk H
    clear H
   case' no66 =>
    rw [if_neg c11] at H
    have c11b0 : decide (t224 < 0) = false := decide_eq_false c11
    clear c11
    (first | rw [c11b0] | (simp only [i64_w, i32_w]; rw [c11b0]) | skip)
    refine (Classical.em (a1_1 < 0)).elim (fun c17 => ?yes67) (fun c17 => ?no67)
    case' yes67 =>
     rw [if_pos c17] at H
     have c17b0 : decide (a1_1 < 0) = true := decide_eq_true c17
     clear c17
     have H' := Aside0.mk H
     clear H
    case' no67 =>
     rw [if_neg c17] at H
     have c17b0 : decide (a1_1 < 0) = false := decide_eq_false c17
     clear c17
     have H' := Aside0.mk H
     clear H
  case' no65 =>
   replace c9 := Bool.eq_false_iff.mpr c9
   subst c9
   have H1 : (impl_RecGo.j0 k l0 true a1_0 a1_1 a1_2 a2_0 a2_1) = some (r1, r2, r3, r4) := by rw [if_neg (show ¬ (false = true) by decide)] at H; exact H
   clear H
   have H := H1
   clear H1
   have H' := Aside0.mk H
   clear H
  all_goals
   first
    | (
     go_wp2_with (first | ((with_reducible refine gate_callee (f := 35) rfl ?_); refine goesL_ (some 13) rfl rfl Try.func35 (by kernel_rfl) rfl #[.slice A0 l0.length c0] rfl m1_ ?_; (with_reducible refine (impl_RecOk.calls k _ _ l0 _ _ ?side1 ?side2 (Aside0.out (by assumption))).mono ?_); (case side1 => exact m12_); (case side2 => exact HC0.out); rintro e w12 ⟨rfl, hb⟩; refine ⟨_, rfl, ?_⟩; have n0_ := Aside0.mk (blk_below (g := gb220) (o := .cells #[.string a1_0, .int .i64 a1_1, .int .i64 a1_2] 29 (0, 0)) m14_ hb); have n1_ := Aside0.mk (blk_below (g := gb221) (o := .cells #[.int .i64 a2_0, .bool a2_1] 35 (0, 0)) m17_ hb); have n2_ := Aside0.mk (blk_below (g := gb222) (o := .cells #[.string (⟨#[]⟩ : ByteArray), .int .i64 0, .int .i64 0] 29 (0, 0)) m21_ hb); have n3_ := Aside0.mk (below_step m16_ hb); clear BK220; clear BK221; clear BK222; clear HB; have BK220 := n0_; have BK221 := n1_; have BK222 := n2_; have HB := n3_; clear n0_ n1_ n2_ n3_; (try clear hb); (try clear hb2); (try clear hk); (try clear hi); have hnb13 := NB220_221.out; have hnc13 := NB221_220.out; have hnb14 := NB220_222.out; have hnc14 := NB222_220.out; obtain ⟨hcz15_0, hcz15_1, hcz15_2⟩ := cz3_ BK220.out; obtain ⟨hfz15_0, hfz15_1, hfz15_2⟩ := fz3_ BK220.out) | (go_at_call 36; (with_reducible refine (impl_phase.calls k _ _ l0 a1_0 _ _ ?side1 ?side2 (Aside0.out (by assumption))).mono ?_); (case side1 => exact m12_); (case side2 => exact HC0.out); rintro e w16 ⟨rfl, hb⟩; have n0_ := Aside0.mk (blk_below (g := gb220) (o := .cells #[.string a1_0, .int .i64 a1_1, .int .i64 a1_2] 29 (0, 0)) m14_ hb); have n1_ := Aside0.mk (blk_below (g := gb221) (o := .cells #[.int .i64 a2_0, .bool a2_1] 35 (0, 0)) m17_ hb); have n2_ := Aside0.mk (blk_below (g := gb222) (o := .cells #[.string (⟨#[]⟩ : ByteArray), .int .i64 0, .int .i64 0] 29 (0, 0)) m21_ hb); have n3_ := Aside0.mk (below_step m16_ hb); clear BK220; clear BK221; clear BK222; clear HB; have BK220 := n0_; have BK221 := n1_; have BK222 := n2_; have HB := n3_; clear n0_ n1_ n2_ n3_; (try clear hb); (try clear hb2); (try clear hk); (try clear hi)))
     go_meet
     case rel => exact ⟨_, _, m11_, H', ⟨m42_⟩, ⟨m14_⟩, ⟨m17_⟩, ⟨m21_⟩, ⟨m16_⟩⟩)
    | (
     go_wp2_with (first | ((with_reducible refine gate_callee (f := 35) rfl ?_); refine goesL_ (some 13) rfl rfl Try.func35 (by kernel_rfl) rfl #[.slice A0 l0.length c0] rfl m1_ ?_; (with_reducible refine (impl_RecOk.calls k _ _ l0 _ _ ?side1 ?side2 (Aside0.out (by assumption))).mono ?_); (case side1 => exact m12_); (case side2 => exact HC0.out); rintro e w18 ⟨rfl, hb⟩; refine ⟨_, rfl, ?_⟩; have n0_ := Aside0.mk (blk_below (g := gb220) (o := .cells #[.string a1_0, .int .i64 a1_1, .int .i64 a1_2] 29 (0, 0)) m14_ hb); have n1_ := Aside0.mk (blk_below (g := gb221) (o := .cells #[.int .i64 a2_0, .bool a2_1] 35 (0, 0)) m17_ hb); have n2_ := Aside0.mk (blk_below (g := gb222) (o := .cells #[.string (⟨#[]⟩ : ByteArray), .int .i64 0, .int .i64 0] 29 (0, 0)) m21_ hb); have n3_ := Aside0.mk (below_step m16_ hb); clear BK220; clear BK221; clear BK222; clear HB; have BK220 := n0_; have BK221 := n1_; have BK222 := n2_; have HB := n3_; clear n0_ n1_ n2_ n3_; (try clear hb); (try clear hb2); (try clear hk); (try clear hi); have hnb19 := NB220_221.out; have hnc19 := NB221_220.out; have hnb20 := NB220_222.out; have hnc20 := NB222_220.out; obtain ⟨hcz21_0, hcz21_1, hcz21_2⟩ := cz3_ BK220.out; obtain ⟨hfz21_0, hfz21_1, hfz21_2⟩ := fz3_ BK220.out) | (go_at_call 36; (with_reducible refine (impl_phase.calls k _ _ l0 a1_0 _ _ ?side1 ?side2 (Aside0.out (by assumption))).mono ?_); (case side1 => exact m12_); (case side2 => exact HC0.out); rintro e w22 ⟨rfl, hb⟩; have n0_ := Aside0.mk (blk_below (g := gb220) (o := .cells #[.string a1_0, .int .i64 a1_1, .int .i64 a1_2] 29 (0, 0)) m14_ hb); have n1_ := Aside0.mk (blk_below (g := gb221) (o := .cells #[.int .i64 a2_0, .bool a2_1] 35 (0, 0)) m17_ hb); have n2_ := Aside0.mk (blk_below (g := gb222) (o := .cells #[.string (⟨#[]⟩ : ByteArray), .int .i64 0, .int .i64 0] 29 (0, 0)) m21_ hb); have n3_ := Aside0.mk (below_step m16_ hb); clear BK220; clear BK221; clear BK222; clear HB; have BK220 := n0_; have BK221 := n1_; have BK222 := n2_; have HB := n3_; clear n0_ n1_ n2_ n3_; (try clear hb); (try clear hb2); (try clear hk); (try clear hi); obtain ⟨hcz23_0, hcz23_1, hcz23_2⟩ := cz3_ BK220.out; obtain ⟨hfz23_0, hfz23_1, hfz23_2⟩ := fz3_ BK220.out))
     go_meet
     case rel => exact ⟨_, _, m11_, H', ⟨m42_⟩, ⟨m14_⟩, ⟨m17_⟩, ⟨m21_⟩, ⟨m16_⟩⟩)
    | (
     go_wp2_with (first | ((with_reducible refine gate_callee (f := 35) rfl ?_); refine goesL_ (some 13) rfl rfl Try.func35 (by kernel_rfl) rfl #[.slice A0 l0.length c0] rfl m1_ ?_; (with_reducible refine (impl_RecOk.calls k _ _ l0 _ _ ?side1 ?side2 (Aside0.out (by assumption))).mono ?_); (case side1 => exact m12_); (case side2 => exact HC0.out); rintro e w30 ⟨rfl, hb⟩; refine ⟨_, rfl, ?_⟩; have n0_ := Aside0.mk (blk_below (g := gb220) (o := .cells #[.string a1_0, .int .i64 a1_1, .int .i64 a1_2] 29 (0, 0)) m14_ hb); have n1_ := Aside0.mk (blk_below (g := gb221) (o := .cells #[.int .i64 a2_0, .bool a2_1] 35 (0, 0)) m17_ hb); have n2_ := Aside0.mk (blk_below (g := gb222) (o := .cells #[.string (⟨#[]⟩ : ByteArray), .int .i64 0, .int .i64 0] 29 (0, 0)) m21_ hb); have n3_ := Aside0.mk (below_step m16_ hb); clear BK220; clear BK221; clear BK222; clear HB; have BK220 := n0_; have BK221 := n1_; have BK222 := n2_; have HB := n3_; clear n0_ n1_ n2_ n3_; (try clear hb); (try clear hb2); (try clear hk); (try clear hi)))
     go_meet
     case rel => exact ⟨_, _, m11_, H', ⟨m42_⟩, ⟨m14_⟩, ⟨m17_⟩, ⟨m21_⟩, ⟨m16_⟩⟩)
 case rest =>
  clear HC4
  try clear c1
  try clear c2
  try clear p2
  try clear c3
  try clear c9
  try clear c11
  try clear c11b0
  try clear c13
  try clear c14
  try clear c17
  try clear c17b0
  try clear c19
  try clear c20
  try clear c25
  try clear c26
  try clear hcz15_0
  try clear hcz15_1
  try clear hcz15_2
  try clear hcz21_0
  try clear hcz21_1
  try clear hcz21_2
  try clear hcz23_0
  try clear hcz23_1
  try clear hcz23_2
  try clear hcz27_0
  try clear hcz27_1
  try clear hcz27_2
  try clear hcz29_0
  try clear hcz29_1
  try clear hcz29_2
  try clear hfz15_0
  try clear hfz15_1
  try clear hfz15_2
  try clear hfz21_0
  try clear hfz21_1
  try clear hfz21_2
  try clear hfz23_0
  try clear hfz23_1
  try clear hfz23_2
  try clear hfz27_0
  try clear hfz27_1
  try clear hfz27_2
  try clear hfz29_0
  try clear hfz29_1
  try clear hfz29_2
  obtain ⟨kq, x31_3, rfl, HA, HJ3, BK220, BK221, BK222, HB⟩ := hcut
  cases kq with
  | zero => exact absurd HA.out (by simp [impl_RecGo.j0])
  | succ kj3 =>
   have H := HA.out
   clear HA
   simp only [impl_RecGo.j0] at H
   by_cases c31 : x31_3 = true
   ·subst c31
    have H1 : (some (a1_0, a1_1, a1_2, false)) = some (r1, r2, r3, r4) := by rw [if_pos rfl] at H; exact H
    clear H
    have H := H1
    clear H1
    simp only [Option.some.injEq, Prod.mk.injEq] at H
    obtain ⟨rfl, rfl, rfl, rfl⟩ := H
    have hnb32 := NB220_221.out
    have hnc32 := NB221_220.out
    have hnb33 := NB220_222.out
    have hnc33 := NB222_220.out
    obtain ⟨hcz34_0, hcz34_1, hcz34_2⟩ := cz3_ BK220.out
    obtain ⟨hfz34_0, hfz34_1, hfz34_2⟩ := fz3_ BK220.out
    have hnb35 := NB222_221.out
    have hnc35 := NB221_222.out
    obtain ⟨hcz36_0, hcz36_1, hcz36_2⟩ := cz3_ BK222.out
    obtain ⟨hfz36_0, hfz36_1, hfz36_2⟩ := fz3_ BK222.out
    go_wp2
    refine bodyPost_ret (results_ct rfl _ _ gb222 29 #[.string a1_0, .int .i64 a1_1, .int .i64 a1_2] (0, 0) _ rfl (by (with_reducible repeat (first | refine blk_drewN ?_ _ | refine blk_drew ?_ | refine blk_alloc ?_ _)); refine blk_put (cs := #[.string a1_0, .int .i64 a1_1, .int .i64 0]) ?_ 2 _ rfl; (with_reducible repeat (first | refine blk_drewN ?_ _ | refine blk_drew ?_ | refine blk_alloc ?_ _)); refine blk_put (cs := #[.string a1_0, .int .i64 0, .int .i64 0]) ?_ 1 _ rfl; (with_reducible repeat (first | refine blk_drewN ?_ _ | refine blk_drew ?_ | refine blk_alloc ?_ _)); refine blk_put (cs := #[.string (⟨#[]⟩ : ByteArray), .int .i64 0, .int .i64 0]) ?_ 0 _ rfl; (with_reducible repeat (first | refine blk_drewN ?_ _ | refine blk_drew ?_ | refine blk_alloc ?_ _)); exact BK222.out) Try.underlying29 rfl (by kernel_rfl)) rfl ?_
    exact ⟨m7_, m16_⟩
   ·replace c31 := Bool.eq_false_iff.mpr c31
    subst c31
    have H1 : ((impl_phase.f kj3 l0 a1_0).bind fun t225 => (if 0 ≤ t225 then (if t225 < (l0.length : Int) then (if a2_1 = true then (impl_RecGo.j1 kj3 l0 (mx 0 a2_0) a2_1 (((rd_T44 l0 t225).f1) == 3) a1_0 a1_1 a1_2 ((rd_T44 l0 t225).f0) ((rd_T44 l0 t225).f1) ((rd_T44 l0 t225).f2) ((rd_T44 l0 t225).f3) ((rd_T44 l0 t225).f4) ((rd_T44 l0 t225).f5) ((rd_T44 l0 t225).f6) ((rd_T44 l0 t225).f7)) else (impl_RecGo.j1 kj3 l0 (mx 0 a2_0) a2_1 false a1_0 a1_1 a1_2 ((rd_T44 l0 t225).f0) ((rd_T44 l0 t225).f1) ((rd_T44 l0 t225).f2) ((rd_T44 l0 t225).f3) ((rd_T44 l0 t225).f4) ((rd_T44 l0 t225).f5) ((rd_T44 l0 t225).f6) ((rd_T44 l0 t225).f7))) else (none)) else (none))) = some (r1, r2, r3, r4) := by rw [if_neg (show ¬ (false = true) by decide)] at H; exact H
    clear H
    have H := H1
    clear H1
    replace H := Option.bind_eq_some_iff.mp H
    obtain ⟨t225, A370, H⟩ := H
    replace H : (if 0 ≤ t225 then (if t225 < (l0.length : Int) then (if a2_1 = true then (impl_RecGo.j1 kj3 l0 (mx 0 a2_0) a2_1 (((rd_T44 l0 t225).f1) == 3) a1_0 a1_1 a1_2 ((rd_T44 l0 t225).f0) ((rd_T44 l0 t225).f1) ((rd_T44 l0 t225).f2) ((rd_T44 l0 t225).f3) ((rd_T44 l0 t225).f4) ((rd_T44 l0 t225).f5) ((rd_T44 l0 t225).f6) ((rd_T44 l0 t225).f7)) else (impl_RecGo.j1 kj3 l0 (mx 0 a2_0) a2_1 false a1_0 a1_1 a1_2 ((rd_T44 l0 t225).f0) ((rd_T44 l0 t225).f1) ((rd_T44 l0 t225).f2) ((rd_T44 l0 t225).f3) ((rd_T44 l0 t225).f4) ((rd_T44 l0 t225).f5) ((rd_T44 l0 t225).f6) ((rd_T44 l0 t225).f7))) else (none)) else (none)) = some (r1, r2, r3, r4) := H
    have A37 := Aside0.mk A370
    clear A370
    by_cases c38 : 0 ≤ t225
    ·rw [if_pos c38] at H
     have c38b0 : decide (0 ≤ t225) = true := decide_eq_true c38
     clear c38
     by_cases c39 : t225 < (l0.length : Int)
     ·rw [if_pos c39] at H
      have c39b0 : decide (t225 < (l0.length : Int)) = true := decide_eq_true c39
      clear c39
      obtain ⟨ji40, hji40⟩ : ∃ j_ : Int, (mx 0 a2_0) = j_ := ⟨_, rfl⟩
      replace H : (if a2_1 = true then (impl_RecGo.j1 kj3 l0 ji40 a2_1 (((rd_T44 l0 t225).f1) == 3) a1_0 a1_1 a1_2 ((rd_T44 l0 t225).f0) ((rd_T44 l0 t225).f1) ((rd_T44 l0 t225).f2) ((rd_T44 l0 t225).f3) ((rd_T44 l0 t225).f4) ((rd_T44 l0 t225).f5) ((rd_T44 l0 t225).f6) ((rd_T44 l0 t225).f7)) else (impl_RecGo.j1 kj3 l0 ji40 a2_1 false a1_0 a1_1 a1_2 ((rd_T44 l0 t225).f0) ((rd_T44 l0 t225).f1) ((rd_T44 l0 t225).f2) ((rd_T44 l0 t225).f3) ((rd_T44 l0 t225).f4) ((rd_T44 l0 t225).f5) ((rd_T44 l0 t225).f6) ((rd_T44 l0 t225).f7))) = some (r1, r2, r3, r4) := by first | (rw [hji40] at H; exact H) | (simp only [hji40] at H ⊢; exact H)
      (try rw [hji40] at A37)
      have hji40_ : (if 0 < a2_0 then a2_0 else 0) = ji40 := hji40
      have HC41 := Aside0.mk H
      clear H
      have hnb42 := NB220_221.out
      have hnc42 := NB221_220.out
      have hnb43 := NB220_222.out
      have hnc43 := NB222_220.out
      obtain ⟨hcz44_0, hcz44_1, hcz44_2⟩ := cz3_ BK220.out
      obtain ⟨hfz44_0, hfz44_1, hfz44_2⟩ := fz3_ BK220.out
      try go_wp2_with (first | ((with_reducible refine gate_callee (f := 36) rfl ?_); refine goesL_ (some 37) rfl rfl Try.func36 (by kernel_rfl) rfl #[.slice A0 l0.length c0, .string a1_0] rfl m1_ ?_; (with_reducible refine (impl_phase.calls kj3 _ _ l0 a1_0 t225 _ ?side1 ?side2 A37.out).mono ?_); (case side1 => exact m12_); (case side2 => exact HC0.out); rintro e w45 ⟨rfl, hb⟩; refine ⟨_, rfl, ?_⟩; have n0_ := Aside0.mk (blk_below (g := gb220) (o := .cells #[.string a1_0, .int .i64 a1_1, .int .i64 a1_2] 29 (0, 0)) m14_ hb); have n1_ := Aside0.mk (blk_below (g := gb221) (o := .cells #[.int .i64 a2_0, .bool a2_1] 35 (0, 0)) m17_ hb); have n2_ := Aside0.mk (blk_below (g := gb222) (o := .cells #[.string (⟨#[]⟩ : ByteArray), .int .i64 0, .int .i64 0] 29 (0, 0)) m21_ hb); have n3_ := Aside0.mk (below_step m16_ hb); clear BK220; clear BK221; clear BK222; clear HB; have BK220 := n0_; have BK221 := n1_; have BK222 := n2_; have HB := n3_; clear n0_ n1_ n2_ n3_; (try clear hb); (try clear hb2); (try clear hk); (try clear hi); have p226 : 0 ≤ (t225 : Int) := of_decide_eq_true m8_; have q226 : t225 < (l0.length : Int) := of_decide_eq_true m8_; obtain ⟨ad226, e226, hx226_0, hx226_1, hx226_2, hx226_3, hx226_4, hx226_5, hx226_6, hx226_7⟩ := at_T44 HR0.out t225 p226 q226; cases e226; replace hx226_0 := (HB.out.cell (World.block_lt_of_cell? w _ hx226_0)).trans hx226_0; replace hx226_1 := (HB.out.cell (World.block_lt_of_cell? w _ hx226_1)).trans hx226_1; replace hx226_2 := (HB.out.cell (World.block_lt_of_cell? w _ hx226_2)).trans hx226_2; replace hx226_3 := (HB.out.cell (World.block_lt_of_cell? w _ hx226_3)).trans hx226_3; replace hx226_4 := (HB.out.cell (World.block_lt_of_cell? w _ hx226_4)).trans hx226_4; replace hx226_5 := (HB.out.cell (World.block_lt_of_cell? w _ hx226_5)).trans hx226_5; replace hx226_6 := (HB.out.cell (World.block_lt_of_cell? w _ hx226_6)).trans hx226_6; replace hx226_7 := (HB.out.cell (World.block_lt_of_cell? w _ hx226_7)).trans hx226_7; replace p226 := eq_true p226; replace q226 := eq_true q226) | ((with_reducible refine gate_dst (N := 8) rfl ?_); refine box_event ?hg (N := 8) ?hd (cs := #[.string (⟨#[]⟩ : ByteArray), .int .i64 0, .string (⟨#[]⟩ : ByteArray), .string (⟨#[]⟩ : ByteArray), .int .i64 0, .int .i64 0, .string (⟨#[]⟩ : ByteArray), .string (⟨#[]⟩ : ByteArray)]) (t := 44) ?hr ?_; (case hd => rfl); (case hg => rfl); (case hr => first | (go_simp; done) | (go_simp; rfl)); intro gb227 hg w46 hbox hb; have n0_ := Aside0.mk (blk_below (g := gb220) (o := .cells #[.string a1_0, .int .i64 a1_1, .int .i64 a1_2] 29 (0, 0)) m14_ hb); have n1_ := Aside0.mk (blk_below (g := gb221) (o := .cells #[.int .i64 a2_0, .bool a2_1] 35 (0, 0)) m17_ hb); have n2_ := Aside0.mk (blk_below (g := gb222) (o := .cells #[.string (⟨#[]⟩ : ByteArray), .int .i64 0, .int .i64 0] 29 (0, 0)) m21_ hb); have n3_ := Aside0.mk (below_step m16_ hb); have n4_ := Aside0.mk (hbox); have n5_ := Aside0.mk ((by rw [hg]; exact (below_size m16_) : w.heap.size ≤ gb227)); have n6_ := Aside0.mk ((by rw [hg]; exact (below_size m16_) : w.heap.size ≤ gb227)); have n7_ := Aside0.mk ((by rw [hg]; exact Nat.ne_of_lt (blk_lt (g := gb220) (o := .cells #[.string a1_0, .int .i64 a1_1, .int .i64 a1_2] 29 (0, 0)) m14_) : gb220 ≠ gb227)); have n8_ := Aside0.mk ((by rw [hg]; exact Nat.ne_of_gt (blk_lt (g := gb220) (o := .cells #[.string a1_0, .int .i64 a1_1, .int .i64 a1_2] 29 (0, 0)) m14_) : gb227 ≠ gb220)); have n9_ := Aside0.mk ((by rw [hg]; exact Nat.ne_of_lt (blk_lt (g := gb221) (o := .cells #[.int .i64 a2_0, .bool a2_1] 35 (0, 0)) m17_) : gb221 ≠ gb227)); have n10_ := Aside0.mk ((by rw [hg]; exact Nat.ne_of_gt (blk_lt (g := gb221) (o := .cells #[.int .i64 a2_0, .bool a2_1] 35 (0, 0)) m17_) : gb227 ≠ gb221)); have n11_ := Aside0.mk ((by rw [hg]; exact Nat.ne_of_lt (blk_lt (g := gb222) (o := .cells #[.string (⟨#[]⟩ : ByteArray), .int .i64 0, .int .i64 0] 29 (0, 0)) m21_) : gb222 ≠ gb227)); have n12_ := Aside0.mk ((by rw [hg]; exact Nat.ne_of_gt (blk_lt (g := gb222) (o := .cells #[.string (⟨#[]⟩ : ByteArray), .int .i64 0, .int .i64 0] 29 (0, 0)) m21_) : gb227 ≠ gb222)); clear BK220; clear BK221; clear BK222; clear HB; have BK220 := n0_; have BK221 := n1_; have BK222 := n2_; have HB := n3_; have BK227 := n4_; have GW227 := n5_; have GE227 := n6_; have NB220_227 := n7_; have NB227_220 := n8_; have NB221_227 := n9_; have NB227_221 := n10_; have NB222_227 := n11_; have NB227_222 := n12_; clear n0_ n1_ n2_ n3_ n4_ n5_ n6_ n7_ n8_ n9_ n10_ n11_ n12_; clear hb hbox hg; have hnb47 := NB227_220.out; have hnc47 := NB220_227.out; have hnb48 := NB227_221.out; have hnc48 := NB221_227.out; have hnb49 := NB227_222.out; have hnc49 := NB222_227.out; obtain ⟨hcz50_0, hcz50_1, hcz50_2, hcz50_3, hcz50_4, hcz50_5, hcz50_6, hcz50_7⟩ := cz8_ BK227.out; obtain ⟨hfz50_0, hfz50_1, hfz50_2, hfz50_3, hfz50_4, hfz50_5, hfz50_6, hfz50_7⟩ := fz8_ BK227.out))
      have n0_ : Aside0 (((((((((w46.setCell ⟨gb227, 0, none⟩ (.string ((rd_T44 l0 t225).f0))).setCell ⟨gb227, 1, none⟩ (.int .i64 ((rd_T44 l0 t225).f1))).setCell ⟨gb227, 2, none⟩ (.string ((rd_T44 l0 t225).f2))).setCell ⟨gb227, 3, none⟩ (.string ((rd_T44 l0 t225).f3))).setCell ⟨gb227, 4, none⟩ (.int .i64 ((rd_T44 l0 t225).f4))).setCell ⟨gb227, 5, none⟩ (.int .i64 ((rd_T44 l0 t225).f5))).setCell ⟨gb227, 6, none⟩ (.string ((rd_T44 l0 t225).f6))).setCell ⟨gb227, 7, none⟩ (.string ((rd_T44 l0 t225).f7))).heap[gb220]? = some (.cells #[.string a1_0, .int .i64 a1_1, .int .i64 a1_2] 29 (0, 0))) := ⟨(by (with_reducible repeat (first | refine blk_drewN ?_ _ | refine blk_drew ?_ | refine blk_alloc ?_ _)); refine blk_far ?_ NB220_227.out _; (with_reducible repeat (first | refine blk_drewN ?_ _ | refine blk_drew ?_ | refine blk_alloc ?_ _)); refine blk_far ?_ NB220_227.out _; (with_reducible repeat (first | refine blk_drewN ?_ _ | refine blk_drew ?_ | refine blk_alloc ?_ _)); refine blk_far ?_ NB220_227.out _; (with_reducible repeat (first | refine blk_drewN ?_ _ | refine blk_drew ?_ | refine blk_alloc ?_ _)); refine blk_far ?_ NB220_227.out _; (with_reducible repeat (first | refine blk_drewN ?_ _ | refine blk_drew ?_ | refine blk_alloc ?_ _)); refine blk_far ?_ NB220_227.out _; (with_reducible repeat (first | refine blk_drewN ?_ _ | refine blk_drew ?_ | refine blk_alloc ?_ _)); refine blk_far ?_ NB220_227.out _; (with_reducible repeat (first | refine blk_drewN ?_ _ | refine blk_drew ?_ | refine blk_alloc ?_ _)); refine blk_far ?_ NB220_227.out _; (with_reducible repeat (first | refine blk_drewN ?_ _ | refine blk_drew ?_ | refine blk_alloc ?_ _)); refine blk_far ?_ NB220_227.out _; (with_reducible repeat (first | refine blk_drewN ?_ _ | refine blk_drew ?_ | refine blk_alloc ?_ _)); exact BK220.out)⟩
      have n1_ : Aside0 (((((((((w46.setCell ⟨gb227, 0, none⟩ (.string ((rd_T44 l0 t225).f0))).setCell ⟨gb227, 1, none⟩ (.int .i64 ((rd_T44 l0 t225).f1))).setCell ⟨gb227, 2, none⟩ (.string ((rd_T44 l0 t225).f2))).setCell ⟨gb227, 3, none⟩ (.string ((rd_T44 l0 t225).f3))).setCell ⟨gb227, 4, none⟩ (.int .i64 ((rd_T44 l0 t225).f4))).setCell ⟨gb227, 5, none⟩ (.int .i64 ((rd_T44 l0 t225).f5))).setCell ⟨gb227, 6, none⟩ (.string ((rd_T44 l0 t225).f6))).setCell ⟨gb227, 7, none⟩ (.string ((rd_T44 l0 t225).f7))).heap[gb221]? = some (.cells #[.int .i64 a2_0, .bool a2_1] 35 (0, 0))) := ⟨(by (with_reducible repeat (first | refine blk_drewN ?_ _ | refine blk_drew ?_ | refine blk_alloc ?_ _)); refine blk_far ?_ NB221_227.out _; (with_reducible repeat (first | refine blk_drewN ?_ _ | refine blk_drew ?_ | refine blk_alloc ?_ _)); refine blk_far ?_ NB221_227.out _; (with_reducible repeat (first | refine blk_drewN ?_ _ | refine blk_drew ?_ | refine blk_alloc ?_ _)); refine blk_far ?_ NB221_227.out _; (with_reducible repeat (first | refine blk_drewN ?_ _ | refine blk_drew ?_ | refine blk_alloc ?_ _)); refine blk_far ?_ NB221_227.out _; (with_reducible repeat (first | refine blk_drewN ?_ _ | refine blk_drew ?_ | refine blk_alloc ?_ _)); refine blk_far ?_ NB221_227.out _; (with_reducible repeat (first | refine blk_drewN ?_ _ | refine blk_drew ?_ | refine blk_alloc ?_ _)); refine blk_far ?_ NB221_227.out _; (with_reducible repeat (first | refine blk_drewN ?_ _ | refine blk_drew ?_ | refine blk_alloc ?_ _)); refine blk_far ?_ NB221_227.out _; (with_reducible repeat (first | refine blk_drewN ?_ _ | refine blk_drew ?_ | refine blk_alloc ?_ _)); refine blk_far ?_ NB221_227.out _; (with_reducible repeat (first | refine blk_drewN ?_ _ | refine blk_drew ?_ | refine blk_alloc ?_ _)); exact BK221.out)⟩
      have n2_ : Aside0 (((((((((w46.setCell ⟨gb227, 0, none⟩ (.string ((rd_T44 l0 t225).f0))).setCell ⟨gb227, 1, none⟩ (.int .i64 ((rd_T44 l0 t225).f1))).setCell ⟨gb227, 2, none⟩ (.string ((rd_T44 l0 t225).f2))).setCell ⟨gb227, 3, none⟩ (.string ((rd_T44 l0 t225).f3))).setCell ⟨gb227, 4, none⟩ (.int .i64 ((rd_T44 l0 t225).f4))).setCell ⟨gb227, 5, none⟩ (.int .i64 ((rd_T44 l0 t225).f5))).setCell ⟨gb227, 6, none⟩ (.string ((rd_T44 l0 t225).f6))).setCell ⟨gb227, 7, none⟩ (.string ((rd_T44 l0 t225).f7))).heap[gb222]? = some (.cells #[.string (⟨#[]⟩ : ByteArray), .int .i64 0, .int .i64 0] 29 (0, 0))) := ⟨(by (with_reducible repeat (first | refine blk_drewN ?_ _ | refine blk_drew ?_ | refine blk_alloc ?_ _)); refine blk_far ?_ NB222_227.out _; (with_reducible repeat (first | refine blk_drewN ?_ _ | refine blk_drew ?_ | refine blk_alloc ?_ _)); refine blk_far ?_ NB222_227.out _; (with_reducible repeat (first | refine blk_drewN ?_ _ | refine blk_drew ?_ | refine blk_alloc ?_ _)); refine blk_far ?_ NB222_227.out _; (with_reducible repeat (first | refine blk_drewN ?_ _ | refine blk_drew ?_ | refine blk_alloc ?_ _)); refine blk_far ?_ NB222_227.out _; (with_reducible repeat (first | refine blk_drewN ?_ _ | refine blk_drew ?_ | refine blk_alloc ?_ _)); refine blk_far ?_ NB222_227.out _; (with_reducible repeat (first | refine blk_drewN ?_ _ | refine blk_drew ?_ | refine blk_alloc ?_ _)); refine blk_far ?_ NB222_227.out _; (with_reducible repeat (first | refine blk_drewN ?_ _ | refine blk_drew ?_ | refine blk_alloc ?_ _)); refine blk_far ?_ NB222_227.out _; (with_reducible repeat (first | refine blk_drewN ?_ _ | refine blk_drew ?_ | refine blk_alloc ?_ _)); refine blk_far ?_ NB222_227.out _; (with_reducible repeat (first | refine blk_drewN ?_ _ | refine blk_drew ?_ | refine blk_alloc ?_ _)); exact BK222.out)⟩
      have n3_ : Aside0 (((((((((w46.setCell ⟨gb227, 0, none⟩ (.string ((rd_T44 l0 t225).f0))).setCell ⟨gb227, 1, none⟩ (.int .i64 ((rd_T44 l0 t225).f1))).setCell ⟨gb227, 2, none⟩ (.string ((rd_T44 l0 t225).f2))).setCell ⟨gb227, 3, none⟩ (.string ((rd_T44 l0 t225).f3))).setCell ⟨gb227, 4, none⟩ (.int .i64 ((rd_T44 l0 t225).f4))).setCell ⟨gb227, 5, none⟩ (.int .i64 ((rd_T44 l0 t225).f5))).setCell ⟨gb227, 6, none⟩ (.string ((rd_T44 l0 t225).f6))).setCell ⟨gb227, 7, none⟩ (.string ((rd_T44 l0 t225).f7))).heap[gb227]? = some (.cells #[.string ((rd_T44 l0 t225).f0), .int .i64 ((rd_T44 l0 t225).f1), .string ((rd_T44 l0 t225).f2), .string ((rd_T44 l0 t225).f3), .int .i64 ((rd_T44 l0 t225).f4), .int .i64 ((rd_T44 l0 t225).f5), .string ((rd_T44 l0 t225).f6), .string ((rd_T44 l0 t225).f7)] 44 (0, 0))) := ⟨(by (with_reducible repeat (first | refine blk_drewN ?_ _ | refine blk_drew ?_ | refine blk_alloc ?_ _)); refine blk_put (cs := #[.string ((rd_T44 l0 t225).f0), .int .i64 ((rd_T44 l0 t225).f1), .string ((rd_T44 l0 t225).f2), .string ((rd_T44 l0 t225).f3), .int .i64 ((rd_T44 l0 t225).f4), .int .i64 ((rd_T44 l0 t225).f5), .string ((rd_T44 l0 t225).f6), .string (⟨#[]⟩ : ByteArray)]) ?_ 7 _ rfl; (with_reducible repeat (first | refine blk_drewN ?_ _ | refine blk_drew ?_ | refine blk_alloc ?_ _)); refine blk_put (cs := #[.string ((rd_T44 l0 t225).f0), .int .i64 ((rd_T44 l0 t225).f1), .string ((rd_T44 l0 t225).f2), .string ((rd_T44 l0 t225).f3), .int .i64 ((rd_T44 l0 t225).f4), .int .i64 ((rd_T44 l0 t225).f5), .string (⟨#[]⟩ : ByteArray), .string (⟨#[]⟩ : ByteArray)]) ?_ 6 _ rfl; (with_reducible repeat (first | refine blk_drewN ?_ _ | refine blk_drew ?_ | refine blk_alloc ?_ _)); refine blk_put (cs := #[.string ((rd_T44 l0 t225).f0), .int .i64 ((rd_T44 l0 t225).f1), .string ((rd_T44 l0 t225).f2), .string ((rd_T44 l0 t225).f3), .int .i64 ((rd_T44 l0 t225).f4), .int .i64 0, .string (⟨#[]⟩ : ByteArray), .string (⟨#[]⟩ : ByteArray)]) ?_ 5 _ rfl; (with_reducible repeat (first | refine blk_drewN ?_ _ | refine blk_drew ?_ | refine blk_alloc ?_ _)); refine blk_put (cs := #[.string ((rd_T44 l0 t225).f0), .int .i64 ((rd_T44 l0 t225).f1), .string ((rd_T44 l0 t225).f2), .string ((rd_T44 l0 t225).f3), .int .i64 0, .int .i64 0, .string (⟨#[]⟩ : ByteArray), .string (⟨#[]⟩ : ByteArray)]) ?_ 4 _ rfl; (with_reducible repeat (first | refine blk_drewN ?_ _ | refine blk_drew ?_ | refine blk_alloc ?_ _)); refine blk_put (cs := #[.string ((rd_T44 l0 t225).f0), .int .i64 ((rd_T44 l0 t225).f1), .string ((rd_T44 l0 t225).f2), .string (⟨#[]⟩ : ByteArray), .int .i64 0, .int .i64 0, .string (⟨#[]⟩ : ByteArray), .string (⟨#[]⟩ : ByteArray)]) ?_ 3 _ rfl; (with_reducible repeat (first | refine blk_drewN ?_ _ | refine blk_drew ?_ | refine blk_alloc ?_ _)); refine blk_put (cs := #[.string ((rd_T44 l0 t225).f0), .int .i64 ((rd_T44 l0 t225).f1), .string (⟨#[]⟩ : ByteArray), .string (⟨#[]⟩ : ByteArray), .int .i64 0, .int .i64 0, .string (⟨#[]⟩ : ByteArray), .string (⟨#[]⟩ : ByteArray)]) ?_ 2 _ rfl; (with_reducible repeat (first | refine blk_drewN ?_ _ | refine blk_drew ?_ | refine blk_alloc ?_ _)); refine blk_put (cs := #[.string ((rd_T44 l0 t225).f0), .int .i64 0, .string (⟨#[]⟩ : ByteArray), .string (⟨#[]⟩ : ByteArray), .int .i64 0, .int .i64 0, .string (⟨#[]⟩ : ByteArray), .string (⟨#[]⟩ : ByteArray)]) ?_ 1 _ rfl; (with_reducible repeat (first | refine blk_drewN ?_ _ | refine blk_drew ?_ | refine blk_alloc ?_ _)); refine blk_put (cs := #[.string (⟨#[]⟩ : ByteArray), .int .i64 0, .string (⟨#[]⟩ : ByteArray), .string (⟨#[]⟩ : ByteArray), .int .i64 0, .int .i64 0, .string (⟨#[]⟩ : ByteArray), .string (⟨#[]⟩ : ByteArray)]) ?_ 0 _ rfl; (with_reducible repeat (first | refine blk_drewN ?_ _ | refine blk_drew ?_ | refine blk_alloc ?_ _)); exact BK227.out)⟩
      have n4_ : Aside0 (Below w.heap.size w ((((((((w46.setCell ⟨gb227, 0, none⟩ (.string ((rd_T44 l0 t225).f0))).setCell ⟨gb227, 1, none⟩ (.int .i64 ((rd_T44 l0 t225).f1))).setCell ⟨gb227, 2, none⟩ (.string ((rd_T44 l0 t225).f2))).setCell ⟨gb227, 3, none⟩ (.string ((rd_T44 l0 t225).f3))).setCell ⟨gb227, 4, none⟩ (.int .i64 ((rd_T44 l0 t225).f4))).setCell ⟨gb227, 5, none⟩ (.int .i64 ((rd_T44 l0 t225).f5))).setCell ⟨gb227, 6, none⟩ (.string ((rd_T44 l0 t225).f6))).setCell ⟨gb227, 7, none⟩ (.string ((rd_T44 l0 t225).f7)))) := ⟨m20_⟩
      (try clear BK220)
      (try clear BK221)
      (try clear BK222)
      (try clear BK227)
      (try clear HB)
      generalize ((((((((w46.setCell ⟨gb227, 0, none⟩ (.string ((rd_T44 l0 t225).f0))).setCell ⟨gb227, 1, none⟩ (.int .i64 ((rd_T44 l0 t225).f1))).setCell ⟨gb227, 2, none⟩ (.string ((rd_T44 l0 t225).f2))).setCell ⟨gb227, 3, none⟩ (.string ((rd_T44 l0 t225).f3))).setCell ⟨gb227, 4, none⟩ (.int .i64 ((rd_T44 l0 t225).f4))).setCell ⟨gb227, 5, none⟩ (.int .i64 ((rd_T44 l0 t225).f5))).setCell ⟨gb227, 6, none⟩ (.string ((rd_T44 l0 t225).f6))).setCell ⟨gb227, 7, none⟩ (.string ((rd_T44 l0 t225).f7))) = w51 at n0_ n1_ n2_ n3_ n4_ ⊢
      have BK220 := n0_
      have BK221 := n1_
      have BK222 := n2_
      have BK227 := n3_
      have HB := n4_
      clear n0_ n1_ n2_ n3_ n4_
      have n0_ := Aside0.mk (blk_drew BK220.out)
      have n1_ := Aside0.mk (blk_drew BK221.out)
      have n2_ := Aside0.mk (blk_drew BK222.out)
      have n3_ := Aside0.mk (blk_drew BK227.out)
      have n4_ := Aside0.mk (below_drew1 HB.out)
      clear BK220
      clear BK221
      clear BK222
      clear BK227
      clear HB
      have BK220 := n0_
      have BK221 := n1_
      have BK222 := n2_
      have BK227 := n3_
      have HB := n4_
      clear n0_ n1_ n2_ n3_ n4_
      refine start_ (n := 7) (S := fun w' => w'.cell? ⟨gb221, 0, none⟩ = some (.int .i64 a2_0) ∧ w'.cell? ⟨gb221, 1, none⟩ = some (.bool a2_1)) (ds := []) #[false, false, false, false, false, false, false] (by kernel_rfl) rfl rfl ⟨(blk_cell BK221.out 0).trans rfl, (blk_cell BK221.out 1).trans rfl⟩ (fun hHeld => ?_)
      generalize w51.drew = w52 at BK220 BK221 BK222 BK227 HB hHeld ⊢
      refine pure_ (i := 0) (N := some 40) (v := ?_) (a' := ?_) #[true, false, false, false, false, false, false] rfl rfl (by kernel_rfl) (fun _ _ _ h => h) (Or.inl ⟨(by rfl), ?_⟩) ?_ ?_; rotate_left; intro w'; go_simp; with_reducible rfl; rotate_left; simp only [Act.put, List.setIfInBounds_toArray, List.set_cons_zero, List.set_cons_succ, i64_w, i32_w]; rfl
      refine pure_ (i := 3) (N := some 43) (v := ?_) (a' := ?_) #[true, false, false, true, false, false, false] rfl rfl (by kernel_rfl) (fun _ _ _ h => h) (Or.inl ⟨(by rfl), ?_⟩) ?_ ?_; rotate_left; intro w'; go_simp; with_reducible rfl; rotate_left; simp only [Act.put, List.setIfInBounds_toArray, List.set_cons_zero, List.set_cons_succ, i64_w, i32_w]; rfl
      refine take_ (i := 1) (N := some 41) (v := ?_) (a' := ?_) #[true, true, false, true, false, false, false] rfl rfl (by kernel_rfl) (fun _ _ _ h => h) (Or.inl ⟨(by rfl), ?_⟩) hHeld ?_ ?_; rotate_left; rintro w' ⟨s0, s1⟩; go_simp; with_reducible rfl; rotate_left; simp only [Act.put, List.setIfInBounds_toArray, List.set_cons_zero, List.set_cons_succ, i64_w, i32_w]; rfl
      refine pure_ (i := 2) (N := some 42) (v := ?_) (a' := ?_) #[true, true, true, true, false, false, false] rfl rfl (by kernel_rfl) (fun _ _ _ h => h) (Or.inl ⟨(by rfl), ?_⟩) ?_ ?_; rotate_left; intro w'; go_simp; with_reducible rfl; rotate_left; simp only [Act.put, List.setIfInBounds_toArray, List.set_cons_zero, List.set_cons_succ, i64_w, i32_w]; rfl
      refine pure_ (i := 5) (N := some 9) (v := ?_) (a' := ?_) #[true, true, true, true, false, true, false] rfl rfl (by kernel_rfl) (fun _ _ _ h => h) (Or.inl ⟨(by rfl), ?_⟩) ?_ ?_; rotate_left; intro w'; go_simp; with_reducible rfl; rotate_left; simp only [Act.put, List.setIfInBounds_toArray, List.set_cons_zero, List.set_cons_succ, i64_w, i32_w]; rfl
      refine take_ (i := 4) (N := some 44) (v := ?_) (a' := ?_) #[true, true, true, true, true, true, false] rfl rfl (by kernel_rfl) (fun _ _ _ h => h) (Or.inl ⟨(by rfl), ?_⟩) hHeld ?_ ?_; rotate_left; rintro w' ⟨s0, s1⟩; go_simp; with_reducible rfl; rotate_left; simp only [Act.put, List.setIfInBounds_toArray, List.set_cons_zero, List.set_cons_succ, i64_w, i32_w]; rfl
      refine pure_ (i := 6) (N := some 10) (v := ?_) (a' := ?_) #[true, true, true, true, true, true, true] rfl rfl (by kernel_rfl) (fun _ _ _ h => h) (Or.inl ⟨(by rfl), ?_⟩) ?_ ?_; rotate_left; intro w'; go_simp; with_reducible rfl; rotate_left; simp only [Act.put, List.setIfInBounds_toArray, List.set_cons_zero, List.set_cons_succ, i64_w, i32_w]; rfl
      refine done_ (by kernel_rfl) ?_
      go_upto_region 5 with (fail)
      go_cut [50] (fun v50 wc => ∃ (kq : Nat) (x50_40 : Bool), v50 = .bool x50_40 ∧ Aside0 (impl_RecGo.j1 kq l0 ji40 a2_1 x50_40 a1_0 a1_1 a1_2 ((rd_T44 l0 t225).f0) ((rd_T44 l0 t225).f1) ((rd_T44 l0 t225).f2) ((rd_T44 l0 t225).f3) ((rd_T44 l0 t225).f4) ((rd_T44 l0 t225).f5) ((rd_T44 l0 t225).f6) ((rd_T44 l0 t225).f7) = some (r1, r2, r3, r4)) ∧ Aside0 (kq ≤ kj3) ∧ Aside0 (wc.heap[gb220]? = some (.cells #[.string a1_0, .int .i64 a1_1, .int .i64 a1_2] 29 (0, 0))) ∧ Aside0 (wc.heap[gb221]? = some (.cells #[.int .i64 a2_0, .bool a2_1] 35 (0, 0))) ∧ Aside0 (wc.heap[gb222]? = some (.cells #[.string (⟨#[]⟩ : ByteArray), .int .i64 0, .int .i64 0] 29 (0, 0))) ∧ Aside0 (wc.heap[gb227]? = some (.cells #[.string ((rd_T44 l0 t225).f0), .int .i64 ((rd_T44 l0 t225).f1), .string ((rd_T44 l0 t225).f2), .string ((rd_T44 l0 t225).f3), .int .i64 ((rd_T44 l0 t225).f4), .int .i64 ((rd_T44 l0 t225).f5), .string ((rd_T44 l0 t225).f6), .string ((rd_T44 l0 t225).f7)] 44 (0, 0))) ∧ Aside0 (Below w.heap.size w wc))
      case first =>
       have H := HC41.out
       clear HC41
       by_cases c53 : a2_1 = true
       ·subst c53
        have H1 : (impl_RecGo.j1 kj3 l0 ji40 true (((rd_T44 l0 t225).f1) == 3) a1_0 a1_1 a1_2 ((rd_T44 l0 t225).f0) ((rd_T44 l0 t225).f1) ((rd_T44 l0 t225).f2) ((rd_T44 l0 t225).f3) ((rd_T44 l0 t225).f4) ((rd_T44 l0 t225).f5) ((rd_T44 l0 t225).f6) ((rd_T44 l0 t225).f7)) = some (r1, r2, r3, r4) := by rw [if_pos rfl] at H; exact H
        clear H
        have H := H1
        clear H1
        have H' := Aside0.mk H
        clear H
        have hnb54 := NB227_220.out
        have hnc54 := NB220_227.out
        have hnb55 := NB227_221.out
        have hnc55 := NB221_227.out
        have hnb56 := NB227_222.out
        have hnc56 := NB222_227.out
        obtain ⟨hcz57_0, hcz57_1, hcz57_2, hcz57_3, hcz57_4, hcz57_5, hcz57_6, hcz57_7⟩ := cz8_ BK227.out
        obtain ⟨hfz57_0, hfz57_1, hfz57_2, hfz57_3, hfz57_4, hfz57_5, hfz57_6, hfz57_7⟩ := fz8_ BK227.out
        go_wp2
        go_meet
        case rel => exact ⟨_, ((((rd_T44 l0 t225).f1) == 3)), m11_, H', ⟨(by have := HJ3.out; first | omega | exact Nat.le_refl _)⟩, ⟨m14_⟩, ⟨m17_⟩, ⟨m21_⟩, ⟨m38_⟩, ⟨m20_⟩⟩
       ·replace c53 := Bool.eq_false_iff.mpr c53
        subst c53
        have H1 : (impl_RecGo.j1 kj3 l0 ji40 false false a1_0 a1_1 a1_2 ((rd_T44 l0 t225).f0) ((rd_T44 l0 t225).f1) ((rd_T44 l0 t225).f2) ((rd_T44 l0 t225).f3) ((rd_T44 l0 t225).f4) ((rd_T44 l0 t225).f5) ((rd_T44 l0 t225).f6) ((rd_T44 l0 t225).f7)) = some (r1, r2, r3, r4) := by rw [if_neg (show ¬ (false = true) by decide)] at H; exact H
        clear H
        have H := H1
        clear H1
        have H' := Aside0.mk H
        clear H
        go_wp2
        go_meet
        case rel => exact ⟨_, (false), m11_, H', ⟨(by have := HJ3.out; first | omega | exact Nat.le_refl _)⟩, ⟨m14_⟩, ⟨m17_⟩, ⟨m21_⟩, ⟨m38_⟩, ⟨m20_⟩⟩
      case rest =>
       clear HC41
       try clear c1
       try clear c2
       try clear p2
       try clear q2
       try clear hx2
       try clear c3
       try clear c4
       try clear c5
       try clear c9
       try clear c11
       try clear c11b0
       try clear c13
       try clear c14
       try clear c17
       try clear c17b0
       try clear c19
       try clear c20
       try clear p22
       try clear q22
       try clear hx22
       try clear c25
       try clear c26
       try clear c31
       try clear c32
       try clear c33
       try clear c35
       try clear c36
       try clear c38
       try clear c38b0
       try clear c39
       try clear c39b0
       try clear c42
       try clear c43
       try clear c47
       try clear c48
       try clear c49
       try clear c53
       try clear c54
       try clear c55
       try clear c56
       try clear hcz15_0
       try clear hcz15_1
       try clear hcz15_2
       try clear hcz21_0
       try clear hcz21_1
       try clear hcz21_2
       try clear hcz23_0
       try clear hcz23_1
       try clear hcz23_2
       try clear hcz27_0
       try clear hcz27_1
       try clear hcz27_2
       try clear hcz29_0
       try clear hcz29_1
       try clear hcz29_2
       try clear hcz34_0
       try clear hcz34_1
       try clear hcz34_2
       try clear hcz36_0
       try clear hcz36_1
       try clear hcz36_2
       try clear hcz44_0
       try clear hcz44_1
       try clear hcz44_2
       try clear hcz50_0
       try clear hcz50_1
       try clear hcz50_2
       try clear hcz50_3
       try clear hcz50_4
       try clear hcz50_5
       try clear hcz50_6
       try clear hcz50_7
       try clear hcz57_0
       try clear hcz57_1
       try clear hcz57_2
       try clear hcz57_3
       try clear hcz57_4
       try clear hcz57_5
       try clear hcz57_6
       try clear hcz57_7
       try clear hfz15_0
       try clear hfz15_1
       try clear hfz15_2
       try clear hfz21_0
       try clear hfz21_1
       try clear hfz21_2
       try clear hfz23_0
       try clear hfz23_1
       try clear hfz23_2
       try clear hfz27_0
       try clear hfz27_1
       try clear hfz27_2
       try clear hfz29_0
       try clear hfz29_1
       try clear hfz29_2
       try clear hfz34_0
       try clear hfz34_1
       try clear hfz34_2
       try clear hfz36_0
       try clear hfz36_1
       try clear hfz36_2
       try clear hfz44_0
       try clear hfz44_1
       try clear hfz44_2
       try clear hfz50_0
       try clear hfz50_1
       try clear hfz50_2
       try clear hfz50_3
       try clear hfz50_4
       try clear hfz50_5
       try clear hfz50_6
       try clear hfz50_7
       try clear hfz57_0
       try clear hfz57_1
       try clear hfz57_2
       try clear hfz57_3
       try clear hfz57_4
       try clear hfz57_5
       try clear hfz57_6
       try clear hfz57_7
       try clear hx226_0
       try clear hx226_1
       try clear hx226_2
       try clear hx226_3
       try clear hx226_4
       try clear hx226_5
       try clear hx226_6
       try clear hx226_7
       try clear p2
       try clear p226
       try clear q226
       obtain ⟨kq, x50_40, rfl, HA, HJ40, BK220, BK221, BK222, BK227, HB⟩ := hcut
       cases kq with
       | zero => exact absurd HA.out (by simp [impl_RecGo.j1])
       | succ kj40 =>
        have H := HA.out
        clear HA
        simp only [impl_RecGo.j1] at H
        have HC58 := Aside0.mk H
        clear H
        go_upto_if 50 with (fail)
        go_cut [9] (fun v9 wc => ∃ (kq : Nat) (x9_57 : Int), v9 = .int .i64 x9_57 ∧ Aside0 (impl_RecGo.j2 kq l0 x9_57 a2_1 a1_0 a1_1 a1_2 ((rd_T44 l0 t225).f0) ((rd_T44 l0 t225).f1) ((rd_T44 l0 t225).f2) ((rd_T44 l0 t225).f3) ((rd_T44 l0 t225).f4) ((rd_T44 l0 t225).f5) ((rd_T44 l0 t225).f6) ((rd_T44 l0 t225).f7) = some (r1, r2, r3, r4)) ∧ Aside0 (kq ≤ kj40) ∧ Aside0 (wc.heap[gb220]? = some (.cells #[.string a1_0, .int .i64 a1_1, .int .i64 a1_2] 29 (0, 0))) ∧ Aside0 (wc.heap[gb221]? = some (.cells #[.int .i64 a2_0, .bool a2_1] 35 (0, 0))) ∧ Aside0 (wc.heap[gb222]? = some (.cells #[.string (⟨#[]⟩ : ByteArray), .int .i64 0, .int .i64 0] 29 (0, 0))) ∧ Aside0 (wc.heap[gb227]? = some (.cells #[.string ((rd_T44 l0 t225).f0), .int .i64 ((rd_T44 l0 t225).f1), .string ((rd_T44 l0 t225).f2), .string ((rd_T44 l0 t225).f3), .int .i64 ((rd_T44 l0 t225).f4), .int .i64 ((rd_T44 l0 t225).f5), .string ((rd_T44 l0 t225).f6), .string ((rd_T44 l0 t225).f7)] 44 (0, 0))) ∧ Aside0 (Below w.heap.size w wc))
        case first =>
         have H := HC58.out
         clear HC58
         by_cases c59 : x50_40 = true
         ·subst c59
          have H1 : (impl_RecGo.j2 kj40 l0 (mx ji40 ((rd_T44 l0 t225).f4)) a2_1 a1_0 a1_1 a1_2 ((rd_T44 l0 t225).f0) ((rd_T44 l0 t225).f1) ((rd_T44 l0 t225).f2) ((rd_T44 l0 t225).f3) ((rd_T44 l0 t225).f4) ((rd_T44 l0 t225).f5) ((rd_T44 l0 t225).f6) ((rd_T44 l0 t225).f7)) = some (r1, r2, r3, r4) := by rw [if_pos rfl] at H; exact H
          clear H
          have H := H1
          clear H1
          obtain ⟨ji60, hji60⟩ : ∃ j_ : Int, (mx ji40 ((rd_T44 l0 t225).f4)) = j_ := ⟨_, rfl⟩
          replace H : (impl_RecGo.j2 kj40 l0 ji60 a2_1 a1_0 a1_1 a1_2 ((rd_T44 l0 t225).f0) ((rd_T44 l0 t225).f1) ((rd_T44 l0 t225).f2) ((rd_T44 l0 t225).f3) ((rd_T44 l0 t225).f4) ((rd_T44 l0 t225).f5) ((rd_T44 l0 t225).f6) ((rd_T44 l0 t225).f7)) = some (r1, r2, r3, r4) := by first | (rw [hji60] at H; exact H) | (simp only [hji60] at H ⊢; exact H)
          have hji60_ : (if ji40 < ((rd_T44 l0 t225).f4) then ((rd_T44 l0 t225).f4) else ji40) = ji60 := hji60
          have H' := Aside0.mk H
          clear H
          have hnb61 := NB227_220.out
          have hnc61 := NB220_227.out
          have hnb62 := NB227_221.out
          have hnc62 := NB221_227.out
          have hnb63 := NB227_222.out
          have hnc63 := NB222_227.out
          obtain ⟨hcz64_0, hcz64_1, hcz64_2, hcz64_3, hcz64_4, hcz64_5, hcz64_6, hcz64_7⟩ := cz8_ BK227.out
          obtain ⟨hfz64_0, hfz64_1, hfz64_2, hfz64_3, hfz64_4, hfz64_5, hfz64_6, hfz64_7⟩ := fz8_ BK227.out
          go_wp2
          go_meet
          case rel => exact ⟨_, (ji60), (by first | rfl | (simp; done) | (simp only [← hji60] <;> (first | rfl | simp)) | (simp [*]; done)), H', ⟨(by have := HJ3.out; have := HJ40.out; first | omega | exact Nat.le_refl _)⟩, ⟨m14_⟩, ⟨m17_⟩, ⟨m21_⟩, ⟨m38_⟩, ⟨m20_⟩⟩
         ·replace c59 := Bool.eq_false_iff.mpr c59
          subst c59
          have H1 : (impl_RecGo.j2 kj40 l0 ji40 a2_1 a1_0 a1_1 a1_2 ((rd_T44 l0 t225).f0) ((rd_T44 l0 t225).f1) ((rd_T44 l0 t225).f2) ((rd_T44 l0 t225).f3) ((rd_T44 l0 t225).f4) ((rd_T44 l0 t225).f5) ((rd_T44 l0 t225).f6) ((rd_T44 l0 t225).f7)) = some (r1, r2, r3, r4) := by rw [if_neg (show ¬ (false = true) by decide)] at H; exact H
          clear H
          have H := H1
          clear H1
          have H' := Aside0.mk H
          clear H
          go_wp2
          go_meet
          case rel => exact ⟨_, (ji40), (by first | rfl | (simp; done) | (simp only [← hji40] <;> (first | rfl | simp)) | (simp [*]; done)), H', ⟨(by have := HJ3.out; have := HJ40.out; first | omega | exact Nat.le_refl _)⟩, ⟨m14_⟩, ⟨m17_⟩, ⟨m21_⟩, ⟨m38_⟩, ⟨m20_⟩⟩
        case rest =>
         clear HC58
         try clear c1
         try clear c2
         try clear p2
         try clear q2
         try clear hx2
         try clear c3
         try clear c4
         try clear c5
         try clear c6
         try clear c9
         try clear c11
         try clear c11b0
         try clear c13
         try clear c14
         try clear c17
         try clear c17b0
         try clear c19
         try clear c20
         try clear p22
         try clear q22
         try clear hx22
         try clear c25
         try clear c26
         try clear c31
         try clear c32
         try clear c33
         try clear c35
         try clear c36
         try clear c38
         try clear c38b0
         try clear c39
         try clear c39b0
         try clear c42
         try clear c43
         try clear c47
         try clear c48
         try clear c49
         try clear c53
         try clear c54
         try clear c55
         try clear c56
         try clear c59
         try clear c61
         try clear c62
         try clear c63
         try clear hcz15_0
         try clear hcz15_1
         try clear hcz15_2
         try clear hcz21_0
         try clear hcz21_1
         try clear hcz21_2
         try clear hcz23_0
         try clear hcz23_1
         try clear hcz23_2
         try clear hcz27_0
         try clear hcz27_1
         try clear hcz27_2
         try clear hcz29_0
         try clear hcz29_1
         try clear hcz29_2
         try clear hcz34_0
         try clear hcz34_1
         try clear hcz34_2
         try clear hcz36_0
         try clear hcz36_1
         try clear hcz36_2
         try clear hcz44_0
         try clear hcz44_1
         try clear hcz44_2
         try clear hcz50_0
         try clear hcz50_1
         try clear hcz50_2
         try clear hcz50_3
         try clear hcz50_4
         try clear hcz50_5
         try clear hcz50_6
         try clear hcz50_7
         try clear hcz57_0
         try clear hcz57_1
         try clear hcz57_2
         try clear hcz57_3
         try clear hcz57_4
         try clear hcz57_5
         try clear hcz57_6
         try clear hcz57_7
         try clear hcz64_0
         try clear hcz64_1
         try clear hcz64_2
         try clear hcz64_3
         try clear hcz64_4
         try clear hcz64_5
         try clear hcz64_6
         try clear hcz64_7
         try clear hfz15_0
         try clear hfz15_1
         try clear hfz15_2
         try clear hfz21_0
         try clear hfz21_1
         try clear hfz21_2
         try clear hfz23_0
         try clear hfz23_1
         try clear hfz23_2
         try clear hfz27_0
         try clear hfz27_1
         try clear hfz27_2
         try clear hfz29_0
         try clear hfz29_1
         try clear hfz29_2
         try clear hfz34_0
         try clear hfz34_1
         try clear hfz34_2
         try clear hfz36_0
         try clear hfz36_1
         try clear hfz36_2
         try clear hfz44_0
         try clear hfz44_1
         try clear hfz44_2
         try clear hfz50_0
         try clear hfz50_1
         try clear hfz50_2
         try clear hfz50_3
         try clear hfz50_4
         try clear hfz50_5
         try clear hfz50_6
         try clear hfz50_7
         try clear hfz57_0
         try clear hfz57_1
         try clear hfz57_2
         try clear hfz57_3
         try clear hfz57_4
         try clear hfz57_5
         try clear hfz57_6
         try clear hfz57_7
         try clear hfz64_0
         try clear hfz64_1
         try clear hfz64_2
         try clear hfz64_3
         try clear hfz64_4
         try clear hfz64_5
         try clear hfz64_6
         try clear hfz64_7
         try clear hx226_0
         try clear hx226_1
         try clear hx226_2
         try clear hx226_3
         try clear hx226_4
         try clear hx226_5
         try clear hx226_6
         try clear hx226_7
         try clear p2
         try clear p22
         try clear p226
         try clear q2
         try clear q22
         try clear q226
         obtain ⟨kq, x9_57, rfl, HA, HJ57, BK220, BK221, BK222, BK227, HB⟩ := hcut
         cases kq with
         | zero => exact absurd HA.out (by simp [impl_RecGo.j2])
         | succ kj57 =>
          have H := HA.out
          clear HA
          simp only [impl_RecGo.j2] at H
          have HC65 := Aside0.mk H
          clear H
          have hnb66 := NB227_220.out
          have hnc66 := NB220_227.out
          have hnb67 := NB227_221.out
          have hnc67 := NB221_227.out
          have hnb68 := NB227_222.out
          have hnc68 := NB222_227.out
          obtain ⟨hcz69_0, hcz69_1, hcz69_2, hcz69_3, hcz69_4, hcz69_5, hcz69_6, hcz69_7⟩ := cz8_ BK227.out
          obtain ⟨hfz69_0, hfz69_1, hfz69_2, hfz69_3, hfz69_4, hfz69_5, hfz69_6, hfz69_7⟩ := fz8_ BK227.out
          go_upto_if 58 with (fail)
          go_cut [9, 10] (fun v9 v10 wc => ∃ (kq : Nat) (x9_64 : Int) (x10_64 : Bool), v9 = .int .i64 x9_64 ∧ v10 = .bool x10_64 ∧ Aside0 (impl_RecGo.j3 kq l0 x9_64 x10_64 a1_0 a1_1 a1_2 ((rd_T44 l0 t225).f0) ((rd_T44 l0 t225).f1) ((rd_T44 l0 t225).f2) ((rd_T44 l0 t225).f3) ((rd_T44 l0 t225).f4) ((rd_T44 l0 t225).f5) ((rd_T44 l0 t225).f6) ((rd_T44 l0 t225).f7) = some (r1, r2, r3, r4)) ∧ Aside0 (kq ≤ kj57) ∧ Aside0 (wc.heap[gb220]? = some (.cells #[.string a1_0, .int .i64 a1_1, .int .i64 a1_2] 29 (0, 0))) ∧ Aside0 (wc.heap[gb221]? = some (.cells #[.int .i64 a2_0, .bool a2_1] 35 (0, 0))) ∧ Aside0 (wc.heap[gb222]? = some (.cells #[.string (⟨#[]⟩ : ByteArray), .int .i64 0, .int .i64 0] 29 (0, 0))) ∧ Aside0 (wc.heap[gb227]? = some (.cells #[.string ((rd_T44 l0 t225).f0), .int .i64 ((rd_T44 l0 t225).f1), .string ((rd_T44 l0 t225).f2), .string ((rd_T44 l0 t225).f3), .int .i64 ((rd_T44 l0 t225).f4), .int .i64 ((rd_T44 l0 t225).f5), .string ((rd_T44 l0 t225).f6), .string ((rd_T44 l0 t225).f7)] 44 (0, 0))) ∧ Aside0 (Below w.heap.size w wc))
          case first =>
           have H := HC65.out
           clear HC65
           by_cases c70 : x9_57 > ((rd_T44 l0 t225).f5)
           ·rw [if_pos c70] at H
            have c70b0 : decide (((rd_T44 l0 t225).f5) < x9_57) = true := decide_eq_true c70
            clear c70
            (first | rw [c70b0] | (simp only [i64_w, i32_w]; rw [c70b0]) | skip)
            have H' := Aside0.mk H
            clear H
            have hnb71 := NB227_220.out
            have hnc71 := NB220_227.out
            have hnb72 := NB227_221.out
            have hnc72 := NB221_227.out
            have hnb73 := NB227_222.out
            have hnc73 := NB222_227.out
            obtain ⟨hcz74_0, hcz74_1, hcz74_2, hcz74_3, hcz74_4, hcz74_5, hcz74_6, hcz74_7⟩ := cz8_ BK227.out
            obtain ⟨hfz74_0, hfz74_1, hfz74_2, hfz74_3, hfz74_4, hfz74_5, hfz74_6, hfz74_7⟩ := fz8_ BK227.out
            go_wp2
            go_meet
            case rel => exact ⟨_, (((rd_T44 l0 t225).f5)), (false), m11_, m11_, H', ⟨(by have := HJ3.out; have := HJ40.out; have := HJ57.out; first | omega | exact Nat.le_refl _)⟩, ⟨m14_⟩, ⟨m17_⟩, ⟨m21_⟩, ⟨m38_⟩, ⟨m20_⟩⟩
           ·rw [if_neg c70] at H
            have c70b0 : decide (((rd_T44 l0 t225).f5) < x9_57) = false := decide_eq_false c70
            clear c70
            (first | rw [c70b0] | (simp only [i64_w, i32_w]; rw [c70b0]) | skip)
            have H' := Aside0.mk H
            clear H
            go_wp2
            go_meet
            case rel => exact ⟨_, (x9_57), (a2_1), m11_, m11_, H', ⟨(by have := HJ3.out; have := HJ40.out; have := HJ57.out; first | omega | exact Nat.le_refl _)⟩, ⟨m14_⟩, ⟨m17_⟩, ⟨m21_⟩, ⟨m38_⟩, ⟨m20_⟩⟩
          case rest =>
           clear HC65
           try clear c1
           try clear c2
           try clear p2
           try clear q2
           try clear hx2
           try clear c3
           try clear c4
           try clear c5
           try clear c6
           try clear c7
           try clear c9
           try clear c11
           try clear c11b0
           try clear c13
           try clear c14
           try clear c17
           try clear c17b0
           try clear c19
           try clear c20
           try clear p22
           try clear q22
           try clear hx22
           try clear c25
           try clear c26
           try clear c31
           try clear c32
           try clear c33
           try clear c35
           try clear c36
           try clear c38
           try clear c38b0
           try clear c39
           try clear c39b0
           try clear c42
           try clear c43
           try clear c47
           try clear c48
           try clear c49
           try clear c53
           try clear c54
           try clear c55
           try clear c56
           try clear c59
           try clear c61
           try clear c62
           try clear c63
           try clear c66
           try clear c67
           try clear c68
           try clear c70
           try clear c70b0
           try clear c71
           try clear c72
           try clear c73
           try clear hcz15_0
           try clear hcz15_1
           try clear hcz15_2
           try clear hcz21_0
           try clear hcz21_1
           try clear hcz21_2
           try clear hcz23_0
           try clear hcz23_1
           try clear hcz23_2
           try clear hcz27_0
           try clear hcz27_1
           try clear hcz27_2
           try clear hcz29_0
           try clear hcz29_1
           try clear hcz29_2
           try clear hcz34_0
           try clear hcz34_1
           try clear hcz34_2
           try clear hcz36_0
           try clear hcz36_1
           try clear hcz36_2
           try clear hcz44_0
           try clear hcz44_1
           try clear hcz44_2
           try clear hcz50_0
           try clear hcz50_1
           try clear hcz50_2
           try clear hcz50_3
           try clear hcz50_4
           try clear hcz50_5
           try clear hcz50_6
           try clear hcz50_7
           try clear hcz57_0
           try clear hcz57_1
           try clear hcz57_2
           try clear hcz57_3
           try clear hcz57_4
           try clear hcz57_5
           try clear hcz57_6
           try clear hcz57_7
           try clear hcz64_0
           try clear hcz64_1
           try clear hcz64_2
           try clear hcz64_3
           try clear hcz64_4
           try clear hcz64_5
           try clear hcz64_6
           try clear hcz64_7
           try clear hcz69_0
           try clear hcz69_1
           try clear hcz69_2
           try clear hcz69_3
           try clear hcz69_4
           try clear hcz69_5
           try clear hcz69_6
           try clear hcz69_7
           try clear hcz74_0
           try clear hcz74_1
           try clear hcz74_2
           try clear hcz74_3
           try clear hcz74_4
           try clear hcz74_5
           try clear hcz74_6
           try clear hcz74_7
           try clear hfz15_0
           try clear hfz15_1
           try clear hfz15_2
           try clear hfz21_0
           try clear hfz21_1
           try clear hfz21_2
           try clear hfz23_0
           try clear hfz23_1
           try clear hfz23_2
           try clear hfz27_0
           try clear hfz27_1
           try clear hfz27_2
           try clear hfz29_0
           try clear hfz29_1
           try clear hfz29_2
           try clear hfz34_0
           try clear hfz34_1
           try clear hfz34_2
           try clear hfz36_0
           try clear hfz36_1
           try clear hfz36_2
           try clear hfz44_0
           try clear hfz44_1
           try clear hfz44_2
           try clear hfz50_0
           try clear hfz50_1
           try clear hfz50_2
           try clear hfz50_3
           try clear hfz50_4
           try clear hfz50_5
           try clear hfz50_6
           try clear hfz50_7
           try clear hfz57_0
           try clear hfz57_1
           try clear hfz57_2
           try clear hfz57_3
           try clear hfz57_4
           try clear hfz57_5
           try clear hfz57_6
           try clear hfz57_7
           try clear hfz64_0
           try clear hfz64_1
           try clear hfz64_2
           try clear hfz64_3
           try clear hfz64_4
           try clear hfz64_5
           try clear hfz64_6
           try clear hfz64_7
           try clear hfz69_0
           try clear hfz69_1
           try clear hfz69_2
           try clear hfz69_3
           try clear hfz69_4
           try clear hfz69_5
           try clear hfz69_6
           try clear hfz69_7
           try clear hfz74_0
           try clear hfz74_1
           try clear hfz74_2
           try clear hfz74_3
           try clear hfz74_4
           try clear hfz74_5
           try clear hfz74_6
           try clear hfz74_7
           try clear hx226_0
           try clear hx226_1
           try clear hx226_2
           try clear hx226_3
           try clear hx226_4
           try clear hx226_5
           try clear hx226_6
           try clear hx226_7
           try clear p2
           try clear p22
           try clear p226
           try clear q2
           try clear q22
           try clear q226
           obtain ⟨kq, x9_64, x10_64, rfl, rfl, HA, HJ64, BK220, BK221, BK222, BK227, HB⟩ := hcut
           cases kq with
           | zero => exact absurd HA.out (by simp [impl_RecGo.j3])
           | succ kj64 =>
            have H := HA.out
            clear HA
            simp only [impl_RecGo.j3] at H
            by_cases c75 : x10_64 = true
            ·subst c75
             have H1 : ((impl_bound.f kj64 l0 ((rd_T44 l0 t225).f6)).bind fun t228 => (some (((rd_T44 l0 t225).f6), wrap64 (a1_1 + x9_64), t228, true))) = some (r1, r2, r3, r4) := by rw [if_pos rfl] at H; exact H
             clear H
             have H := H1
             clear H1
             replace H := Option.bind_eq_some_iff.mp H
             obtain ⟨t228, A760, H⟩ := H
             replace H : (some (((rd_T44 l0 t225).f6), wrap64 (a1_1 + x9_64), t228, true)) = some (r1, r2, r3, r4) := H
             have A76 := Aside0.mk A760
             clear A760
             simp only [Option.some.injEq, Prod.mk.injEq] at H
             obtain ⟨rfl, rfl, rfl, rfl⟩ := H
             have hnb77 := NB227_220.out
             have hnc77 := NB220_227.out
             have hnb78 := NB227_221.out
             have hnc78 := NB221_227.out
             have hnb79 := NB227_222.out
             have hnc79 := NB222_227.out
             obtain ⟨hcz80_0, hcz80_1, hcz80_2, hcz80_3, hcz80_4, hcz80_5, hcz80_6, hcz80_7⟩ := cz8_ BK227.out
             obtain ⟨hfz80_0, hfz80_1, hfz80_2, hfz80_3, hfz80_4, hfz80_5, hfz80_6, hfz80_7⟩ := fz8_ BK227.out
             try go_wp2
             have n0_ := Aside0.mk (blk_drew BK220.out)
             have n1_ := Aside0.mk (blk_drew BK221.out)
             have n2_ := Aside0.mk (blk_drew BK222.out)
             have n3_ := Aside0.mk (blk_drew BK227.out)
             have n4_ := Aside0.mk (below_drew1 HB.out)
             clear BK220
             clear BK221
             clear BK222
             clear BK227
             clear HB
             have BK220 := n0_
             have BK221 := n1_
             have BK222 := n2_
             have BK227 := n3_
             have HB := n4_
             clear n0_ n1_ n2_ n3_ n4_
             refine start_ (n := 11) (S := fun w' => w'.cell? ⟨gb220, 0, none⟩ = some (.string a1_0) ∧ w'.cell? ⟨gb220, 1, none⟩ = some (.int .i64 a1_1) ∧ w'.cell? ⟨gb220, 2, none⟩ = some (.int .i64 a1_2)) (ds := []) (bm 11 0) (by kernel_rfl) rfl rfl ⟨(blk_cell BK220.out 0).trans rfl, (blk_cell BK220.out 1).trans rfl, (blk_cell BK220.out 2).trans rfl⟩ (fun hHeld => ?_); refine with_tabW impl_RecGo.tab12 impl_RecGo.bits12 (fun HT_ HW_ => ?_)
             generalize wc.drew = w81 at BK220 BK221 BK222 BK227 HB hHeld ⊢
             refine pure_ (i := 0) (N := some 66) (v := ?_) (a' := ?_) (bm 11 1) rfl rfl (any_of HT_.out (by kernel_rfl)) (fun _ _ _ h => h) (Or.inl ⟨(by rfl), ?_⟩) ?_ ?_; rotate_left; intro w'; go_simp; with_reducible rfl; rotate_left; simp only [Act.put, List.setIfInBounds_toArray, List.set_cons_zero, List.set_cons_succ, i64_w, i32_w]; rfl
             refine pure_ (i := 1) (N := some 67) (v := ?_) (a' := ?_) (bm 11 3) rfl rfl (any_of HT_.out (by kernel_rfl)) (fun _ _ _ h => h) (Or.inl ⟨(by rfl), ?_⟩) ?_ ?_; rotate_left; intro w'; go_simp; with_reducible rfl; rotate_left; simp only [Act.put, List.setIfInBounds_toArray, List.set_cons_zero, List.set_cons_succ, i64_w, i32_w]; rfl
             refine pure_ (i := 3) (N := some 69) (v := ?_) (a' := ?_) (bm 11 11) rfl rfl (any_of HT_.out (by kernel_rfl)) (fun _ _ _ h => h) (Or.inl ⟨(by rfl), ?_⟩) ?_ ?_; rotate_left; intro w'; go_simp; with_reducible rfl; rotate_left; simp only [Act.put, List.setIfInBounds_toArray, List.set_cons_zero, List.set_cons_succ, i64_w, i32_w]; rfl
             refine pure_ (i := 5) (N := some 71) (v := ?_) (a' := ?_) (bm 11 43) rfl rfl (any_of HT_.out (by kernel_rfl)) (fun _ _ _ h => h) (Or.inl ⟨(by rfl), ?_⟩) ?_ ?_; rotate_left; intro w'; go_simp; with_reducible rfl; rotate_left; simp only [Act.put, List.setIfInBounds_toArray, List.set_cons_zero, List.set_cons_succ, i64_w, i32_w]; rfl
             refine pure_ (i := 6) (N := some 72) (v := ?_) (a' := ?_) (bm 11 107) rfl rfl (any_of HT_.out (by kernel_rfl)) (fun _ _ _ h => h) (Or.inl ⟨(by rfl), ?_⟩) ?_ ?_; rotate_left; intro w'; go_simp; with_reducible rfl; rotate_left; simp only [Act.put, List.setIfInBounds_toArray, List.set_cons_zero, List.set_cons_succ, i64_w, i32_w]; rfl
             refine take_ (i := 2) (N := some 68) (v := ?_) (a' := ?_) (bm 11 111) rfl rfl (take_ofW HT_.out HW_.out (by kernel_rfl)) (fun _ _ _ h => h) (Or.inl ⟨(by rfl), ?_⟩) hHeld ?_ ?_; rotate_left; rintro w' ⟨s0, s1, s2⟩; go_simp; with_reducible rfl; rotate_left; simp only [Act.put, List.setIfInBounds_toArray, List.set_cons_zero, List.set_cons_succ, i64_w, i32_w]; rfl
             refine pure_ (i := 4) (N := some 70) (v := ?_) (a' := ?_) (bm 11 127) rfl rfl (any_of HT_.out (by kernel_rfl)) (fun _ _ _ h => h) (Or.inl ⟨(by rfl), ?_⟩) ?_ ?_; rotate_left; intro w'; go_simp; with_reducible rfl; rotate_left; simp only [Act.put, List.setIfInBounds_toArray, List.set_cons_zero, List.set_cons_succ, i64_w, i32_w]; rfl
             refine one_ (i := 7) (N := some 73) (bm 11 255) rfl rfl (one_of HT_.out (by kernel_rfl)) (by decide) (fun K hK => ?_)
             refine goes_ Try.func37 (by kernel_rfl) rfl #[.slice (some ad226) l0.length c0, .string ((rd_T44 l0 t225).f6)] (by rfl) rfl rfl m1_ ?_
             with_reducible refine (impl_bound.calls kj64 _ _ l0 ((rd_T44 l0 t225).f6) t228 _ ?side1 ?side2 A76.out).mono ?_
             (case side1 => exact m12_)
             (case side2 => exact HC0.out)
             rintro e w82 ⟨rfl, hb⟩
             refine ⟨_, rfl, ?_⟩
             have n0_ := Aside0.mk (blk_below (g := gb220) (o := .cells #[.string a1_0, .int .i64 a1_1, .int .i64 a1_2] 29 (0, 0)) m14_ hb)
             have n1_ := Aside0.mk (blk_below (g := gb221) (o := .cells #[.int .i64 a2_0, .bool a2_1] 35 (0, 0)) m17_ hb)
             have n2_ := Aside0.mk (blk_below (g := gb222) (o := .cells #[.string (⟨#[]⟩ : ByteArray), .int .i64 0, .int .i64 0] 29 (0, 0)) m21_ hb)
             have n3_ := Aside0.mk (blk_below (g := gb227) (o := .cells #[.string ((rd_T44 l0 t225).f0), .int .i64 ((rd_T44 l0 t225).f1), .string ((rd_T44 l0 t225).f2), .string ((rd_T44 l0 t225).f3), .int .i64 ((rd_T44 l0 t225).f4), .int .i64 ((rd_T44 l0 t225).f5), .string ((rd_T44 l0 t225).f6), .string ((rd_T44 l0 t225).f7)] 44 (0, 0)) m38_ hb)
             have n4_ := Aside0.mk (below_step m20_ hb)
             clear BK220
             clear BK221
             clear BK222
             clear BK227
             clear HB
             have BK220 := n0_
             have BK221 := n1_
             have BK222 := n2_
             have BK227 := n3_
             have HB := n4_
             clear n0_ n1_ n2_ n3_ n4_
             (try clear hb)
             (try clear hb2)
             (try clear hk)
             (try clear hi)
             refine hK.out _ _ ⟨(blk_cell BK220.out 0).trans rfl, (blk_cell BK220.out 1).trans rfl, (blk_cell BK220.out 2).trans rfl⟩ (fun hHeld => ?_)
             clear hK K
             refine no_ ?_
             refine pure_ (i := 8) (N := some 74) (v := ?_) (a' := ?_) (bm 11 511) rfl rfl (any_of HT_.out (by kernel_rfl)) (fun _ _ _ h => h) (Or.inl ⟨(by rfl), ?_⟩) ?_ ?_; rotate_left; intro w'; go_simp; with_reducible rfl; rotate_left; simp only [Act.put, List.setIfInBounds_toArray, List.set_cons_zero, List.set_cons_succ, i64_w, i32_w]; rfl
             refine one_ (i := 9) (N := none) (bm 11 1023) rfl rfl (one_of HT_.out (by kernel_rfl)) (by decide) (fun K hK => ?_)
             have hs83 : w82.cell? ⟨gb222, 0, none⟩ = some (.string (⟨#[]⟩ : ByteArray)) := (blk_cell BK222.out 0).trans rfl
             have hfs83 := blk_frozen BK222.out 0
             have hns83_0 := NB220_222.out
             have hns83_1 := NB221_222.out
             have hns83_3 := NB227_222.out
             have hms83_0 := NB222_220.out
             have hms83_1 := NB222_221.out
             have hms83_3 := NB222_227.out
             have hs84 : w82.cell? ⟨gb222, 1, none⟩ = some (.int .i64 0) := (blk_cell BK222.out 1).trans rfl
             have hfs84 := blk_frozen BK222.out 1
             have hns84_0 := NB220_222.out
             have hns84_1 := NB221_222.out
             have hns84_3 := NB227_222.out
             have hms84_0 := NB222_220.out
             have hms84_1 := NB222_221.out
             have hms84_3 := NB222_227.out
             have hs85 : w82.cell? ⟨gb222, 2, none⟩ = some (.int .i64 0) := (blk_cell BK222.out 2).trans rfl
             have hfs85 := blk_frozen BK222.out 2
             have hns85_0 := NB220_222.out
             have hns85_1 := NB221_222.out
             have hns85_3 := NB227_222.out
             have hms85_0 := NB222_220.out
             have hms85_1 := NB222_221.out
             have hms85_3 := NB222_227.out
             refine skip_ (w1 := ?_) (by rfl) rfl ?_ ?_
             rotate_left
             ·go_simp
              rfl
             refine hK.out _ _ ⟨((cell_far (p := ⟨gb222, _, none⟩) NB220_222.out _).trans (((cell_far (p := ⟨gb222, _, none⟩) NB220_222.out _).trans (((cell_far (p := ⟨gb222, _, none⟩) NB220_222.out _).trans (hHeld.1)))))), ((cell_far (p := ⟨gb222, _, none⟩) NB220_222.out _).trans (((cell_far (p := ⟨gb222, _, none⟩) NB220_222.out _).trans (((cell_far (p := ⟨gb222, _, none⟩) NB220_222.out _).trans (hHeld.2.1)))))), ((cell_far (p := ⟨gb222, _, none⟩) NB220_222.out _).trans (((cell_far (p := ⟨gb222, _, none⟩) NB220_222.out _).trans (((cell_far (p := ⟨gb222, _, none⟩) NB220_222.out _).trans (hHeld.2.2))))))⟩ (fun hHeld => ?_)
             clear hK K
             refine pure_ (i := 10) (N := some 7) (v := ?_) (a' := ?_) (bm 11 2047) rfl rfl (any_of HT_.out (by kernel_rfl)) (fun _ _ _ h => h) (Or.inl ⟨(by rfl), ?_⟩) ?_ ?_; rotate_left; intro w'; go_simp; with_reducible rfl; rotate_left; simp only [Act.put, List.setIfInBounds_toArray, List.set_cons_zero, List.set_cons_succ, i64_w, i32_w]; rfl
             refine done_ (done_of HT_.out (by kernel_rfl)) ?_
             try go_wp2
             refine bodyPost_ret (results_ct rfl _ _ gb222 29 #[.string ((rd_T44 l0 t225).f6), .int .i64 (wrap64 (a1_1 + x9_64)), .int .i64 t228] (0, 0) _ rfl (by (with_reducible repeat (first | refine blk_drewN ?_ _ | refine blk_drew ?_ | refine blk_alloc ?_ _)); refine blk_put (cs := #[.string ((rd_T44 l0 t225).f6), .int .i64 (wrap64 (a1_1 + x9_64)), .int .i64 0]) ?_ 2 _ rfl; (with_reducible repeat (first | refine blk_drewN ?_ _ | refine blk_drew ?_ | refine blk_alloc ?_ _)); refine blk_put (cs := #[.string ((rd_T44 l0 t225).f6), .int .i64 0, .int .i64 0]) ?_ 1 _ rfl; (with_reducible repeat (first | refine blk_drewN ?_ _ | refine blk_drew ?_ | refine blk_alloc ?_ _)); refine blk_put (cs := #[.string (⟨#[]⟩ : ByteArray), .int .i64 0, .int .i64 0]) ?_ 0 _ rfl; (with_reducible repeat (first | refine blk_drewN ?_ _ | refine blk_drew ?_ | refine blk_alloc ?_ _)); exact BK222.out) Try.underlying29 rfl (by kernel_rfl)) rfl ?_
             exact ⟨(by first | rfl | (simp [errW_none, errW_some] <;> rfl) | (simp only [← hji40]; first | rfl | (simp [errW_none, errW_some] <;> rfl)) | (simp [*, errW_none, errW_some] <;> rfl)), m20_⟩
            ·replace c75 := Bool.eq_false_iff.mpr c75
             subst c75
             have H1 : ((impl_bound.f kj64 l0 ((rd_T44 l0 t225).f7)).bind fun t229 => (some (((rd_T44 l0 t225).f7), wrap64 (a1_1 + x9_64), t229, true))) = some (r1, r2, r3, r4) := by rw [if_neg (show ¬ (false = true) by decide)] at H; exact H
             clear H
             have H := H1
             clear H1
             replace H := Option.bind_eq_some_iff.mp H
             obtain ⟨t229, A860, H⟩ := H
             replace H : (some (((rd_T44 l0 t225).f7), wrap64 (a1_1 + x9_64), t229, true)) = some (r1, r2, r3, r4) := H
             have A86 := Aside0.mk A860
             clear A860
             simp only [Option.some.injEq, Prod.mk.injEq] at H
             obtain ⟨rfl, rfl, rfl, rfl⟩ := H
             have hnb87 := NB227_220.out
             have hnc87 := NB220_227.out
             have hnb88 := NB227_221.out
             have hnc88 := NB221_227.out
             have hnb89 := NB227_222.out
             have hnc89 := NB222_227.out
             obtain ⟨hcz90_0, hcz90_1, hcz90_2, hcz90_3, hcz90_4, hcz90_5, hcz90_6, hcz90_7⟩ := cz8_ BK227.out
             obtain ⟨hfz90_0, hfz90_1, hfz90_2, hfz90_3, hfz90_4, hfz90_5, hfz90_6, hfz90_7⟩ := fz8_ BK227.out
             try go_wp2
             have n0_ := Aside0.mk (blk_drew BK220.out)
             have n1_ := Aside0.mk (blk_drew BK221.out)
             have n2_ := Aside0.mk (blk_drew BK222.out)
             have n3_ := Aside0.mk (blk_drew BK227.out)
             have n4_ := Aside0.mk (below_drew1 HB.out)
             clear BK220
             clear BK221
             clear BK222
             clear BK227
             clear HB
             have BK220 := n0_
             have BK221 := n1_
             have BK222 := n2_
             have BK227 := n3_
             have HB := n4_
             clear n0_ n1_ n2_ n3_ n4_
             refine start_ (n := 11) (S := fun w' => w'.cell? ⟨gb220, 0, none⟩ = some (.string a1_0) ∧ w'.cell? ⟨gb220, 1, none⟩ = some (.int .i64 a1_1) ∧ w'.cell? ⟨gb220, 2, none⟩ = some (.int .i64 a1_2)) (ds := []) (bm 11 0) (by kernel_rfl) rfl rfl ⟨(blk_cell BK220.out 0).trans rfl, (blk_cell BK220.out 1).trans rfl, (blk_cell BK220.out 2).trans rfl⟩ (fun hHeld => ?_); refine with_tabW impl_RecGo.tab12 impl_RecGo.bits12 (fun HT_ HW_ => ?_)
             generalize wc.drew = w91 at BK220 BK221 BK222 BK227 HB hHeld ⊢
             refine pure_ (i := 0) (N := some 66) (v := ?_) (a' := ?_) (bm 11 1) rfl rfl (any_of HT_.out (by kernel_rfl)) (fun _ _ _ h => h) (Or.inl ⟨(by rfl), ?_⟩) ?_ ?_; rotate_left; intro w'; go_simp; with_reducible rfl; rotate_left; simp only [Act.put, List.setIfInBounds_toArray, List.set_cons_zero, List.set_cons_succ, i64_w, i32_w]; rfl
             refine pure_ (i := 1) (N := some 67) (v := ?_) (a' := ?_) (bm 11 3) rfl rfl (any_of HT_.out (by kernel_rfl)) (fun _ _ _ h => h) (Or.inl ⟨(by rfl), ?_⟩) ?_ ?_; rotate_left; intro w'; go_simp; with_reducible rfl; rotate_left; simp only [Act.put, List.setIfInBounds_toArray, List.set_cons_zero, List.set_cons_succ, i64_w, i32_w]; rfl
             refine pure_ (i := 3) (N := some 69) (v := ?_) (a' := ?_) (bm 11 11) rfl rfl (any_of HT_.out (by kernel_rfl)) (fun _ _ _ h => h) (Or.inl ⟨(by rfl), ?_⟩) ?_ ?_; rotate_left; intro w'; go_simp; with_reducible rfl; rotate_left; simp only [Act.put, List.setIfInBounds_toArray, List.set_cons_zero, List.set_cons_succ, i64_w, i32_w]; rfl
             refine pure_ (i := 5) (N := some 71) (v := ?_) (a' := ?_) (bm 11 43) rfl rfl (any_of HT_.out (by kernel_rfl)) (fun _ _ _ h => h) (Or.inl ⟨(by rfl), ?_⟩) ?_ ?_; rotate_left; intro w'; go_simp; with_reducible rfl; rotate_left; simp only [Act.put, List.setIfInBounds_toArray, List.set_cons_zero, List.set_cons_succ, i64_w, i32_w]; rfl
             refine pure_ (i := 6) (N := some 72) (v := ?_) (a' := ?_) (bm 11 107) rfl rfl (any_of HT_.out (by kernel_rfl)) (fun _ _ _ h => h) (Or.inl ⟨(by rfl), ?_⟩) ?_ ?_; rotate_left; intro w'; go_simp; with_reducible rfl; rotate_left; simp only [Act.put, List.setIfInBounds_toArray, List.set_cons_zero, List.set_cons_succ, i64_w, i32_w]; rfl
             refine take_ (i := 2) (N := some 68) (v := ?_) (a' := ?_) (bm 11 111) rfl rfl (take_ofW HT_.out HW_.out (by kernel_rfl)) (fun _ _ _ h => h) (Or.inl ⟨(by rfl), ?_⟩) hHeld ?_ ?_; rotate_left; rintro w' ⟨s0, s1, s2⟩; go_simp; with_reducible rfl; rotate_left; simp only [Act.put, List.setIfInBounds_toArray, List.set_cons_zero, List.set_cons_succ, i64_w, i32_w]; rfl
             refine pure_ (i := 4) (N := some 70) (v := ?_) (a' := ?_) (bm 11 127) rfl rfl (any_of HT_.out (by kernel_rfl)) (fun _ _ _ h => h) (Or.inl ⟨(by rfl), ?_⟩) ?_ ?_; rotate_left; intro w'; go_simp; with_reducible rfl; rotate_left; simp only [Act.put, List.setIfInBounds_toArray, List.set_cons_zero, List.set_cons_succ, i64_w, i32_w]; rfl
             refine one_ (i := 7) (N := some 73) (bm 11 255) rfl rfl (one_of HT_.out (by kernel_rfl)) (by decide) (fun K hK => ?_)
             refine goes_ Try.func37 (by kernel_rfl) rfl #[.slice (some ad226) l0.length c0, .string ((rd_T44 l0 t225).f7)] (by rfl) rfl rfl m1_ ?_
             with_reducible refine (impl_bound.calls kj64 _ _ l0 ((rd_T44 l0 t225).f7) t229 _ ?side1 ?side2 A86.out).mono ?_
             (case side1 => exact m12_)
             (case side2 => exact HC0.out)
             rintro e w92 ⟨rfl, hb⟩
             refine ⟨_, rfl, ?_⟩
             have n0_ := Aside0.mk (blk_below (g := gb220) (o := .cells #[.string a1_0, .int .i64 a1_1, .int .i64 a1_2] 29 (0, 0)) m14_ hb)
             have n1_ := Aside0.mk (blk_below (g := gb221) (o := .cells #[.int .i64 a2_0, .bool a2_1] 35 (0, 0)) m17_ hb)
             have n2_ := Aside0.mk (blk_below (g := gb222) (o := .cells #[.string (⟨#[]⟩ : ByteArray), .int .i64 0, .int .i64 0] 29 (0, 0)) m21_ hb)
             have n3_ := Aside0.mk (blk_below (g := gb227) (o := .cells #[.string ((rd_T44 l0 t225).f0), .int .i64 ((rd_T44 l0 t225).f1), .string ((rd_T44 l0 t225).f2), .string ((rd_T44 l0 t225).f3), .int .i64 ((rd_T44 l0 t225).f4), .int .i64 ((rd_T44 l0 t225).f5), .string ((rd_T44 l0 t225).f6), .string ((rd_T44 l0 t225).f7)] 44 (0, 0)) m38_ hb)
             have n4_ := Aside0.mk (below_step m20_ hb)
             clear BK220
             clear BK221
             clear BK222
             clear BK227
             clear HB
             have BK220 := n0_
             have BK221 := n1_
             have BK222 := n2_
             have BK227 := n3_
             have HB := n4_
             clear n0_ n1_ n2_ n3_ n4_
             (try clear hb)
             (try clear hb2)
             (try clear hk)
             (try clear hi)
             refine hK.out _ _ ⟨(blk_cell BK220.out 0).trans rfl, (blk_cell BK220.out 1).trans rfl, (blk_cell BK220.out 2).trans rfl⟩ (fun hHeld => ?_)
             clear hK K
             refine no_ ?_
             refine pure_ (i := 8) (N := some 74) (v := ?_) (a' := ?_) (bm 11 511) rfl rfl (any_of HT_.out (by kernel_rfl)) (fun _ _ _ h => h) (Or.inl ⟨(by rfl), ?_⟩) ?_ ?_; rotate_left; intro w'; go_simp; with_reducible rfl; rotate_left; simp only [Act.put, List.setIfInBounds_toArray, List.set_cons_zero, List.set_cons_succ, i64_w, i32_w]; rfl
             refine one_ (i := 9) (N := none) (bm 11 1023) rfl rfl (one_of HT_.out (by kernel_rfl)) (by decide) (fun K hK => ?_)
             have hs93 : w92.cell? ⟨gb222, 0, none⟩ = some (.string (⟨#[]⟩ : ByteArray)) := (blk_cell BK222.out 0).trans rfl
             have hfs93 := blk_frozen BK222.out 0
             have hns93_0 := NB220_222.out
             have hns93_1 := NB221_222.out
             have hns93_3 := NB227_222.out
             have hms93_0 := NB222_220.out
             have hms93_1 := NB222_221.out
             have hms93_3 := NB222_227.out
             have hs94 : w92.cell? ⟨gb222, 1, none⟩ = some (.int .i64 0) := (blk_cell BK222.out 1).trans rfl
             have hfs94 := blk_frozen BK222.out 1
             have hns94_0 := NB220_222.out
             have hns94_1 := NB221_222.out
             have hns94_3 := NB227_222.out
             have hms94_0 := NB222_220.out
             have hms94_1 := NB222_221.out
             have hms94_3 := NB222_227.out
             have hs95 : w92.cell? ⟨gb222, 2, none⟩ = some (.int .i64 0) := (blk_cell BK222.out 2).trans rfl
             have hfs95 := blk_frozen BK222.out 2
             have hns95_0 := NB220_222.out
             have hns95_1 := NB221_222.out
             have hns95_3 := NB227_222.out
             have hms95_0 := NB222_220.out
             have hms95_1 := NB222_221.out
             have hms95_3 := NB222_227.out
             refine skip_ (w1 := ?_) (by rfl) rfl ?_ ?_
             rotate_left
             ·go_simp
              rfl
             refine hK.out _ _ ⟨((cell_far (p := ⟨gb222, _, none⟩) NB220_222.out _).trans (((cell_far (p := ⟨gb222, _, none⟩) NB220_222.out _).trans (((cell_far (p := ⟨gb222, _, none⟩) NB220_222.out _).trans (hHeld.1)))))), ((cell_far (p := ⟨gb222, _, none⟩) NB220_222.out _).trans (((cell_far (p := ⟨gb222, _, none⟩) NB220_222.out _).trans (((cell_far (p := ⟨gb222, _, none⟩) NB220_222.out _).trans (hHeld.2.1)))))), ((cell_far (p := ⟨gb222, _, none⟩) NB220_222.out _).trans (((cell_far (p := ⟨gb222, _, none⟩) NB220_222.out _).trans (((cell_far (p := ⟨gb222, _, none⟩) NB220_222.out _).trans (hHeld.2.2))))))⟩ (fun hHeld => ?_)
             clear hK K
             refine pure_ (i := 10) (N := some 7) (v := ?_) (a' := ?_) (bm 11 2047) rfl rfl (any_of HT_.out (by kernel_rfl)) (fun _ _ _ h => h) (Or.inl ⟨(by rfl), ?_⟩) ?_ ?_; rotate_left; intro w'; go_simp; with_reducible rfl; rotate_left; simp only [Act.put, List.setIfInBounds_toArray, List.set_cons_zero, List.set_cons_succ, i64_w, i32_w]; rfl
             refine done_ (done_of HT_.out (by kernel_rfl)) ?_
             try go_wp2
             refine bodyPost_ret (results_ct rfl _ _ gb222 29 #[.string ((rd_T44 l0 t225).f7), .int .i64 (wrap64 (a1_1 + x9_64)), .int .i64 t229] (0, 0) _ rfl (by (with_reducible repeat (first | refine blk_drewN ?_ _ | refine blk_drew ?_ | refine blk_alloc ?_ _)); refine blk_put (cs := #[.string ((rd_T44 l0 t225).f7), .int .i64 (wrap64 (a1_1 + x9_64)), .int .i64 0]) ?_ 2 _ rfl; (with_reducible repeat (first | refine blk_drewN ?_ _ | refine blk_drew ?_ | refine blk_alloc ?_ _)); refine blk_put (cs := #[.string ((rd_T44 l0 t225).f7), .int .i64 0, .int .i64 0]) ?_ 1 _ rfl; (with_reducible repeat (first | refine blk_drewN ?_ _ | refine blk_drew ?_ | refine blk_alloc ?_ _)); refine blk_put (cs := #[.string (⟨#[]⟩ : ByteArray), .int .i64 0, .int .i64 0]) ?_ 0 _ rfl; (with_reducible repeat (first | refine blk_drewN ?_ _ | refine blk_drew ?_ | refine blk_alloc ?_ _)); exact BK222.out) Try.underlying29 rfl (by kernel_rfl)) rfl ?_
             exact ⟨(by first | rfl | (simp [errW_none, errW_some] <;> rfl) | (simp only [← hji40]; first | rfl | (simp [errW_none, errW_some] <;> rfl)) | (simp [*, errW_none, errW_some] <;> rfl)), m20_⟩
     ·rw [if_neg c39] at H
      exact absurd H (by simp)
    ·rw [if_neg c38] at H
     exact absurd H (by simp)

end Go.Proofs.Ytpihcdbkdldbcaa.QFnExactRecGo
