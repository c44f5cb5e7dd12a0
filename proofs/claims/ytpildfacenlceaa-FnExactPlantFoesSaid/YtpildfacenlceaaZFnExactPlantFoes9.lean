/- Laid by a program of this session: the texts of one law, joined, without what it does not come to. -/
import Derived.Test.YtpildfacenlceaaZFnExactPlantFoes8
namespace Go.Proofs.Ytpildfacenlceaa.QFnExactPlantFoes
open Go.RowKit Go.Proofs.YtpildfacenlceaaW.PrintWords Go.Proofs.YtpildfacenlceaaW.PrintLast Go.Proofs.YtpildfacenlceaaW.PrintMore
attribute [local go_sem] str_geq str_gtr str_leq max2_int min2_int max_two min_two max_three min_three max_four min_four   -- for this text's walks alone
set_option linter.unusedVariables false
set_option linter.unusedSimpArgs false
theorem arr2_eq {P : Program} {w : World} {t e : TypeId} (d : Nat) (a b c f : ByteArray) (hu : P.underlying t = some (.array 2 e)) (he : P.underlying e = some .string) (hi : (P.info? e).map (·.size) = some 1) :
 (Op.equalIn (d + 1 + 1) t (.agg #[.string a, .string b]) (.agg #[.string c, .string f])).run P w = .ok (a.toList == c.toList && b.toList == f.toList) w := by
 obtain ⟨i, hi, hs⟩ := Option.map_eq_some_iff.1 hi
 have hp : ∀ (x y : ByteArray) (k : Nat) (v : Value), (#[Value.string x, Value.string y])[k]? = some v → (part e #[.string x, .string y] k).run P w = .ok v w := fun x y k v hk => by
  simp [part, isAgg, run_underlying he, hk]
 rw [Op.equalIn]
 simp only [Sem.run_bind, run_underlying hu, Result.andThen_ok]
 have hz : (sizeOf e).run P w = .ok 1 w := by simp [sizeOf, typeInfo, hi, hs]
 simp only [Std.Legacy.Range.forIn_eq_forIn_range', Std.Legacy.Range.size, Nat.sub_zero, Nat.add_sub_cancel, Nat.div_one, List.range'_succ, List.range'_zero, List.forIn_cons, List.forIn_nil]
 simp only [Sem.run_bind, hz, Result.andThen_ok, Nat.zero_mul, Nat.mul_one, hp _ _ 0 _ rfl]
 by_cases h1 : a.toList = c.toList <;> by_cases h2 : b.toList = f.toList <;> simp [h1, h2, hp _ _ 1 _ rfl, run_equalIn_string w d e _ _ he]
theorem arr150 (a b c d : ByteArray) (w : World) : (Op.equalIn 10000 150 (.agg #[.string a, .string b]) (.agg #[.string c, .string d])).run Try.prog w = .ok (a.toList == c.toList && b.toList == d.toList) w :=
 arr2_eq (e := 9) 9998 a b c d (by kernel_rfl) (by kernel_rfl) (by kernel_rfl)
attribute [local go_sem] arr150
mutual
def impl_foes.l0 : Nat → ByteArray → ByteArray → List (S150) → Int → Int → Option (Bool)
 | 0, _, _, _, _, _ => none
 | k + 1, x1, x2, x9, x10, x11 => if x11 < x10 then (if 0 ≤ x11 then (if x11 < (x9.length : Int) then (if (((rd_T150 x9 x11).f0).toList) = x1.toList then (if (((rd_T150 x9 x11).f1).toList) = x2.toList then (impl_foes.j1 k x1 x2 x9 x10 x11 true) else (if (((rd_T150 x9 x11).f0).toList) = x2.toList then (if (((rd_T150 x9 x11).f1).toList) = x1.toList then (impl_foes.j1 k x1 x2 x9 x10 x11 true) else (impl_foes.j1 k x1 x2 x9 x10 x11 false)) else (impl_foes.j1 k x1 x2 x9 x10 x11 false))) else (if (((rd_T150 x9 x11).f0).toList) = x2.toList then (if (((rd_T150 x9 x11).f1).toList) = x1.toList then (impl_foes.j1 k x1 x2 x9 x10 x11 true) else (impl_foes.j1 k x1 x2 x9 x10 x11 false)) else (impl_foes.j1 k x1 x2 x9 x10 x11 false))) else (none)) else (none)) else (some false)
def impl_foes.j1 : Nat → ByteArray → ByteArray → List (S150) → Int → Int → Bool → Option (Bool)
 | 0, _, _, _, _, _, _ => none
 | k + 1, x1, x2, x9, x10, x11, x26 => if x26 = true then (some true) else (impl_foes.l0 k x1 x2 x9 x10 (wrap64 (x11 + 1)))
end
def impl_foes.f (k : Nat) (l0 : List (S150)) (a1 : ByteArray) (a2 : ByteArray) : Option (Bool) := impl_foes.l0 k a1 a2 l0 (l0.length : Int) 0
theorem impl_foes.mono_l : ∀ k, (∀ y0 y1 y2 y3 y4, LeO (impl_foes.l0 k y0 y1 y2 y3 y4) (impl_foes.l0 (k + 1) y0 y1 y2 y3 y4)) ∧ (∀ y0 y1 y2 y3 y4 y5, LeO (impl_foes.j1 k y0 y1 y2 y3 y4 y5) (impl_foes.j1 (k + 1) y0 y1 y2 y3 y4 y5))
 | 0 => ⟨fun _ _ _ _ _ r h => by simp [impl_foes.l0] at h, fun _ _ _ _ _ _ r h => by simp [impl_foes.j1] at h⟩
 | k + 1 => by
  obtain ⟨ih0, ih1⟩ := impl_foes.mono_l k
  refine ⟨?_, ?_⟩
  ·intro y0 y1 y2 y3 y4
   unfold impl_foes.l0
   repeat' first
   | (with_reducible exact ih0 _ _ _ _ _)
   | (with_reducible exact ih1 _ _ _ _ _ _)
   | (with_reducible exact LeO.refl _)
   | (with_reducible exact LeO.none _)
   | (with_reducible refine LeO.ite ?_ ?_)
   | (with_reducible refine LeO.bind ?_ (fun _ => ?_))
   | exact ih0 _ _ _ _ _
   | exact ih1 _ _ _ _ _ _
   | exact LeO.none _
   | refine LeO.ite ?_ ?_
   | refine LeO.bind ?_ (fun _ => ?_)
  ·intro y0 y1 y2 y3 y4 y5
   unfold impl_foes.j1
   repeat' first
   | (with_reducible exact ih0 _ _ _ _ _)
   | (with_reducible exact ih1 _ _ _ _ _ _)
   | (with_reducible exact LeO.refl _)
   | (with_reducible exact LeO.none _)
   | (with_reducible refine LeO.ite ?_ ?_)
   | (with_reducible refine LeO.bind ?_ (fun _ => ?_))
   | exact ih0 _ _ _ _ _
   | exact ih1 _ _ _ _ _ _
   | exact LeO.none _
   | refine LeO.ite ?_ ?_
   | refine LeO.bind ?_ (fun _ => ?_)
theorem impl_foes.mono : ∀ a0 a1 a2 k, LeO (impl_foes.f k a0 a1 a2) (impl_foes.f (k + 1) a0 a1 a2) := by
 intro a0 a1 a2 k
 obtain ⟨ih0, ih1⟩ := impl_foes.mono_l k
 unfold impl_foes.f
 repeat' first
   | (with_reducible exact ih0 _ _ _ _ _)
   | (with_reducible exact ih1 _ _ _ _ _ _)
   | (with_reducible exact LeO.refl _)
   | (with_reducible exact LeO.none _)
   | (with_reducible refine LeO.ite ?_ ?_)
   | (with_reducible refine LeO.bind ?_ (fun _ => ?_))
   | exact ih0 _ _ _ _ _
   | exact ih1 _ _ _ _ _ _
   | exact LeO.none _
   | refine LeO.ite ?_ ?_
   | refine LeO.bind ?_ (fun _ => ?_)
set_option maxHeartbeats 8000000 in
set_option maxRecDepth 100000 in
theorem impl_foes.calls (k : Nat) (A0 : Option Addr) (c0 : Nat) (l0 : List (S150)) (a1 : ByteArray) (a2 : ByteArray) (r : Bool) (w : World) (hr0 : Kd.C k150 w A0 l0.length l0) (hc0 : l0.length ≤ c0) (h : impl_foes.f k l0 a1 a2 = some r) :
  Calls Try.prog 82 #[.slice A0 l0.length c0, .string a1, .string a2] w fun e w' => e = .returned (.bool r) ∧ Below w.heap.size w w' := by
 have hu150 := Try.underlying150
 have HR0 := Aside0.mk hr0
 have HC0 := Aside0.mk hc0
 clear hr0 hc0
 have HB := Aside0.mk (Below.refl w.heap.size w)
 have H : (impl_foes.l0 k a1 a2 l0 (l0.length : Int) 0) = some r := h
 clear h
 have H' := Aside0.mk H
 clear H
 go_enter Try.func82, Try.ntmps82
 go_wp2
 go_loopg [11] k (fun kq v11 w' => ∃ (x11_1 : Int), v11 = .int .i64 x11_1 ∧ Aside0 (impl_foes.l0 kq a1 a2 l0 (l0.length : Int) x11_1 = some r) ∧ Aside0 (kq ≤ k) ∧ Aside0 (Below w.heap.size w w'))
 case atStart => exact ⟨(0), m8_, H', ⟨Nat.le_refl _⟩, ⟨m0_⟩⟩
 case round =>
  clear H'
  try clear p2
  obtain ⟨x11_1, rfl, HA, HK1, HB⟩ := hrel
  cases gk with
  | zero => exact absurd HA.out (by simp [impl_foes.l0])
  | succ k1 =>
   have H := HA.out
   clear HA
   simp only [impl_foes.l0] at H
   by_cases c4 : x11_1 < (l0.length : Int)
   ·rw [if_pos c4] at H
    have c4b0 : decide (x11_1 < (l0.length : Int)) = true := decide_eq_true c4
    clear c4
    by_cases c5 : 0 ≤ x11_1
    ·rw [if_pos c5] at H
     have c5b0 : decide (0 ≤ x11_1) = true := decide_eq_true c5
     clear c5
     by_cases c6 : x11_1 < (l0.length : Int)
     ·rw [if_pos c6] at H
      have c6b0 : decide (x11_1 < (l0.length : Int)) = true := decide_eq_true c6
      clear c6
      have HC7 := Aside0.mk H
      clear H
      have p298 : 0 ≤ (x11_1 : Int) := of_decide_eq_true m4_
      have q298 : x11_1 < (l0.length : Int) := of_decide_eq_true m4_
      obtain ⟨ad298, e298, hx298_0, hx298_1⟩ := at_T150 HR0.out x11_1 p298 q298
      cases e298
      replace hx298_0 := (HB.out.cell (World.block_lt_of_cell? w _ hx298_0)).trans hx298_0
      replace hx298_1 := (HB.out.cell (World.block_lt_of_cell? w _ hx298_1)).trans hx298_1
      replace p298 := eq_true p298
      replace q298 := eq_true q298
      go_upto_region 4 with (first | ((with_reducible refine gate_dst (N := 8) rfl ?_); refine box_event ?hg (N := 8) ?hd (cs := #[.string (⟨#[]⟩ : ByteArray), .string (⟨#[]⟩ : ByteArray)]) (t := 150) ?hr ?_; (case hd => rfl); (case hg => rfl); (case hr => first | (go_simp; done) | (go_simp; rfl)); intro gb299 hg w8 hbox hb; have n0_ := Aside0.mk (below_step m0_ hb); have n1_ := Aside0.mk (hbox); have n2_ := Aside0.mk ((by rw [hg]; exact (below_size m0_) : w.heap.size ≤ gb299)); have n3_ := Aside0.mk ((by rw [hg]; exact (below_size m0_) : w.heap.size ≤ gb299)); clear HB; have HB := n0_; have BK299 := n1_; have GW299 := n2_; have GE299 := n3_; clear n0_ n1_ n2_ n3_; clear hb hbox hg; obtain ⟨hcz9_0, hcz9_1⟩ := cz2_ BK299.out; obtain ⟨hfz9_0, hfz9_1⟩ := fz2_ BK299.out))
      (try simp only [Act.put, List.setIfInBounds_toArray, List.set_cons_zero, List.set_cons_succ])
      go_cut [26] (fun v26 wc => ∃ (kq : Nat) (x26_6 : Bool), v26 = .bool x26_6 ∧ Aside0 (impl_foes.j1 kq a1 a2 l0 (l0.length : Int) x11_1 x26_6 = some r) ∧ Aside0 (kq ≤ k1) ∧ Aside0 (wc.heap[gb299]? = some (.cells #[.string ((rd_T150 l0 x11_1).f0), .string ((rd_T150 l0 x11_1).f1)] 150 (0, 0))) ∧ Aside0 (Below w.heap.size w wc))
      case first =>
       have H := HC7.out
       clear HC7
       refine (Classical.em ((((rd_T150 l0 x11_1).f0).toList) = a1.toList)).elim (fun c10 => ?yes34) (fun c10 => ?no34)
       case' yes34 =>
        rw [if_pos c10] at H
        have c10b0 : ((((rd_T150 l0 x11_1).f0).toList) == a1.toList) = true := beq_iff_eq.mpr c10
        have c10b1 : ((((rd_T150 l0 x11_1).f0).toList) != a1.toList) = false := bne_eq_false_iff_eq.mpr c10
        clear c10
        (first | rw [c10b0] | (simp only [i64_w, i32_w]; rw [c10b0]) | skip)
        refine (Classical.em ((((rd_T150 l0 x11_1).f1).toList) = a2.toList)).elim (fun c11 => ?yes35) (fun c11 => ?no35)
        case' yes35 =>
         rw [if_pos c11] at H
         have c11b0 : ((((rd_T150 l0 x11_1).f1).toList) == a2.toList) = true := beq_iff_eq.mpr c11
         have c11b1 : ((((rd_T150 l0 x11_1).f1).toList) != a2.toList) = false := bne_eq_false_iff_eq.mpr c11
         clear c11
         have H' := Aside0.mk H
         clear H
        case' no35 =>
         rw [if_neg c11] at H
         have c11b0 : ((((rd_T150 l0 x11_1).f1).toList) == a2.toList) = false := beq_eq_false_iff_ne.mpr c11
         have c11b1 : ((((rd_T150 l0 x11_1).f1).toList) != a2.toList) = true := bne_iff_ne.mpr c11
         refine (Classical.em ((((rd_T150 l0 x11_1).f0).toList) = a2.toList)).elim (fun c13 => ?yes36) (fun c13 => ?no36)
         case' yes36 =>
          rw [if_pos c13] at H
          have c13b0 : ((((rd_T150 l0 x11_1).f0).toList) == a2.toList) = true := beq_iff_eq.mpr c13
          have c13b1 : ((((rd_T150 l0 x11_1).f0).toList) != a2.toList) = false := bne_eq_false_iff_eq.mpr c13
          clear c13
          refine (Classical.em ((((rd_T150 l0 x11_1).f1).toList) = a1.toList)).elim (fun c14 => ?yes37) (fun c14 => ?no37)
          case' yes37 =>
           rw [if_pos c14] at H
           have c14b0 : ((((rd_T150 l0 x11_1).f1).toList) == a1.toList) = true := beq_iff_eq.mpr c14
           have c14b1 : ((((rd_T150 l0 x11_1).f1).toList) != a1.toList) = false := bne_eq_false_iff_eq.mpr c14
           clear c14
           have H' := Aside0.mk H
           clear H
          case' no37 =>
           rw [if_neg c14] at H
           have c14b0 : ((((rd_T150 l0 x11_1).f1).toList) == a1.toList) = false := beq_eq_false_iff_ne.mpr c14
           have c14b1 : ((((rd_T150 l0 x11_1).f1).toList) != a1.toList) = true := bne_iff_ne.mpr c14
           have H' := Aside0.mk H
           clear H
         case' no36 =>
          rw [if_neg c13] at H
          have c13b0 : ((((rd_T150 l0 x11_1).f0).toList) == a2.toList) = false := beq_eq_false_iff_ne.mpr c13
          have c13b1 : ((((rd_T150 l0 x11_1).f0).toList) != a2.toList) = true := bne_iff_ne.mpr c13
          have H' := Aside0.mk H
          clear H
       case' no34 =>
        rw [if_neg c10] at H
        have c10b0 : ((((rd_T150 l0 x11_1).f0).toList) == a1.toList) = false := beq_eq_false_iff_ne.mpr c10
        have c10b1 : ((((rd_T150 l0 x11_1).f0).toList) != a1.toList) = true := bne_iff_ne.mpr c10
        (first | rw [c10b0] | (simp only [i64_w, i32_w]; rw [c10b0]) | skip)
        refine (Classical.em ((((rd_T150 l0 x11_1).f0).toList) = a2.toList)).elim (fun c18 => ?yes38) (fun c18 => ?no38)
        case' yes38 =>
         rw [if_pos c18] at H
         have c18b0 : ((((rd_T150 l0 x11_1).f0).toList) == a2.toList) = true := beq_iff_eq.mpr c18
         have c18b1 : ((((rd_T150 l0 x11_1).f0).toList) != a2.toList) = false := bne_eq_false_iff_eq.mpr c18
         clear c18
         refine (Classical.em ((((rd_T150 l0 x11_1).f1).toList) = a1.toList)).elim (fun c19 => ?yes39) (fun c19 => ?no39)
         case' yes39 =>
          rw [if_pos c19] at H
          have c19b0 : ((((rd_T150 l0 x11_1).f1).toList) == a1.toList) = true := beq_iff_eq.mpr c19
          have c19b1 : ((((rd_T150 l0 x11_1).f1).toList) != a1.toList) = false := bne_eq_false_iff_eq.mpr c19
          clear c19
          have H' := Aside0.mk H
          clear H
         case' no39 =>
          rw [if_neg c19] at H
          have c19b0 : ((((rd_T150 l0 x11_1).f1).toList) == a1.toList) = false := beq_eq_false_iff_ne.mpr c19
          have c19b1 : ((((rd_T150 l0 x11_1).f1).toList) != a1.toList) = true := bne_iff_ne.mpr c19
          have H' := Aside0.mk H
          clear H
        case' no38 =>
         rw [if_neg c18] at H
         have c18b0 : ((((rd_T150 l0 x11_1).f0).toList) == a2.toList) = false := beq_eq_false_iff_ne.mpr c18
         have c18b1 : ((((rd_T150 l0 x11_1).f0).toList) != a2.toList) = true := bne_iff_ne.mpr c18
         have H' := Aside0.mk H
         clear H
       all_goals
        obtain ⟨hcz12_0, hcz12_1⟩ := cz2_ BK299.out
        obtain ⟨hfz12_0, hfz12_1⟩ := fz2_ BK299.out
        go_wp2
        go_meet
        case rel => exact ⟨_, _, m8_, H', ⟨m75_⟩, ⟨(by (with_reducible repeat (first | refine blk_drewN ?_ _ | refine blk_drew ?_ | refine blk_alloc ?_ _)); refine blk_put (cs := #[.string ((rd_T150 l0 x11_1).f0), .string (⟨#[]⟩ : ByteArray)]) ?_ 1 _ rfl; (with_reducible repeat (first | refine blk_drewN ?_ _ | refine blk_drew ?_ | refine blk_alloc ?_ _)); refine blk_put (cs := #[.string (⟨#[]⟩ : ByteArray), .string (⟨#[]⟩ : ByteArray)]) ?_ 0 _ rfl; (with_reducible repeat (first | refine blk_drewN ?_ _ | refine blk_drew ?_ | refine blk_alloc ?_ _)); exact BK299.out)⟩, ⟨m137_⟩⟩
      case rest =>
       clear HC7
       try clear c1
       try clear p2
       try clear q2
       try clear hx2
       try clear c4
       try clear c4b0
       try clear c5
       try clear c5b0
       try clear c6
       try clear c6b0
       try clear c8
       try clear c10
       try clear c10b0
       try clear c10b1
       try clear c11
       try clear c11b0
       try clear c11b1
       try clear c13
       try clear c13b0
       try clear c13b1
       try clear c14
       try clear c14b0
       try clear c14b1
       try clear c18
       try clear c18b0
       try clear c18b1
       try clear c19
       try clear c19b0
       try clear c19b1
       try clear hcz12_0
       try clear hcz12_1
       try clear hcz15_0
       try clear hcz15_1
       try clear hcz16_0
       try clear hcz16_1
       try clear hcz17_0
       try clear hcz17_1
       try clear hcz20_0
       try clear hcz20_1
       try clear hcz21_0
       try clear hcz21_1
       try clear hcz22_0
       try clear hcz22_1
       try clear hcz9_0
       try clear hcz9_1
       try clear hfz12_0
       try clear hfz12_1
       try clear hfz15_0
       try clear hfz15_1
       try clear hfz16_0
       try clear hfz16_1
       try clear hfz17_0
       try clear hfz17_1
       try clear hfz20_0
       try clear hfz20_1
       try clear hfz21_0
       try clear hfz21_1
       try clear hfz22_0
       try clear hfz22_1
       try clear hfz9_0
       try clear hfz9_1
       try clear hx298_0
       try clear hx298_1
       try clear p2
       try clear p298
       try clear q298
       obtain ⟨kq, x26_6, rfl, HA, HJ6, BK299, HB⟩ := hcut
       cases kq with
       | zero => exact absurd HA.out (by simp [impl_foes.j1])
       | succ kj6 =>
        have H := HA.out
        clear HA
        simp only [impl_foes.j1] at H
        by_cases c23 : x26_6 = true
        ·subst c23
         have H1 : (some true) = some r := by rw [if_pos rfl] at H; exact H
         clear H
         have H := H1
         clear H1
         obtain rfl := Option.some.inj H
         go_wp2
         go_ret
         exact ⟨m6_, m137_⟩
        ·replace c23 := Bool.eq_false_iff.mpr c23
         subst c23
         have H1 : (impl_foes.l0 kj6 a1 a2 l0 (l0.length : Int) (wrap64 (x11_1 + 1))) = some r := by rw [if_neg (show ¬ (false = true) by decide)] at H; exact H
         clear H
         have H := H1
         clear H1
         have H' := Aside0.mk H
         clear H
         go_wp2
         go_roundg kj6
         case measure => have := HK1.out; have := HJ6.out; omega
         case rel => exact ⟨(wrap64 (x11_1 + 1)), m8_, H', ⟨(by have := HK1.out; have := HJ6.out; omega)⟩, ⟨m137_⟩⟩
     ·rw [if_neg c6] at H
      exact absurd H (by simp)
    ·rw [if_neg c5] at H
     exact absurd H (by simp)
   ·rw [if_neg c4] at H
    have c4b0 : decide (x11_1 < (l0.length : Int)) = false := decide_eq_false c4
    clear c4
    obtain rfl := Option.some.inj H
    go_wp2
    go_ret
    exact ⟨m6_, m0_⟩

/-! ### impl_PlantFoes: function 20 -/
def impl_PlantFoes.f (k : Nat) (l0_0 : List ByteArray) (l0_1 : List (S105)) (l0_2 : List (S86)) (l0_3 : List (S108)) (a1 : ByteArray) (a2 : ByteArray) : Option (Bool) := (impl_PlantValid.f k l0_0 l0_1 l0_2 l0_3).bind fun t301 => (if t301 = true then ((impl_Plant_pairs.f k l0_0 l0_1 l0_2 l0_3).bind fun t302 => ((impl_foes.f k t302 a1 a2).bind fun t305 => (some t305))) else (some false))
theorem impl_PlantFoes.mono : ∀ a0 a1 a2 a3 a4 a5 k, LeO (impl_PlantFoes.f k a0 a1 a2 a3 a4 a5) (impl_PlantFoes.f (k + 1) a0 a1 a2 a3 a4 a5) := by
 intro a0 a1 a2 a3 a4 a5 k
 unfold impl_PlantFoes.f
 repeat' first
   | (with_reducible exact impl_PlantValid.mono _ _ _ _ _)
   | (with_reducible exact impl_Plant_pairs.mono _ _ _ _ _)
   | (with_reducible exact impl_foes.mono _ _ _ _)
   | (with_reducible exact LeO.refl _)
   | (with_reducible exact LeO.none _)
   | (with_reducible refine LeO.ite ?_ ?_)
   | (with_reducible refine LeO.bind ?_ (fun _ => ?_))
   | exact impl_PlantValid.mono _ _ _ _ _
   | exact impl_Plant_pairs.mono _ _ _ _ _
   | exact impl_foes.mono _ _ _ _
   | exact LeO.none _
   | refine LeO.ite ?_ ?_
   | refine LeO.bind ?_ (fun _ => ?_)
set_option maxHeartbeats 8000000 in
set_option maxRecDepth 100000 in
theorem impl_PlantFoes.calls (k : Nat) (A0_0 : Option Addr) (c0_0 : Nat) (l0_0 : List ByteArray) (A0_1 : Option Addr) (c0_1 : Nat) (l0_1 : List (S105)) (A0_2 : Option Addr) (c0_2 : Nat) (l0_2 : List (S86)) (A0_3 : Option Addr) (c0_3 : Nat) (l0_3 : List (S108)) (a1 : ByteArray) (a2 : ByteArray) (r : Bool) (w : World) (hr0_0 : Kd.C Kd.string w A0_0 l0_0.length l0_0) (hc0_0 : l0_0.length ≤ c0_0) (hr0_1 : Kd.C k105 w A0_1 l0_1.length l0_1) (hc0_1 : l0_1.length ≤ c0_1) (hr0_2 : Kd.C k86 w A0_2 l0_2.length l0_2) (hc0_2 : l0_2.length ≤ c0_2) (hr0_3 : Kd.C k108 w A0_3 l0_3.length l0_3) (hc0_3 : l0_3.length ≤ c0_3) (h : impl_PlantFoes.f k l0_0 l0_1 l0_2 l0_3 a1 a2 = some r) :
  Calls Try.prog 20 #[.agg #[.slice A0_0 l0_0.length c0_0, .slice A0_1 l0_1.length c0_1, .slice A0_2 l0_2.length c0_2, .slice A0_3 l0_3.length c0_3], .string a1, .string a2] w fun e w' => e = .returned (.bool r) ∧ Below w.heap.size w w' := by
 have hu34 := Try.underlying34
 have HR0_0 := Aside0.mk hr0_0
 have HC0_0 := Aside0.mk hc0_0
 clear hr0_0 hc0_0
 have HR0_1 := Aside0.mk hr0_1
 have HC0_1 := Aside0.mk hc0_1
 clear hr0_1 hc0_1
 have HR0_2 := Aside0.mk hr0_2
 have HC0_2 := Aside0.mk hc0_2
 clear hr0_2 hc0_2
 have HR0_3 := Aside0.mk hr0_3
 have HC0_3 := Aside0.mk hc0_3
 clear hr0_3 hc0_3
 have HB := Aside0.mk (Below.refl w.heap.size w)
 have H : ((impl_PlantValid.f k l0_0 l0_1 l0_2 l0_3).bind fun t301 => (if t301 = true then ((impl_Plant_pairs.f k l0_0 l0_1 l0_2 l0_3).bind fun t302 => ((impl_foes.f k t302 a1 a2).bind fun t305 => (some t305))) else (some false))) = some r := h
 clear h
 replace H := Option.bind_eq_some_iff.mp H
 obtain ⟨t301, A40, H⟩ := H
 replace H : (if t301 = true then ((impl_Plant_pairs.f k l0_0 l0_1 l0_2 l0_3).bind fun t302 => ((impl_foes.f k t302 a1 a2).bind fun t305 => (some t305))) else (some false)) = some r := H
 have A4 := Aside0.mk A40
 clear A40
 by_cases c5 : t301 = true
 ·subst c5
  have H1 : ((impl_Plant_pairs.f k l0_0 l0_1 l0_2 l0_3).bind fun t302 => ((impl_foes.f k t302 a1 a2).bind fun t305 => (some t305))) = some r := by rw [if_pos rfl] at H; exact H
  clear H
  have H := H1
  clear H1
  replace H := Option.bind_eq_some_iff.mp H
  obtain ⟨t302, A60, H⟩ := H
  replace H : ((impl_foes.f k t302 a1 a2).bind fun t305 => (some t305)) = some r := H
  have A6 := Aside0.mk A60
  clear A60
  replace H := Option.bind_eq_some_iff.mp H
  obtain ⟨t305, A70, H⟩ := H
  replace H : (some t305) = some r := H
  have A7 := Aside0.mk A70
  clear A70
  obtain rfl := Option.some.inj H
  go_enter Try.func20, Try.ntmps20
  go_wp2_with (first | ((with_reducible refine gate_dst (N := 3) rfl ?_); refine box_event ?hg (N := 3) ?hd (cs := #[.slice A0_0 l0_0.length c0_0, .slice A0_1 l0_1.length c0_1, .slice A0_2 l0_2.length c0_2, .slice A0_3 l0_3.length c0_3]) (t := 34) ?hr ?_; (case hd => rfl); (case hg => rfl); (case hr => first | (go_simp; done) | (go_simp; rfl)); intro gb300 hg w8 hbox hb; have n0_ := Aside0.mk (below_step m0_ hb); have n1_ := Aside0.mk (hbox); have n2_ := Aside0.mk ((by rw [hg]; exact (below_size m0_) : w.heap.size ≤ gb300)); have n3_ := Aside0.mk ((by rw [hg]; exact (below_size m0_) : w.heap.size ≤ gb300)); clear HB; have HB := n0_; have BK300 := n1_; have GW300 := n2_; have GE300 := n3_; clear n0_ n1_ n2_ n3_; clear hb hbox hg; obtain ⟨hcz9_0, hcz9_1, hcz9_2, hcz9_3⟩ := cz4_ BK300.out; obtain ⟨hfz9_0, hfz9_1, hfz9_2, hfz9_3⟩ := fz4_ BK300.out) | ((with_reducible refine gate_callee (f := 17) rfl ?_); refine goesL_ (some 8) rfl rfl Try.func17 (by kernel_rfl) rfl #[.agg #[.slice A0_0 l0_0.length c0_0, .slice A0_1 l0_1.length c0_1, .slice A0_2 l0_2.length c0_2, .slice A0_3 l0_3.length c0_3]] rfl m3_ ?_; (with_reducible refine (impl_PlantValid.calls k _ _ l0_0 _ _ l0_1 _ _ l0_2 _ _ l0_3 true _ ?side1 ?side2 ?side3 ?side4 ?side5 ?side6 ?side7 ?side8 A4.out).mono ?_); (case side1 => exact m7_); (case side2 => exact HC0_0.out); (case side3 => exact m15_); (case side4 => exact HC0_1.out); (case side5 => exact m12_); (case side6 => exact HC0_2.out); (case side7 => exact m13_); (case side8 => exact HC0_3.out); rintro e w10 ⟨rfl, hb⟩; refine ⟨_, rfl, ?_⟩; have n0_ := Aside0.mk (blk_below (g := gb300) (o := .cells #[.slice A0_0 l0_0.length c0_0, .slice A0_1 l0_1.length c0_1, .slice A0_2 l0_2.length c0_2, .slice A0_3 l0_3.length c0_3] 34 (0, 0)) m123_ hb); have n1_ := Aside0.mk (below_step m65_ hb); clear BK300; clear HB; have BK300 := n0_; have HB := n1_; clear n0_ n1_; (try clear hb); (try clear hb2); (try clear hk); (try clear hi); obtain ⟨hcz11_0, hcz11_1, hcz11_2, hcz11_3⟩ := cz4_ BK300.out; obtain ⟨hfz11_0, hfz11_1, hfz11_2, hfz11_3⟩ := fz4_ BK300.out) | (go_at_call 74; (with_reducible refine (impl_Plant_pairs.calls k _ _ l0_0 _ _ l0_1 _ _ l0_2 _ _ l0_3 t302 _ ?side1 ?side2 ?side3 ?side4 ?side5 ?side6 ?side7 ?side8 A6.out).mono ?_); (case side1 => exact m7_); (case side2 => exact HC0_0.out); (case side3 => exact m15_); (case side4 => exact HC0_1.out); (case side5 => exact m12_); (case side6 => exact HC0_2.out); (case side7 => exact m13_); (case side8 => exact HC0_3.out); rintro e w12 ⟨v303, rfl, ho0, hb⟩; have n0_ := Aside0.mk (Kd.R_lower ho0 (below_size m65_)); have n1_ := Aside0.mk (blk_below (g := gb300) (o := .cells #[.slice A0_0 l0_0.length c0_0, .slice A0_1 l0_1.length c0_1, .slice A0_2 l0_2.length c0_2, .slice A0_3 l0_3.length c0_3] 34 (0, 0)) m123_ hb); have n2_ := Aside0.mk (below_step m65_ hb); clear BK300; clear HB; have HO304 := n0_; have BK300 := n1_; have HB := n2_; clear n0_ n1_ n2_; (try clear hb); (try clear hb2); (try clear hk); (try clear hi); (try clear ho0); obtain ⟨Ao13, co13, eo13⟩ := Kd.R_slice HO304.out; subst eo13) | (go_at_call 82; (with_reducible refine (impl_foes.calls k _ _ t302 a1 a2 t305 _ ?side1 ?side2 A7.out).mono ?_); (case side1 => exact (by repeat (first | exact (Kd.R_reads' HO304.out).2.2 | (with_reducible refine Kd.C_alloc ?_ _) | (with_reducible refine Kd.C_drewN ?_ _) | (with_reducible refine Kd.C_drew ?_)))); (case side2 => exact (Kd.R_reads' HO304.out).2.1); rintro e w14 ⟨rfl, hb⟩; have n0_ := Aside0.mk (Kd.R_below (by (with_reducible repeat (first | apply Kd.R_alloc | apply Kd.R_drewN | apply Kd.R_drew)); exact HO304.out) hb); have n1_ := Aside0.mk (blk_below (g := gb300) (o := .cells #[.slice A0_0 l0_0.length c0_0, .slice A0_1 l0_1.length c0_1, .slice A0_2 l0_2.length c0_2, .slice A0_3 l0_3.length c0_3] 34 (0, 0)) m123_ hb); have n2_ := Aside0.mk (below_step m65_ hb); clear HO304; clear BK300; clear HB; have HO304 := n0_; have BK300 := n1_; have HB := n2_; clear n0_ n1_ n2_; (try clear hb); (try clear hb2); (try clear hk); (try clear hi)))
  go_ret
  exact ⟨m6_, m65_⟩
 ·replace c5 := Bool.eq_false_iff.mpr c5
  subst c5
  have H1 : (some false) = some r := by rw [if_neg (show ¬ (false = true) by decide)] at H; exact H
  clear H
  have H := H1
  clear H1
  obtain rfl := Option.some.inj H
  go_enter Try.func20, Try.ntmps20
  go_wp2_with (first | ((with_reducible refine gate_dst (N := 3) rfl ?_); refine box_event ?hg (N := 3) ?hd (cs := #[.slice A0_0 l0_0.length c0_0, .slice A0_1 l0_1.length c0_1, .slice A0_2 l0_2.length c0_2, .slice A0_3 l0_3.length c0_3]) (t := 34) ?hr ?_; (case hd => rfl); (case hg => rfl); (case hr => first | (go_simp; done) | (go_simp; rfl)); intro gb300 hg w15 hbox hb; have n0_ := Aside0.mk (below_step m0_ hb); have n1_ := Aside0.mk (hbox); have n2_ := Aside0.mk ((by rw [hg]; exact (below_size m0_) : w.heap.size ≤ gb300)); have n3_ := Aside0.mk ((by rw [hg]; exact (below_size m0_) : w.heap.size ≤ gb300)); clear HB; have HB := n0_; have BK300 := n1_; have GW300 := n2_; have GE300 := n3_; clear n0_ n1_ n2_ n3_; clear hb hbox hg; obtain ⟨hcz16_0, hcz16_1, hcz16_2, hcz16_3⟩ := cz4_ BK300.out; obtain ⟨hfz16_0, hfz16_1, hfz16_2, hfz16_3⟩ := fz4_ BK300.out) | ((with_reducible refine gate_callee (f := 17) rfl ?_); refine goesL_ (some 8) rfl rfl Try.func17 (by kernel_rfl) rfl #[.agg #[.slice A0_0 l0_0.length c0_0, .slice A0_1 l0_1.length c0_1, .slice A0_2 l0_2.length c0_2, .slice A0_3 l0_3.length c0_3]] rfl m3_ ?_; (with_reducible refine (impl_PlantValid.calls k _ _ l0_0 _ _ l0_1 _ _ l0_2 _ _ l0_3 false _ ?side1 ?side2 ?side3 ?side4 ?side5 ?side6 ?side7 ?side8 A4.out).mono ?_); (case side1 => exact m7_); (case side2 => exact HC0_0.out); (case side3 => exact m15_); (case side4 => exact HC0_1.out); (case side5 => exact m12_); (case side6 => exact HC0_2.out); (case side7 => exact m13_); (case side8 => exact HC0_3.out); rintro e w17 ⟨rfl, hb⟩; refine ⟨_, rfl, ?_⟩; have n0_ := Aside0.mk (blk_below (g := gb300) (o := .cells #[.slice A0_0 l0_0.length c0_0, .slice A0_1 l0_1.length c0_1, .slice A0_2 l0_2.length c0_2, .slice A0_3 l0_3.length c0_3] 34 (0, 0)) m123_ hb); have n1_ := Aside0.mk (below_step m65_ hb); clear BK300; clear HB; have BK300 := n0_; have HB := n1_; clear n0_ n1_; (try clear hb); (try clear hb2); (try clear hk); (try clear hi)))
  go_ret
  exact ⟨m6_, m65_⟩

end Go.Proofs.Ytpildfacenlceaa.QFnExactPlantFoes
namespace Go.Proofs.Ytpildfacenlceaa.QFnExactPlantFoes
open Go.RowKit Go.Proofs.YtpildfacenlceaaW.PrintWords Go.Proofs.YtpildfacenlceaaW.PrintLast Go.Proofs.YtpildfacenlceaaW.PrintMore
attribute [local go_sem] str_geq str_gtr str_leq max2_int min2_int max_two min_two max_three min_three max_four min_four   -- for this text's walks alone
set_option linter.unusedVariables false
set_option linter.unusedSimpArgs false
/-! ### laws_FnExactPlantFoes: function 4 -/
def laws_FnExactPlantFoes.f (k : Nat) (l0_0 : List ByteArray) (l0_1 : List (S140)) (l0_2 : List (S142)) (l0_3 : List (S144)) (a1 : ByteArray) (a2 : ByteArray) : Option (Bool) := if (a1.size : Int) > 1048576 then (some true) else (if (a2.size : Int) > 1048576 then (some true) else ((laws_szPlant.f k l0_0 l0_1 l0_2 l0_3 1048576).bind fun t307 => (if t307 < 0 then (some true) else ((laws_toPlant.f k l0_0 l0_1 l0_2 l0_3).bind fun bt308 => ((spec_PlantFoes.f k bt308.1 bt308.2.1 bt308.2.2.1 bt308.2.2.2 a1 a2).bind fun t320 => ((laws_toPlant.f k l0_0 l0_1 l0_2 l0_3).bind fun bt321 => ((impl_PlantFoes.f k bt321.1 bt321.2.1 bt321.2.2.1 bt321.2.2.2 a1 a2).bind fun t334 => (if (t334 != t320) = true then (some false) else ((laws_toPlant.f k l0_0 l0_1 l0_2 l0_3).bind fun bt335 => ((laws_eqPlant.f k bt321.1 bt321.2.1 bt321.2.2.1 bt321.2.2.2 bt335.1 bt335.2.1 bt335.2.2.1 bt335.2.2.2).bind fun t347 => (if t347 = true then (some true) else (some false))))))))))))
theorem laws_FnExactPlantFoes.mono : ∀ a0 a1 a2 a3 a4 a5 k, LeO (laws_FnExactPlantFoes.f k a0 a1 a2 a3 a4 a5) (laws_FnExactPlantFoes.f (k + 1) a0 a1 a2 a3 a4 a5) := by
 intro a0 a1 a2 a3 a4 a5 k
 unfold laws_FnExactPlantFoes.f
 repeat' first
   | (with_reducible exact impl_PlantFoes.mono _ _ _ _ _ _ _)
   | (with_reducible exact laws_eqPlant.mono _ _ _ _ _ _ _ _ _)
   | (with_reducible exact laws_szPlant.mono _ _ _ _ _ _)
   | (with_reducible exact laws_toPlant.mono _ _ _ _ _)
   | (with_reducible exact spec_PlantFoes.mono _ _ _ _ _ _ _)
   | (with_reducible exact LeO.refl _)
   | (with_reducible exact LeO.none _)
   | (with_reducible refine LeO.ite ?_ ?_)
   | (with_reducible refine LeO.bind ?_ (fun _ => ?_))
   | exact impl_PlantFoes.mono _ _ _ _ _ _ _
   | exact laws_eqPlant.mono _ _ _ _ _ _ _ _ _
   | exact laws_szPlant.mono _ _ _ _ _ _
   | exact laws_toPlant.mono _ _ _ _ _
   | exact spec_PlantFoes.mono _ _ _ _ _ _ _
   | exact LeO.none _
   | refine LeO.ite ?_ ?_
   | refine LeO.bind ?_ (fun _ => ?_)
set_option maxHeartbeats 8000000 in
set_option maxRecDepth 100000 in
theorem laws_FnExactPlantFoes.calls (k : Nat) (A0_0 : Option Addr) (c0_0 : Nat) (l0_0 : List ByteArray) (A0_1 : Option Addr) (c0_1 : Nat) (l0_1 : List (S140)) (A0_2 : Option Addr) (c0_2 : Nat) (l0_2 : List (S142)) (A0_3 : Option Addr) (c0_3 : Nat) (l0_3 : List (S144)) (a1 : ByteArray) (a2 : ByteArray) (r : Bool) (w : World) (hr0_0 : Kd.C Kd.string w A0_0 l0_0.length l0_0) (hc0_0 : l0_0.length ≤ c0_0) (hr0_1 : Kd.C k140 w A0_1 l0_1.length l0_1) (hc0_1 : l0_1.length ≤ c0_1) (hr0_2 : Kd.C k142 w A0_2 l0_2.length l0_2) (hc0_2 : l0_2.length ≤ c0_2) (hr0_3 : Kd.C k144 w A0_3 l0_3.length l0_3) (hc0_3 : l0_3.length ≤ c0_3) (h : laws_FnExactPlantFoes.f k l0_0 l0_1 l0_2 l0_3 a1 a2 = some r) :
  Calls Try.prog 4 #[.agg #[.slice A0_0 l0_0.length c0_0, .slice A0_1 l0_1.length c0_1, .slice A0_2 l0_2.length c0_2, .slice A0_3 l0_3.length c0_3], .string a1, .string a2] w fun e w' => e = .returned (.bool r) ∧ Below w.heap.size w w' := by
 have hu27 := Try.underlying27
 have hu34 := Try.underlying34
 have HR0_0 := Aside0.mk hr0_0
 have HC0_0 := Aside0.mk hc0_0
 clear hr0_0 hc0_0
 have HR0_1 := Aside0.mk hr0_1
 have HC0_1 := Aside0.mk hc0_1
 clear hr0_1 hc0_1
 have HR0_2 := Aside0.mk hr0_2
 have HC0_2 := Aside0.mk hc0_2
 clear hr0_2 hc0_2
 have HR0_3 := Aside0.mk hr0_3
 have HC0_3 := Aside0.mk hc0_3
 clear hr0_3 hc0_3
 have HB := Aside0.mk (Below.refl w.heap.size w)
 have H : (if (a1.size : Int) > 1048576 then (some true) else (if (a2.size : Int) > 1048576 then (some true) else ((laws_szPlant.f k l0_0 l0_1 l0_2 l0_3 1048576).bind fun t307 => (if t307 < 0 then (some true) else ((laws_toPlant.f k l0_0 l0_1 l0_2 l0_3).bind fun bt308 => ((spec_PlantFoes.f k bt308.1 bt308.2.1 bt308.2.2.1 bt308.2.2.2 a1 a2).bind fun t320 => ((laws_toPlant.f k l0_0 l0_1 l0_2 l0_3).bind fun bt321 => ((impl_PlantFoes.f k bt321.1 bt321.2.1 bt321.2.2.1 bt321.2.2.2 a1 a2).bind fun t334 => (if (t334 != t320) = true then (some false) else ((laws_toPlant.f k l0_0 l0_1 l0_2 l0_3).bind fun bt335 => ((laws_eqPlant.f k bt321.1 bt321.2.1 bt321.2.2.1 bt321.2.2.2 bt335.1 bt335.2.1 bt335.2.2.1 bt335.2.2.2).bind fun t347 => (if t347 = true then (some true) else (some false))))))))))))) = some r := h
 clear h
 refine (Classical.em ((a1.size : Int) > 1048576)).elim (fun c4 => ?yes40) (fun c4 => ?no40)
 case' yes40 =>
  rw [if_pos c4] at H
  have c4b0 : decide (1048576 < (a1.size : Int)) = true := decide_eq_true c4
  have c4b1 : decide (1048576 < a1.size) = true := decide_eq_true (by omega)
  clear c4
  obtain rfl := Option.some.inj H
 case' no40 =>
  rw [if_neg c4] at H
  have c4b0 : decide (1048576 < (a1.size : Int)) = false := decide_eq_false c4
  have c4b1 : decide (1048576 < a1.size) = false := decide_eq_false (by omega)
  clear c4
  refine (Classical.em ((a2.size : Int) > 1048576)).elim (fun c6 => ?yes41) (fun c6 => ?no41)
  case' yes41 =>
   rw [if_pos c6] at H
   have c6b0 : decide (1048576 < (a2.size : Int)) = true := decide_eq_true c6
   have c6b1 : decide (1048576 < a2.size) = true := decide_eq_true (by omega)
   clear c6
   obtain rfl := Option.some.inj H
  case' no41 =>
   rw [if_neg c6] at H
   have c6b0 : decide (1048576 < (a2.size : Int)) = false := decide_eq_false c6
   have c6b1 : decide (1048576 < a2.size) = false := decide_eq_false (by omega)
   clear c6
   replace H := Option.bind_eq_some_iff.mp H
   obtain ⟨t307, A80, H⟩ := H
   replace H : (if t307 < 0 then (some true) else ((laws_toPlant.f k l0_0 l0_1 l0_2 l0_3).bind fun bt308 => ((spec_PlantFoes.f k bt308.1 bt308.2.1 bt308.2.2.1 bt308.2.2.2 a1 a2).bind fun t320 => ((laws_toPlant.f k l0_0 l0_1 l0_2 l0_3).bind fun bt321 => ((impl_PlantFoes.f k bt321.1 bt321.2.1 bt321.2.2.1 bt321.2.2.2 a1 a2).bind fun t334 => (if (t334 != t320) = true then (some false) else ((laws_toPlant.f k l0_0 l0_1 l0_2 l0_3).bind fun bt335 => ((laws_eqPlant.f k bt321.1 bt321.2.1 bt321.2.2.1 bt321.2.2.2 bt335.1 bt335.2.1 bt335.2.2.1 bt335.2.2.2).bind fun t347 => (if t347 = true then (some true) else (some false)))))))))) = some r := H
   have A8 := Aside0.mk A80
   clear A80
   refine (Classical.em (t307 < 0)).elim (fun c9 => ?yes42) (fun c9 => ?no42)
   case' yes42 =>
    rw [if_pos c9] at H
    have c9b0 : decide (t307 < 0) = true := decide_eq_true c9
    clear c9
    obtain rfl := Option.some.inj H
   case' no42 =>
    rw [if_neg c9] at H
    have c9b0 : decide (t307 < 0) = false := decide_eq_false c9
    clear c9
    replace H := Option.bind_eq_some_iff.mp H
    obtain ⟨⟨t308, t311, t314, t317⟩, A130, H⟩ := H
    replace H : ((spec_PlantFoes.f k t308 t311 t314 t317 a1 a2).bind fun t320 => ((laws_toPlant.f k l0_0 l0_1 l0_2 l0_3).bind fun bt321 => ((impl_PlantFoes.f k bt321.1 bt321.2.1 bt321.2.2.1 bt321.2.2.2 a1 a2).bind fun t334 => (if (t334 != t320) = true then (some false) else ((laws_toPlant.f k l0_0 l0_1 l0_2 l0_3).bind fun bt335 => ((laws_eqPlant.f k bt321.1 bt321.2.1 bt321.2.2.1 bt321.2.2.2 bt335.1 bt335.2.1 bt335.2.2.1 bt335.2.2.2).bind fun t347 => (if t347 = true then (some true) else (some false)))))))) = some r := H
    have A13 := Aside0.mk A130
    clear A130
    replace H := Option.bind_eq_some_iff.mp H
    obtain ⟨t320, A140, H⟩ := H
    replace H : ((laws_toPlant.f k l0_0 l0_1 l0_2 l0_3).bind fun bt321 => ((impl_PlantFoes.f k bt321.1 bt321.2.1 bt321.2.2.1 bt321.2.2.2 a1 a2).bind fun t334 => (if (t334 != t320) = true then (some false) else ((laws_toPlant.f k l0_0 l0_1 l0_2 l0_3).bind fun bt335 => ((laws_eqPlant.f k bt321.1 bt321.2.1 bt321.2.2.1 bt321.2.2.2 bt335.1 bt335.2.1 bt335.2.2.1 bt335.2.2.2).bind fun t347 => (if t347 = true then (some true) else (some false))))))) = some r := H
    have A14 := Aside0.mk A140
    clear A140
    replace H := Option.bind_eq_some_iff.mp H
    obtain ⟨⟨t321, t324, t327, t330⟩, A150, H⟩ := H
    replace H : ((impl_PlantFoes.f k t321 t324 t327 t330 a1 a2).bind fun t334 => (if (t334 != t320) = true then (some false) else ((laws_toPlant.f k l0_0 l0_1 l0_2 l0_3).bind fun bt335 => ((laws_eqPlant.f k t321 t324 t327 t330 bt335.1 bt335.2.1 bt335.2.2.1 bt335.2.2.2).bind fun t347 => (if t347 = true then (some true) else (some false)))))) = some r := H
    have A15 := Aside0.mk A150
    clear A150
    replace H := Option.bind_eq_some_iff.mp H
    obtain ⟨t334, A160, H⟩ := H
    replace H : (if (t334 != t320) = true then (some false) else ((laws_toPlant.f k l0_0 l0_1 l0_2 l0_3).bind fun bt335 => ((laws_eqPlant.f k t321 t324 t327 t330 bt335.1 bt335.2.1 bt335.2.2.1 bt335.2.2.2).bind fun t347 => (if t347 = true then (some true) else (some false))))) = some r := H
    have A16 := Aside0.mk A160
    clear A160
    refine (Classical.em ((t334 != t320) = true)).elim (fun c17 => ?yes43) (fun c17 => ?no43)
    case' yes43 =>
     rw [if_pos c17] at H
     have c17b0 : (t334 != t320) = true := c17
     (try (have c17b1 : decide (t334 = t320) = false := by simpa using c17))
     (try (have c17b2 : (t334 == t320) = false := by simpa using c17))
     (try (have c17b3 : ¬ (t334 = t320) := by simpa using c17))
     clear c17
     obtain rfl := Option.some.inj H
    case' no43 =>
     rw [if_neg c17] at H
     have c17b0 : (t334 != t320) = false := by simpa using c17
     (try (have c17b1 : decide (t334 = t320) = true := by simpa using c17))
     (try (have c17b2 : (t334 == t320) = true := by simpa using c17))
     clear c17
     replace H := Option.bind_eq_some_iff.mp H
     obtain ⟨⟨t335, t338, t341, t344⟩, A380, H⟩ := H
     replace H : ((laws_eqPlant.f k t321 t324 t327 t330 t335 t338 t341 t344).bind fun t347 => (if t347 = true then (some true) else (some false))) = some r := H
     have A38 := Aside0.mk A380
     clear A380
     replace H := Option.bind_eq_some_iff.mp H
     obtain ⟨t347, A390, H⟩ := H
     replace H : (if t347 = true then (some true) else (some false)) = some r := H
     have A39 := Aside0.mk A390
     clear A390
     refine (Classical.em (t347 = true)).elim (fun c40 => ?yes44) (fun c40 => ?no44)
     case' yes44 =>
      subst c40
      have H1 : (some true) = some r := by rw [if_pos rfl] at H; exact H
      clear H
      have H := H1
      clear H1
      obtain rfl := Option.some.inj H
     case' no44 =>
      replace c40 := Bool.eq_false_iff.mpr c40
      subst c40
      have H1 : (some false) = some r := by rw [if_neg (show ¬ (false = true) by decide)] at H; exact H
      clear H
      have H := H1
      clear H1
      obtain rfl := Option.some.inj H
 all_goals
  first
   | (
    go_enter Try.func4, Try.ntmps4
    go_wp2_with (first | ((with_reducible refine gate_dst (N := 3) rfl ?_); refine box_event ?hg (N := 3) ?hd (cs := #[.slice A0_0 l0_0.length c0_0, .slice A0_1 l0_1.length c0_1, .slice A0_2 l0_2.length c0_2, .slice A0_3 l0_3.length c0_3]) (t := 27) ?hr ?_; (case hd => rfl); (case hg => rfl); (case hr => first | (go_simp; done) | (go_simp; rfl)); intro gb306 hg w5 hbox hb; have n0_ := Aside0.mk (below_step m0_ hb); have n1_ := Aside0.mk (hbox); have n2_ := Aside0.mk ((by rw [hg]; exact (below_size m0_) : w.heap.size ≤ gb306)); have n3_ := Aside0.mk ((by rw [hg]; exact (below_size m0_) : w.heap.size ≤ gb306)); clear HB; have HB := n0_; have BK306 := n1_; have GW306 := n2_; have GE306 := n3_; clear n0_ n1_ n2_ n3_; clear hb hbox hg))
    go_ret
    exact ⟨m6_, m9_⟩)
   | (
    go_enter Try.func4, Try.ntmps4
    go_wp2_with (first | ((with_reducible refine gate_dst (N := 3) rfl ?_); refine box_event ?hg (N := 3) ?hd (cs := #[.slice A0_0 l0_0.length c0_0, .slice A0_1 l0_1.length c0_1, .slice A0_2 l0_2.length c0_2, .slice A0_3 l0_3.length c0_3]) (t := 27) ?hr ?_; (case hd => rfl); (case hg => rfl); (case hr => first | (go_simp; done) | (go_simp; rfl)); intro gb306 hg w10 hbox hb; have n0_ := Aside0.mk (below_step m0_ hb); have n1_ := Aside0.mk (hbox); have n2_ := Aside0.mk ((by rw [hg]; exact (below_size m0_) : w.heap.size ≤ gb306)); have n3_ := Aside0.mk ((by rw [hg]; exact (below_size m0_) : w.heap.size ≤ gb306)); clear HB; have HB := n0_; have BK306 := n1_; have GW306 := n2_; have GE306 := n3_; clear n0_ n1_ n2_ n3_; clear hb hbox hg; obtain ⟨hcz11_0, hcz11_1, hcz11_2, hcz11_3⟩ := cz4_ BK306.out; obtain ⟨hfz11_0, hfz11_1, hfz11_2, hfz11_3⟩ := fz4_ BK306.out) | ((with_reducible refine gate_callee (f := 14) rfl ?_); refine goesL_ (some 19) rfl rfl Try.func14 (by kernel_rfl) rfl #[.agg #[.slice A0_0 l0_0.length c0_0, .slice A0_1 l0_1.length c0_1, .slice A0_2 l0_2.length c0_2, .slice A0_3 l0_3.length c0_3], .int .i64 1048576] rfl m3_ ?_; (with_reducible refine (laws_szPlant.calls k _ _ l0_0 _ _ l0_1 _ _ l0_2 _ _ l0_3 1048576 _ _ ?side1 ?side2 ?side3 ?side4 ?side5 ?side6 ?side7 ?side8 (Aside0.out (by assumption))).mono ?_); (case side1 => exact m7_); (case side2 => exact HC0_0.out); (case side3 => exact m15_); (case side4 => exact HC0_1.out); (case side5 => exact m12_); (case side6 => exact HC0_2.out); (case side7 => exact m13_); (case side8 => exact HC0_3.out); rintro e w12 ⟨rfl, hb⟩; refine ⟨_, rfl, ?_⟩; have n0_ := Aside0.mk (blk_below (g := gb306) (o := .cells #[.slice A0_0 l0_0.length c0_0, .slice A0_1 l0_1.length c0_1, .slice A0_2 l0_2.length c0_2, .slice A0_3 l0_3.length c0_3] 27 (0, 0)) m31_ hb); have n1_ := Aside0.mk (below_step m9_ hb); clear BK306; clear HB; have BK306 := n0_; have HB := n1_; clear n0_ n1_; (try clear hb); (try clear hb2); (try clear hk); (try clear hi)))
    go_ret
    exact ⟨m6_, m9_⟩)
   | (
    go_enter Try.func4, Try.ntmps4
    go_wp2_with (first | ((with_reducible refine gate_dst (N := 3) rfl ?_); refine box_event ?hg (N := 3) ?hd (cs := #[.slice A0_0 l0_0.length c0_0, .slice A0_1 l0_1.length c0_1, .slice A0_2 l0_2.length c0_2, .slice A0_3 l0_3.length c0_3]) (t := 27) ?hr ?_; (case hd => rfl); (case hg => rfl); (case hr => first | (go_simp; done) | (go_simp; rfl)); intro gb306 hg w18 hbox hb; have n0_ := Aside0.mk (below_step m0_ hb); have n1_ := Aside0.mk (hbox); have n2_ := Aside0.mk ((by rw [hg]; exact (below_size m0_) : w.heap.size ≤ gb306)); have n3_ := Aside0.mk ((by rw [hg]; exact (below_size m0_) : w.heap.size ≤ gb306)); clear HB; have HB := n0_; have BK306 := n1_; have GW306 := n2_; have GE306 := n3_; clear n0_ n1_ n2_ n3_; clear hb hbox hg; obtain ⟨hcz19_0, hcz19_1, hcz19_2, hcz19_3⟩ := cz4_ BK306.out; obtain ⟨hfz19_0, hfz19_1, hfz19_2, hfz19_3⟩ := fz4_ BK306.out) | ((with_reducible refine gate_callee (f := 14) rfl ?_); refine goesL_ (some 19) rfl rfl Try.func14 (by kernel_rfl) rfl #[.agg #[.slice A0_0 l0_0.length c0_0, .slice A0_1 l0_1.length c0_1, .slice A0_2 l0_2.length c0_2, .slice A0_3 l0_3.length c0_3], .int .i64 1048576] rfl m3_ ?_; (with_reducible refine (laws_szPlant.calls k _ _ l0_0 _ _ l0_1 _ _ l0_2 _ _ l0_3 1048576 _ _ ?side1 ?side2 ?side3 ?side4 ?side5 ?side6 ?side7 ?side8 (Aside0.out (by assumption))).mono ?_); (case side1 => exact m7_); (case side2 => exact HC0_0.out); (case side3 => exact m15_); (case side4 => exact HC0_1.out); (case side5 => exact m12_); (case side6 => exact HC0_2.out); (case side7 => exact m13_); (case side8 => exact HC0_3.out); rintro e w20 ⟨rfl, hb⟩; refine ⟨_, rfl, ?_⟩; have n0_ := Aside0.mk (blk_below (g := gb306) (o := .cells #[.slice A0_0 l0_0.length c0_0, .slice A0_1 l0_1.length c0_1, .slice A0_2 l0_2.length c0_2, .slice A0_3 l0_3.length c0_3] 27 (0, 0)) m31_ hb); have n1_ := Aside0.mk (below_step m9_ hb); clear BK306; clear HB; have BK306 := n0_; have HB := n1_; clear n0_ n1_; (try clear hb); (try clear hb2); (try clear hk); (try clear hi); obtain ⟨hcz21_0, hcz21_1, hcz21_2, hcz21_3⟩ := cz4_ BK306.out; obtain ⟨hfz21_0, hfz21_1, hfz21_2, hfz21_3⟩ := fz4_ BK306.out) | ((with_reducible refine gate_callee (f := 16) rfl ?_); refine goesL_ (some 23) rfl rfl Try.func16 (by kernel_rfl) rfl #[.agg #[.slice A0_0 l0_0.length c0_0, .slice A0_1 l0_1.length c0_1, .slice A0_2 l0_2.length c0_2, .slice A0_3 l0_3.length c0_3]] rfl m3_ ?_; (with_reducible refine (laws_toPlant.calls k _ _ l0_0 _ _ l0_1 _ _ l0_2 _ _ l0_3 t308 t311 t314 _ _ ?side1 ?side2 ?side3 ?side4 ?side5 ?side6 ?side7 ?side8 (Aside0.out (by assumption))).mono ?_); (case side1 => exact m7_); (case side2 => exact HC0_0.out); (case side3 => exact m15_); (case side4 => exact HC0_1.out); (case side5 => exact m12_); (case side6 => exact HC0_2.out); (case side7 => exact m13_); (case side8 => exact HC0_3.out); rintro e w22 ⟨v309, v312, v315, v318, rfl, ho0, ho1, ho2, ho3, hb⟩; refine ⟨_, rfl, ?_⟩; have n0_ := Aside0.mk (Kd.R_lower ho0 (below_size m9_)); have n1_ := Aside0.mk (Kd.R_lower ho1 (below_size m9_)); have n2_ := Aside0.mk (Kd.R_lower ho2 (below_size m9_)); have n3_ := Aside0.mk (Kd.R_lower ho3 (below_size m9_)); have n4_ := Aside0.mk (blk_below (g := gb306) (o := .cells #[.slice A0_0 l0_0.length c0_0, .slice A0_1 l0_1.length c0_1, .slice A0_2 l0_2.length c0_2, .slice A0_3 l0_3.length c0_3] 27 (0, 0)) m31_ hb); have n5_ := Aside0.mk (below_step m9_ hb); clear BK306; clear HB; have HO310 := n0_; have HO313 := n1_; have HO316 := n2_; have HO319 := n3_; have BK306 := n4_; have HB := n5_; clear n0_ n1_ n2_ n3_ n4_ n5_; (try clear hb); (try clear hb2); (try clear hk); (try clear hi); (try clear ho0); (try clear ho1); (try clear ho2); (try clear ho3); obtain ⟨Ao23, co23, eo23⟩ := Kd.R_slice HO310.out; subst eo23; obtain ⟨Ao24, co24, eo24⟩ := Kd.R_slice HO313.out; subst eo24; obtain ⟨Ao25, co25, eo25⟩ := Kd.R_slice HO316.out; subst eo25; obtain ⟨Ao26, co26, eo26⟩ := Kd.R_slice HO319.out; subst eo26) | ((with_reducible refine gate_callee (f := 19) rfl ?_); refine goesL_ (some 26) rfl rfl Try.func19 (by kernel_rfl) rfl #[.agg #[.slice Ao23 t308.length co23, .slice Ao24 t311.length co24, .slice Ao25 t314.length co25, .slice Ao26 t317.length co26], .string a1, .string a2] rfl m3_ ?_; (with_reducible refine (spec_PlantFoes.calls k _ _ t308 _ _ t311 _ _ t314 _ _ t317 a1 a2 _ _ ?side1 ?side2 ?side3 ?side4 ?side5 ?side6 ?side7 ?side8 (Aside0.out (by assumption))).mono ?_); (case side1 => exact (by repeat (first | exact (Kd.R_reads' HO310.out).2.2 | (with_reducible refine Kd.C_alloc ?_ _) | (with_reducible refine Kd.C_drewN ?_ _) | (with_reducible refine Kd.C_drew ?_)))); (case side2 => exact (Kd.R_reads' HO310.out).2.1); (case side3 => exact (by repeat (first | exact (Kd.R_reads' HO313.out).2.2 | (with_reducible refine Kd.C_alloc ?_ _) | (with_reducible refine Kd.C_drewN ?_ _) | (with_reducible refine Kd.C_drew ?_)))); (case side4 => exact (Kd.R_reads' HO313.out).2.1); (case side5 => exact (by repeat (first | exact (Kd.R_reads' HO316.out).2.2 | (with_reducible refine Kd.C_alloc ?_ _) | (with_reducible refine Kd.C_drewN ?_ _) | (with_reducible refine Kd.C_drew ?_)))); (case side6 => exact (Kd.R_reads' HO316.out).2.1); (case side7 => exact (by repeat (first | exact (Kd.R_reads' HO319.out).2.2 | (with_reducible refine Kd.C_alloc ?_ _) | (with_reducible refine Kd.C_drewN ?_ _) | (with_reducible refine Kd.C_drew ?_)))); (case side8 => exact (Kd.R_reads' HO319.out).2.1); rintro e w27 ⟨rfl, hb⟩; refine ⟨_, rfl, ?_⟩; have n0_ := Aside0.mk (Kd.R_below m53_ hb); have n1_ := Aside0.mk (Kd.R_below m54_ hb); have n2_ := Aside0.mk (Kd.R_below m55_ hb); have n3_ := Aside0.mk (Kd.R_below m56_ hb); have n4_ := Aside0.mk (blk_below (g := gb306) (o := .cells #[.slice A0_0 l0_0.length c0_0, .slice A0_1 l0_1.length c0_1, .slice A0_2 l0_2.length c0_2, .slice A0_3 l0_3.length c0_3] 27 (0, 0)) m31_ hb); have n5_ := Aside0.mk (below_step m9_ hb); clear HO310; clear HO313; clear HO316; clear HO319; clear BK306; clear HB; have HO310 := n0_; have HO313 := n1_; have HO316 := n2_; have HO319 := n3_; have BK306 := n4_; have HB := n5_; clear n0_ n1_ n2_ n3_ n4_ n5_; (try clear hb); (try clear hb2); (try clear hk); (try clear hi); obtain ⟨hcz28_0, hcz28_1, hcz28_2, hcz28_3⟩ := cz4_ BK306.out; obtain ⟨hfz28_0, hfz28_1, hfz28_2, hfz28_3⟩ := fz4_ BK306.out) | ((with_reducible refine gate_callee (f := 16) rfl ?_); refine goesL_ (some 28) rfl rfl Try.func16 (by kernel_rfl) rfl #[.agg #[.slice A0_0 l0_0.length c0_0, .slice A0_1 l0_1.length c0_1, .slice A0_2 l0_2.length c0_2, .slice A0_3 l0_3.length c0_3]] rfl m3_ ?_; (with_reducible refine (laws_toPlant.calls k _ _ l0_0 _ _ l0_1 _ _ l0_2 _ _ l0_3 t321 t324 t327 _ _ ?side1 ?side2 ?side3 ?side4 ?side5 ?side6 ?side7 ?side8 (Aside0.out (by assumption))).mono ?_); (case side1 => exact m7_); (case side2 => exact HC0_0.out); (case side3 => exact m15_); (case side4 => exact HC0_1.out); (case side5 => exact m12_); (case side6 => exact HC0_2.out); (case side7 => exact m13_); (case side8 => exact HC0_3.out); rintro e w29 ⟨v322, v325, v328, v331, rfl, ho0, ho1, ho2, ho3, hb⟩; refine ⟨_, rfl, ?_⟩; have n0_ := Aside0.mk (Kd.R_elder' m53_ (Kd.R_base ho0) hb); have n1_ := Aside0.mk (Kd.R_elder' m54_ (Kd.R_base ho1) hb); have n2_ := Aside0.mk (Kd.R_elder' m55_ (Kd.R_base ho2) hb); have n3_ := Aside0.mk (Kd.R_elder' m56_ (Kd.R_base ho3) hb); have n4_ := Aside0.mk (Kd.R_lower (Kd.R_new' ho0 (Kd.R_lt m53_)) (below_size m9_)); have n5_ := Aside0.mk (Kd.R_lower (Kd.R_new' ho1 (Kd.R_lt m54_)) (below_size m9_)); have n6_ := Aside0.mk (Kd.R_lower (Kd.R_new' ho2 (Kd.R_lt m55_)) (below_size m9_)); have n7_ := Aside0.mk (Kd.R_lower (Kd.R_new' ho3 (Kd.R_lt m56_)) (below_size m9_)); have n8_ := Aside0.mk (blk_below (g := gb306) (o := .cells #[.slice A0_0 l0_0.length c0_0, .slice A0_1 l0_1.length c0_1, .slice A0_2 l0_2.length c0_2, .slice A0_3 l0_3.length c0_3] 27 (0, 0)) m31_ hb); have n9_ := Aside0.mk (below_step m9_ hb); clear HO310; clear HO313; clear HO316; clear HO319; clear BK306; clear HB; have HO310 := n0_; have HO313 := n1_; have HO316 := n2_; have HO319 := n3_; have HO323 := n4_; have HO326 := n5_; have HO329 := n6_; have HO332 := n7_; have BK306 := n8_; have HB := n9_; clear n0_ n1_ n2_ n3_ n4_ n5_ n6_ n7_ n8_ n9_; (try clear hb); (try clear hb2); (try clear hk); (try clear hi); (try clear ho0); (try clear ho1); (try clear ho2); (try clear ho3)) | ((with_reducible refine gate_dst (N := 9) rfl ?_); refine box_event ?hg (N := 9) ?hd (cs := #[.slice none 0 0, .slice none 0 0, .slice none 0 0, .slice none 0 0]) (t := 34) ?hr ?_; (case hd => rfl); (case hg => rfl); (case hr => first | (go_simp; done) | (go_simp; rfl)); intro gb333 hg w30 hbox hb; have n0_ := Aside0.mk (Kd.R_below m53_ hb); have n1_ := Aside0.mk (Kd.R_below m54_ hb); have n2_ := Aside0.mk (Kd.R_below m55_ hb); have n3_ := Aside0.mk (Kd.R_below m56_ hb); have n4_ := Aside0.mk (Kd.R_below m111_ hb); have n5_ := Aside0.mk (Kd.R_below m112_ hb); have n6_ := Aside0.mk (Kd.R_below m113_ hb); have n7_ := Aside0.mk (Kd.R_below m114_ hb); have n8_ := Aside0.mk (blk_below (g := gb306) (o := .cells #[.slice A0_0 l0_0.length c0_0, .slice A0_1 l0_1.length c0_1, .slice A0_2 l0_2.length c0_2, .slice A0_3 l0_3.length c0_3] 27 (0, 0)) m31_ hb); have n9_ := Aside0.mk (below_step m9_ hb); have n10_ := Aside0.mk (hbox); have n11_ := Aside0.mk ((by rw [hg]; exact (below_size m9_) : w.heap.size ≤ gb333)); have n12_ := Aside0.mk ((by rw [hg]; exact (below_size m9_) : w.heap.size ≤ gb333)); have n13_ := Aside0.mk ((by rw [hg]; exact Nat.ne_of_lt (blk_lt (g := gb306) (o := .cells #[.slice A0_0 l0_0.length c0_0, .slice A0_1 l0_1.length c0_1, .slice A0_2 l0_2.length c0_2, .slice A0_3 l0_3.length c0_3] 27 (0, 0)) m31_) : gb306 ≠ gb333)); have n14_ := Aside0.mk ((by rw [hg]; exact Nat.ne_of_gt (blk_lt (g := gb306) (o := .cells #[.slice A0_0 l0_0.length c0_0, .slice A0_1 l0_1.length c0_1, .slice A0_2 l0_2.length c0_2, .slice A0_3 l0_3.length c0_3] 27 (0, 0)) m31_) : gb333 ≠ gb306)); clear HO310; clear HO313; clear HO316; clear HO319; clear HO323; clear HO326; clear HO329; clear HO332; clear BK306; clear HB; have HO310 := n0_; have HO313 := n1_; have HO316 := n2_; have HO319 := n3_; have HO323 := n4_; have HO326 := n5_; have HO329 := n6_; have HO332 := n7_; have BK306 := n8_; have HB := n9_; have BK333 := n10_; have GW333 := n11_; have GE333 := n12_; have NB306_333 := n13_; have NB333_306 := n14_; clear n0_ n1_ n2_ n3_ n4_ n5_ n6_ n7_ n8_ n9_ n10_ n11_ n12_ n13_ n14_; clear hb hbox hg; obtain ⟨Ao31, co31, eo31⟩ := Kd.R_slice HO323.out; subst eo31; have hnb32 := NB333_306.out; have hnc32 := NB306_333.out; obtain ⟨hcz33_0, hcz33_1, hcz33_2, hcz33_3⟩ := cz4_ BK333.out; obtain ⟨hfz33_0, hfz33_1, hfz33_2, hfz33_3⟩ := fz4_ BK333.out; obtain ⟨Ao34, co34, eo34⟩ := Kd.R_slice HO326.out; subst eo34; obtain ⟨Ao35, co35, eo35⟩ := Kd.R_slice HO329.out; subst eo35; obtain ⟨Ao36, co36, eo36⟩ := Kd.R_slice HO332.out; subst eo36) | ((with_reducible refine gate_callee (f := 20) rfl ?_); refine goesL_ (some 32) rfl rfl Try.func20 (by kernel_rfl) rfl #[.agg #[.slice Ao31 t321.length co31, .slice Ao34 t324.length co34, .slice Ao35 t327.length co35, .slice Ao36 t330.length co36], .string a1, .string a2] rfl m3_ ?_; (with_reducible refine (impl_PlantFoes.calls k _ _ t321 _ _ t324 _ _ t327 _ _ t330 a1 a2 _ _ ?side1 ?side2 ?side3 ?side4 ?side5 ?side6 ?side7 ?side8 (Aside0.out (by assumption))).mono ?_); (case side1 => exact (by refine (Kd.R_reads' (e := 9) (base := w.heap.size) (ok := fun k_ => (True ∧ some k_ ≠ (.slice Ao23 t308.length co23 : Value).ownBlock)) (n := t321.length) (c := co31) ?_).2.2; exact m99_)); (case side2 => exact (Kd.R_reads' HO323.out).2.1); (case side3 => exact (by refine (Kd.R_reads' (e := 105) (base := w.heap.size) (ok := fun k_ => (True ∧ some k_ ≠ (.slice Ao24 t311.length co24 : Value).ownBlock)) (n := t324.length) (c := co34) ?_).2.2; exact m100_)); (case side4 => exact (Kd.R_reads' HO326.out).2.1); (case side5 => exact (by refine (Kd.R_reads' (e := 86) (base := w.heap.size) (ok := fun k_ => (True ∧ some k_ ≠ (.slice Ao25 t314.length co25 : Value).ownBlock)) (n := t327.length) (c := co35) ?_).2.2; exact m101_)); (case side6 => exact (Kd.R_reads' HO329.out).2.1); (case side7 => exact (by refine (Kd.R_reads' (e := 108) (base := w.heap.size) (ok := fun k_ => (True ∧ some k_ ≠ (.slice Ao26 t317.length co26 : Value).ownBlock)) (n := t330.length) (c := co36) ?_).2.2; exact m102_)); (case side8 => exact (Kd.R_reads' HO332.out).2.1); rintro e w37 ⟨rfl, hb⟩; refine ⟨_, rfl, ?_⟩; have n0_ := Aside0.mk (Kd.R_below (by (with_reducible repeat (first | apply Kd.R_alloc | apply Kd.R_drewN | apply Kd.R_drew)); exact (Kd.R_mono (Kd.R_far (p := ⟨gb333, 3, none⟩) (Kd.R_far (p := ⟨gb333, 2, none⟩) (Kd.R_far (p := ⟨gb333, 1, none⟩) (Kd.R_far (p := ⟨gb333, 0, none⟩) (Kd.R_types HO310.out BK333.out (by decide)) (fun _ hk => hk.2) (.slice Ao31 t321.length co31)) (fun _ hk => hk.2) (.slice Ao34 t324.length co34)) (fun _ hk => hk.2) (.slice Ao35 t327.length co35)) (fun _ hk => hk.2) (.slice Ao36 t330.length co36)) (fun _ h_ => h_.1))) hb); have n1_ := Aside0.mk (Kd.R_below (by (with_reducible repeat (first | apply Kd.R_alloc | apply Kd.R_drewN | apply Kd.R_drew)); exact (Kd.R_mono (Kd.R_far (p := ⟨gb333, 3, none⟩) (Kd.R_far (p := ⟨gb333, 2, none⟩) (Kd.R_far (p := ⟨gb333, 1, none⟩) (Kd.R_far (p := ⟨gb333, 0, none⟩) (Kd.R_types HO313.out BK333.out (by decide)) (fun _ hk => hk.2) (.slice Ao31 t321.length co31)) (fun _ hk => hk.2) (.slice Ao34 t324.length co34)) (fun _ hk => hk.2) (.slice Ao35 t327.length co35)) (fun _ hk => hk.2) (.slice Ao36 t330.length co36)) (fun _ h_ => h_.1))) hb); have n2_ := Aside0.mk (Kd.R_below (by (with_reducible repeat (first | apply Kd.R_alloc | apply Kd.R_drewN | apply Kd.R_drew)); exact (Kd.R_mono (Kd.R_far (p := ⟨gb333, 3, none⟩) (Kd.R_far (p := ⟨gb333, 2, none⟩) (Kd.R_far (p := ⟨gb333, 1, none⟩) (Kd.R_far (p := ⟨gb333, 0, none⟩) (Kd.R_types HO316.out BK333.out (by decide)) (fun _ hk => hk.2) (.slice Ao31 t321.length co31)) (fun _ hk => hk.2) (.slice Ao34 t324.length co34)) (fun _ hk => hk.2) (.slice Ao35 t327.length co35)) (fun _ hk => hk.2) (.slice Ao36 t330.length co36)) (fun _ h_ => h_.1))) hb); have n3_ := Aside0.mk (Kd.R_below (by (with_reducible repeat (first | apply Kd.R_alloc | apply Kd.R_drewN | apply Kd.R_drew)); exact (Kd.R_mono (Kd.R_far (p := ⟨gb333, 3, none⟩) (Kd.R_far (p := ⟨gb333, 2, none⟩) (Kd.R_far (p := ⟨gb333, 1, none⟩) (Kd.R_far (p := ⟨gb333, 0, none⟩) (Kd.R_types HO319.out BK333.out (by decide)) (fun _ hk => hk.2) (.slice Ao31 t321.length co31)) (fun _ hk => hk.2) (.slice Ao34 t324.length co34)) (fun _ hk => hk.2) (.slice Ao35 t327.length co35)) (fun _ hk => hk.2) (.slice Ao36 t330.length co36)) (fun _ h_ => h_.1))) hb); have n4_ := Aside0.mk (Kd.R_below m99_ hb); have n5_ := Aside0.mk (Kd.R_below m100_ hb); have n6_ := Aside0.mk (Kd.R_below m101_ hb); have n7_ := Aside0.mk (Kd.R_below m102_ hb); have n8_ := Aside0.mk (blk_below (g := gb306) (o := .cells #[.slice A0_0 l0_0.length c0_0, .slice A0_1 l0_1.length c0_1, .slice A0_2 l0_2.length c0_2, .slice A0_3 l0_3.length c0_3] 27 (0, 0)) m85_ hb); have n9_ := Aside0.mk (blk_below (g := gb333) (o := .cells #[.slice Ao31 t321.length co31, .slice Ao34 t324.length co34, .slice Ao35 t327.length co35, .slice Ao36 t330.length co36] 34 (0, 0)) (by (with_reducible repeat (first | refine blk_drewN ?_ _ | refine blk_drew ?_ | refine blk_alloc ?_ _)); refine blk_put (cs := #[.slice Ao31 t321.length co31, .slice Ao34 t324.length co34, .slice Ao35 t327.length co35, .slice none 0 0]) ?_ 3 _ rfl; (with_reducible repeat (first | refine blk_drewN ?_ _ | refine blk_drew ?_ | refine blk_alloc ?_ _)); refine blk_put (cs := #[.slice Ao31 t321.length co31, .slice Ao34 t324.length co34, .slice none 0 0, .slice none 0 0]) ?_ 2 _ rfl; (with_reducible repeat (first | refine blk_drewN ?_ _ | refine blk_drew ?_ | refine blk_alloc ?_ _)); refine blk_put (cs := #[.slice Ao31 t321.length co31, .slice none 0 0, .slice none 0 0, .slice none 0 0]) ?_ 1 _ rfl; (with_reducible repeat (first | refine blk_drewN ?_ _ | refine blk_drew ?_ | refine blk_alloc ?_ _)); refine blk_put (cs := #[.slice none 0 0, .slice none 0 0, .slice none 0 0, .slice none 0 0]) ?_ 0 _ rfl; (with_reducible repeat (first | refine blk_drewN ?_ _ | refine blk_drew ?_ | refine blk_alloc ?_ _)); exact BK333.out) hb); have n10_ := Aside0.mk (below_step m34_ hb); clear HO310; clear HO313; clear HO316; clear HO319; clear HO323; clear HO326; clear HO329; clear HO332; clear BK306; clear BK333; clear HB; have HO310 := n0_; have HO313 := n1_; have HO316 := n2_; have HO319 := n3_; have HO323 := n4_; have HO326 := n5_; have HO329 := n6_; have HO332 := n7_; have BK306 := n8_; have BK333 := n9_; have HB := n10_; clear n0_ n1_ n2_ n3_ n4_ n5_ n6_ n7_ n8_ n9_ n10_; (try clear hb); (try clear hb2); (try clear hk); (try clear hi)))
    go_ret
    exact ⟨m6_, m34_⟩)
   | (
    go_enter Try.func4, Try.ntmps4
    try go_wp2_with (first | ((with_reducible refine gate_dst (N := 3) rfl ?_); refine box_event ?hg (N := 3) ?hd (cs := #[.slice A0_0 l0_0.length c0_0, .slice A0_1 l0_1.length c0_1, .slice A0_2 l0_2.length c0_2, .slice A0_3 l0_3.length c0_3]) (t := 27) ?hr ?_; (case hd => rfl); (case hg => rfl); (case hr => first | (go_simp; done) | (go_simp; rfl)); intro gb306 hg w41 hbox hb; have n0_ := Aside0.mk (below_step m0_ hb); have n1_ := Aside0.mk (hbox); have n2_ := Aside0.mk ((by rw [hg]; exact (below_size m0_) : w.heap.size ≤ gb306)); have n3_ := Aside0.mk ((by rw [hg]; exact (below_size m0_) : w.heap.size ≤ gb306)); clear HB; have HB := n0_; have BK306 := n1_; have GW306 := n2_; have GE306 := n3_; clear n0_ n1_ n2_ n3_; clear hb hbox hg; obtain ⟨hcz42_0, hcz42_1, hcz42_2, hcz42_3⟩ := cz4_ BK306.out; obtain ⟨hfz42_0, hfz42_1, hfz42_2, hfz42_3⟩ := fz4_ BK306.out) | ((with_reducible refine gate_callee (f := 14) rfl ?_); refine goesL_ (some 19) rfl rfl Try.func14 (by kernel_rfl) rfl #[.agg #[.slice A0_0 l0_0.length c0_0, .slice A0_1 l0_1.length c0_1, .slice A0_2 l0_2.length c0_2, .slice A0_3 l0_3.length c0_3], .int .i64 1048576] rfl m3_ ?_; (with_reducible refine (laws_szPlant.calls k _ _ l0_0 _ _ l0_1 _ _ l0_2 _ _ l0_3 1048576 _ _ ?side1 ?side2 ?side3 ?side4 ?side5 ?side6 ?side7 ?side8 (Aside0.out (by assumption))).mono ?_); (case side1 => exact m7_); (case side2 => exact HC0_0.out); (case side3 => exact m15_); (case side4 => exact HC0_1.out); (case side5 => exact m12_); (case side6 => exact HC0_2.out); (case side7 => exact m13_); (case side8 => exact HC0_3.out); rintro e w43 ⟨rfl, hb⟩; refine ⟨_, rfl, ?_⟩; have n0_ := Aside0.mk (blk_below (g := gb306) (o := .cells #[.slice A0_0 l0_0.length c0_0, .slice A0_1 l0_1.length c0_1, .slice A0_2 l0_2.length c0_2, .slice A0_3 l0_3.length c0_3] 27 (0, 0)) m31_ hb); have n1_ := Aside0.mk (below_step m9_ hb); clear BK306; clear HB; have BK306 := n0_; have HB := n1_; clear n0_ n1_; (try clear hb); (try clear hb2); (try clear hk); (try clear hi); obtain ⟨hcz44_0, hcz44_1, hcz44_2, hcz44_3⟩ := cz4_ BK306.out; obtain ⟨hfz44_0, hfz44_1, hfz44_2, hfz44_3⟩ := fz4_ BK306.out) | ((with_reducible refine gate_callee (f := 16) rfl ?_); refine goesL_ (some 23) rfl rfl Try.func16 (by kernel_rfl) rfl #[.agg #[.slice A0_0 l0_0.length c0_0, .slice A0_1 l0_1.length c0_1, .slice A0_2 l0_2.length c0_2, .slice A0_3 l0_3.length c0_3]] rfl m3_ ?_; (with_reducible refine (laws_toPlant.calls k _ _ l0_0 _ _ l0_1 _ _ l0_2 _ _ l0_3 t308 t311 t314 _ _ ?side1 ?side2 ?side3 ?side4 ?side5 ?side6 ?side7 ?side8 (Aside0.out (by assumption))).mono ?_); (case side1 => exact m7_); (case side2 => exact HC0_0.out); (case side3 => exact m15_); (case side4 => exact HC0_1.out); (case side5 => exact m12_); (case side6 => exact HC0_2.out); (case side7 => exact m13_); (case side8 => exact HC0_3.out); rintro e w45 ⟨v309, v312, v315, v318, rfl, ho0, ho1, ho2, ho3, hb⟩; refine ⟨_, rfl, ?_⟩; have n0_ := Aside0.mk (Kd.R_lower ho0 (below_size m9_)); have n1_ := Aside0.mk (Kd.R_lower ho1 (below_size m9_)); have n2_ := Aside0.mk (Kd.R_lower ho2 (below_size m9_)); have n3_ := Aside0.mk (Kd.R_lower ho3 (below_size m9_)); have n4_ := Aside0.mk (blk_below (g := gb306) (o := .cells #[.slice A0_0 l0_0.length c0_0, .slice A0_1 l0_1.length c0_1, .slice A0_2 l0_2.length c0_2, .slice A0_3 l0_3.length c0_3] 27 (0, 0)) m31_ hb); have n5_ := Aside0.mk (below_step m9_ hb); clear BK306; clear HB; have HO310 := n0_; have HO313 := n1_; have HO316 := n2_; have HO319 := n3_; have BK306 := n4_; have HB := n5_; clear n0_ n1_ n2_ n3_ n4_ n5_; (try clear hb); (try clear hb2); (try clear hk); (try clear hi); (try clear ho0); (try clear ho1); (try clear ho2); (try clear ho3); obtain ⟨Ao46, co46, eo46⟩ := Kd.R_slice HO310.out; subst eo46; obtain ⟨Ao47, co47, eo47⟩ := Kd.R_slice HO313.out; subst eo47; obtain ⟨Ao48, co48, eo48⟩ := Kd.R_slice HO316.out; subst eo48; obtain ⟨Ao49, co49, eo49⟩ := Kd.R_slice HO319.out; subst eo49) | ((with_reducible refine gate_callee (f := 19) rfl ?_); refine goesL_ (some 26) rfl rfl Try.func19 (by kernel_rfl) rfl #[.agg #[.slice Ao46 t308.length co46, .slice Ao47 t311.length co47, .slice Ao48 t314.length co48, .slice Ao49 t317.length co49], .string a1, .string a2] rfl m3_ ?_; (with_reducible refine (spec_PlantFoes.calls k _ _ t308 _ _ t311 _ _ t314 _ _ t317 a1 a2 _ _ ?side1 ?side2 ?side3 ?side4 ?side5 ?side6 ?side7 ?side8 (Aside0.out (by assumption))).mono ?_); (case side1 => exact (by repeat (first | exact (Kd.R_reads' HO310.out).2.2 | (with_reducible refine Kd.C_alloc ?_ _) | (with_reducible refine Kd.C_drewN ?_ _) | (with_reducible refine Kd.C_drew ?_)))); (case side2 => exact (Kd.R_reads' HO310.out).2.1); (case side3 => exact (by repeat (first | exact (Kd.R_reads' HO313.out).2.2 | (with_reducible refine Kd.C_alloc ?_ _) | (with_reducible refine Kd.C_drewN ?_ _) | (with_reducible refine Kd.C_drew ?_)))); (case side4 => exact (Kd.R_reads' HO313.out).2.1); (case side5 => exact (by repeat (first | exact (Kd.R_reads' HO316.out).2.2 | (with_reducible refine Kd.C_alloc ?_ _) | (with_reducible refine Kd.C_drewN ?_ _) | (with_reducible refine Kd.C_drew ?_)))); (case side6 => exact (Kd.R_reads' HO316.out).2.1); (case side7 => exact (by repeat (first | exact (Kd.R_reads' HO319.out).2.2 | (with_reducible refine Kd.C_alloc ?_ _) | (with_reducible refine Kd.C_drewN ?_ _) | (with_reducible refine Kd.C_drew ?_)))); (case side8 => exact (Kd.R_reads' HO319.out).2.1); rintro e w50 ⟨rfl, hb⟩; refine ⟨_, rfl, ?_⟩; have n0_ := Aside0.mk (Kd.R_below m53_ hb); have n1_ := Aside0.mk (Kd.R_below m54_ hb); have n2_ := Aside0.mk (Kd.R_below m55_ hb); have n3_ := Aside0.mk (Kd.R_below m56_ hb); have n4_ := Aside0.mk (blk_below (g := gb306) (o := .cells #[.slice A0_0 l0_0.length c0_0, .slice A0_1 l0_1.length c0_1, .slice A0_2 l0_2.length c0_2, .slice A0_3 l0_3.length c0_3] 27 (0, 0)) m31_ hb); have n5_ := Aside0.mk (below_step m9_ hb); clear HO310; clear HO313; clear HO316; clear HO319; clear BK306; clear HB; have HO310 := n0_; have HO313 := n1_; have HO316 := n2_; have HO319 := n3_; have BK306 := n4_; have HB := n5_; clear n0_ n1_ n2_ n3_ n4_ n5_; (try clear hb); (try clear hb2); (try clear hk); (try clear hi); obtain ⟨hcz51_0, hcz51_1, hcz51_2, hcz51_3⟩ := cz4_ BK306.out; obtain ⟨hfz51_0, hfz51_1, hfz51_2, hfz51_3⟩ := fz4_ BK306.out) | ((with_reducible refine gate_callee (f := 16) rfl ?_); refine goesL_ (some 28) rfl rfl Try.func16 (by kernel_rfl) rfl #[.agg #[.slice A0_0 l0_0.length c0_0, .slice A0_1 l0_1.length c0_1, .slice A0_2 l0_2.length c0_2, .slice A0_3 l0_3.length c0_3]] rfl m3_ ?_; (with_reducible refine (laws_toPlant.calls k _ _ l0_0 _ _ l0_1 _ _ l0_2 _ _ l0_3 t321 t324 t327 _ _ ?side1 ?side2 ?side3 ?side4 ?side5 ?side6 ?side7 ?side8 (Aside0.out (by assumption))).mono ?_); (case side1 => exact m7_); (case side2 => exact HC0_0.out); (case side3 => exact m15_); (case side4 => exact HC0_1.out); (case side5 => exact m12_); (case side6 => exact HC0_2.out); (case side7 => exact m13_); (case side8 => exact HC0_3.out); rintro e w52 ⟨v322, v325, v328, v331, rfl, ho0, ho1, ho2, ho3, hb⟩; refine ⟨_, rfl, ?_⟩; have n0_ := Aside0.mk (Kd.R_elder' m53_ (Kd.R_base ho0) hb); have n1_ := Aside0.mk (Kd.R_elder' m54_ (Kd.R_base ho1) hb); have n2_ := Aside0.mk (Kd.R_elder' m55_ (Kd.R_base ho2) hb); have n3_ := Aside0.mk (Kd.R_elder' m56_ (Kd.R_base ho3) hb); have n4_ := Aside0.mk (Kd.R_lower (Kd.R_new' ho0 (Kd.R_lt m53_)) (below_size m9_)); have n5_ := Aside0.mk (Kd.R_lower (Kd.R_new' ho1 (Kd.R_lt m54_)) (below_size m9_)); have n6_ := Aside0.mk (Kd.R_lower (Kd.R_new' ho2 (Kd.R_lt m55_)) (below_size m9_)); have n7_ := Aside0.mk (Kd.R_lower (Kd.R_new' ho3 (Kd.R_lt m56_)) (below_size m9_)); have n8_ := Aside0.mk (blk_below (g := gb306) (o := .cells #[.slice A0_0 l0_0.length c0_0, .slice A0_1 l0_1.length c0_1, .slice A0_2 l0_2.length c0_2, .slice A0_3 l0_3.length c0_3] 27 (0, 0)) m31_ hb); have n9_ := Aside0.mk (below_step m9_ hb); clear HO310; clear HO313; clear HO316; clear HO319; clear BK306; clear HB; have HO310 := n0_; have HO313 := n1_; have HO316 := n2_; have HO319 := n3_; have HO323 := n4_; have HO326 := n5_; have HO329 := n6_; have HO332 := n7_; have BK306 := n8_; have HB := n9_; clear n0_ n1_ n2_ n3_ n4_ n5_ n6_ n7_ n8_ n9_; (try clear hb); (try clear hb2); (try clear hk); (try clear hi); (try clear ho0); (try clear ho1); (try clear ho2); (try clear ho3)) | ((with_reducible refine gate_dst (N := 9) rfl ?_); refine box_event ?hg (N := 9) ?hd (cs := #[.slice none 0 0, .slice none 0 0, .slice none 0 0, .slice none 0 0]) (t := 34) ?hr ?_; (case hd => rfl); (case hg => rfl); (case hr => first | (go_simp; done) | (go_simp; rfl)); intro gb333 hg w53 hbox hb; have n0_ := Aside0.mk (Kd.R_below m53_ hb); have n1_ := Aside0.mk (Kd.R_below m54_ hb); have n2_ := Aside0.mk (Kd.R_below m55_ hb); have n3_ := Aside0.mk (Kd.R_below m56_ hb); have n4_ := Aside0.mk (Kd.R_below m111_ hb); have n5_ := Aside0.mk (Kd.R_below m112_ hb); have n6_ := Aside0.mk (Kd.R_below m113_ hb); have n7_ := Aside0.mk (Kd.R_below m114_ hb); have n8_ := Aside0.mk (blk_below (g := gb306) (o := .cells #[.slice A0_0 l0_0.length c0_0, .slice A0_1 l0_1.length c0_1, .slice A0_2 l0_2.length c0_2, .slice A0_3 l0_3.length c0_3] 27 (0, 0)) m31_ hb); have n9_ := Aside0.mk (below_step m9_ hb); have n10_ := Aside0.mk (hbox); have n11_ := Aside0.mk ((by rw [hg]; exact (below_size m9_) : w.heap.size ≤ gb333)); have n12_ := Aside0.mk ((by rw [hg]; exact (below_size m9_) : w.heap.size ≤ gb333)); have n13_ := Aside0.mk ((by rw [hg]; exact Nat.ne_of_lt (blk_lt (g := gb306) (o := .cells #[.slice A0_0 l0_0.length c0_0, .slice A0_1 l0_1.length c0_1, .slice A0_2 l0_2.length c0_2, .slice A0_3 l0_3.length c0_3] 27 (0, 0)) m31_) : gb306 ≠ gb333)); have n14_ := Aside0.mk ((by rw [hg]; exact Nat.ne_of_gt (blk_lt (g := gb306) (o := .cells #[.slice A0_0 l0_0.length c0_0, .slice A0_1 l0_1.length c0_1, .slice A0_2 l0_2.length c0_2, .slice A0_3 l0_3.length c0_3] 27 (0, 0)) m31_) : gb333 ≠ gb306)); clear HO310; clear HO313; clear HO316; clear HO319; clear HO323; clear HO326; clear HO329; clear HO332; clear BK306; clear HB; have HO310 := n0_; have HO313 := n1_; have HO316 := n2_; have HO319 := n3_; have HO323 := n4_; have HO326 := n5_; have HO329 := n6_; have HO332 := n7_; have BK306 := n8_; have HB := n9_; have BK333 := n10_; have GW333 := n11_; have GE333 := n12_; have NB306_333 := n13_; have NB333_306 := n14_; clear n0_ n1_ n2_ n3_ n4_ n5_ n6_ n7_ n8_ n9_ n10_ n11_ n12_ n13_ n14_; clear hb hbox hg; obtain ⟨Ao54, co54, eo54⟩ := Kd.R_slice HO323.out; subst eo54; have hnb55 := NB333_306.out; have hnc55 := NB306_333.out; obtain ⟨hcz56_0, hcz56_1, hcz56_2, hcz56_3⟩ := cz4_ BK333.out; obtain ⟨hfz56_0, hfz56_1, hfz56_2, hfz56_3⟩ := fz4_ BK333.out; obtain ⟨Ao57, co57, eo57⟩ := Kd.R_slice HO326.out; subst eo57; obtain ⟨Ao58, co58, eo58⟩ := Kd.R_slice HO329.out; subst eo58; obtain ⟨Ao59, co59, eo59⟩ := Kd.R_slice HO332.out; subst eo59) | ((with_reducible refine gate_callee (f := 20) rfl ?_); refine goesL_ (some 32) rfl rfl Try.func20 (by kernel_rfl) rfl #[.agg #[.slice Ao54 t321.length co54, .slice Ao57 t324.length co57, .slice Ao58 t327.length co58, .slice Ao59 t330.length co59], .string a1, .string a2] rfl m3_ ?_; (with_reducible refine (impl_PlantFoes.calls k _ _ t321 _ _ t324 _ _ t327 _ _ t330 a1 a2 _ _ ?side1 ?side2 ?side3 ?side4 ?side5 ?side6 ?side7 ?side8 (Aside0.out (by assumption))).mono ?_); (case side1 => exact (by refine (Kd.R_reads' (e := 9) (base := w.heap.size) (ok := fun k_ => (True ∧ some k_ ≠ (.slice Ao46 t308.length co46 : Value).ownBlock)) (n := t321.length) (c := co54) ?_).2.2; exact m103_)); (case side2 => exact (Kd.R_reads' HO323.out).2.1); (case side3 => exact (by refine (Kd.R_reads' (e := 105) (base := w.heap.size) (ok := fun k_ => (True ∧ some k_ ≠ (.slice Ao47 t311.length co47 : Value).ownBlock)) (n := t324.length) (c := co57) ?_).2.2; exact m104_)); (case side4 => exact (Kd.R_reads' HO326.out).2.1); (case side5 => exact (by refine (Kd.R_reads' (e := 86) (base := w.heap.size) (ok := fun k_ => (True ∧ some k_ ≠ (.slice Ao48 t314.length co48 : Value).ownBlock)) (n := t327.length) (c := co58) ?_).2.2; exact m105_)); (case side6 => exact (Kd.R_reads' HO329.out).2.1); (case side7 => exact (by refine (Kd.R_reads' (e := 108) (base := w.heap.size) (ok := fun k_ => (True ∧ some k_ ≠ (.slice Ao49 t317.length co49 : Value).ownBlock)) (n := t330.length) (c := co59) ?_).2.2; exact m106_)); (case side8 => exact (Kd.R_reads' HO332.out).2.1); rintro e w60 ⟨rfl, hb⟩; refine ⟨_, rfl, ?_⟩; have n0_ := Aside0.mk (Kd.R_below (by (with_reducible repeat (first | apply Kd.R_alloc | apply Kd.R_drewN | apply Kd.R_drew)); exact (Kd.R_mono (Kd.R_far (p := ⟨gb333, 3, none⟩) (Kd.R_far (p := ⟨gb333, 2, none⟩) (Kd.R_far (p := ⟨gb333, 1, none⟩) (Kd.R_far (p := ⟨gb333, 0, none⟩) (Kd.R_types HO310.out BK333.out (by decide)) (fun _ hk => hk.2) (.slice Ao54 t321.length co54)) (fun _ hk => hk.2) (.slice Ao57 t324.length co57)) (fun _ hk => hk.2) (.slice Ao58 t327.length co58)) (fun _ hk => hk.2) (.slice Ao59 t330.length co59)) (fun _ h_ => h_.1))) hb); have n1_ := Aside0.mk (Kd.R_below (by (with_reducible repeat (first | apply Kd.R_alloc | apply Kd.R_drewN | apply Kd.R_drew)); exact (Kd.R_mono (Kd.R_far (p := ⟨gb333, 3, none⟩) (Kd.R_far (p := ⟨gb333, 2, none⟩) (Kd.R_far (p := ⟨gb333, 1, none⟩) (Kd.R_far (p := ⟨gb333, 0, none⟩) (Kd.R_types HO313.out BK333.out (by decide)) (fun _ hk => hk.2) (.slice Ao54 t321.length co54)) (fun _ hk => hk.2) (.slice Ao57 t324.length co57)) (fun _ hk => hk.2) (.slice Ao58 t327.length co58)) (fun _ hk => hk.2) (.slice Ao59 t330.length co59)) (fun _ h_ => h_.1))) hb); have n2_ := Aside0.mk (Kd.R_below (by (with_reducible repeat (first | apply Kd.R_alloc | apply Kd.R_drewN | apply Kd.R_drew)); exact (Kd.R_mono (Kd.R_far (p := ⟨gb333, 3, none⟩) (Kd.R_far (p := ⟨gb333, 2, none⟩) (Kd.R_far (p := ⟨gb333, 1, none⟩) (Kd.R_far (p := ⟨gb333, 0, none⟩) (Kd.R_types HO316.out BK333.out (by decide)) (fun _ hk => hk.2) (.slice Ao54 t321.length co54)) (fun _ hk => hk.2) (.slice Ao57 t324.length co57)) (fun _ hk => hk.2) (.slice Ao58 t327.length co58)) (fun _ hk => hk.2) (.slice Ao59 t330.length co59)) (fun _ h_ => h_.1))) hb); have n3_ := Aside0.mk (Kd.R_below (by (with_reducible repeat (first | apply Kd.R_alloc | apply Kd.R_drewN | apply Kd.R_drew)); exact (Kd.R_mono (Kd.R_far (p := ⟨gb333, 3, none⟩) (Kd.R_far (p := ⟨gb333, 2, none⟩) (Kd.R_far (p := ⟨gb333, 1, none⟩) (Kd.R_far (p := ⟨gb333, 0, none⟩) (Kd.R_types HO319.out BK333.out (by decide)) (fun _ hk => hk.2) (.slice Ao54 t321.length co54)) (fun _ hk => hk.2) (.slice Ao57 t324.length co57)) (fun _ hk => hk.2) (.slice Ao58 t327.length co58)) (fun _ hk => hk.2) (.slice Ao59 t330.length co59)) (fun _ h_ => h_.1))) hb); have n4_ := Aside0.mk (Kd.R_below m103_ hb); have n5_ := Aside0.mk (Kd.R_below m104_ hb); have n6_ := Aside0.mk (Kd.R_below m105_ hb); have n7_ := Aside0.mk (Kd.R_below m106_ hb); have n8_ := Aside0.mk (blk_below (g := gb306) (o := .cells #[.slice A0_0 l0_0.length c0_0, .slice A0_1 l0_1.length c0_1, .slice A0_2 l0_2.length c0_2, .slice A0_3 l0_3.length c0_3] 27 (0, 0)) m85_ hb); have n9_ := Aside0.mk (blk_below (g := gb333) (o := .cells #[.slice Ao54 t321.length co54, .slice Ao57 t324.length co57, .slice Ao58 t327.length co58, .slice Ao59 t330.length co59] 34 (0, 0)) (by (with_reducible repeat (first | refine blk_drewN ?_ _ | refine blk_drew ?_ | refine blk_alloc ?_ _)); refine blk_put (cs := #[.slice Ao54 t321.length co54, .slice Ao57 t324.length co57, .slice Ao58 t327.length co58, .slice none 0 0]) ?_ 3 _ rfl; (with_reducible repeat (first | refine blk_drewN ?_ _ | refine blk_drew ?_ | refine blk_alloc ?_ _)); refine blk_put (cs := #[.slice Ao54 t321.length co54, .slice Ao57 t324.length co57, .slice none 0 0, .slice none 0 0]) ?_ 2 _ rfl; (with_reducible repeat (first | refine blk_drewN ?_ _ | refine blk_drew ?_ | refine blk_alloc ?_ _)); refine blk_put (cs := #[.slice Ao54 t321.length co54, .slice none 0 0, .slice none 0 0, .slice none 0 0]) ?_ 1 _ rfl; (with_reducible repeat (first | refine blk_drewN ?_ _ | refine blk_drew ?_ | refine blk_alloc ?_ _)); refine blk_put (cs := #[.slice none 0 0, .slice none 0 0, .slice none 0 0, .slice none 0 0]) ?_ 0 _ rfl; (with_reducible repeat (first | refine blk_drewN ?_ _ | refine blk_drew ?_ | refine blk_alloc ?_ _)); exact BK333.out) hb); have n10_ := Aside0.mk (below_step m34_ hb); clear HO310; clear HO313; clear HO316; clear HO319; clear HO323; clear HO326; clear HO329; clear HO332; clear BK306; clear BK333; clear HB; have HO310 := n0_; have HO313 := n1_; have HO316 := n2_; have HO319 := n3_; have HO323 := n4_; have HO326 := n5_; have HO329 := n6_; have HO332 := n7_; have BK306 := n8_; have BK333 := n9_; have HB := n10_; clear n0_ n1_ n2_ n3_ n4_ n5_ n6_ n7_ n8_ n9_ n10_; (try clear hb); (try clear hb2); (try clear hk); (try clear hi)))
    have n0_ := Aside0.mk (Kd.R_drew HO310.out)
    have n1_ := Aside0.mk (Kd.R_drew HO313.out)
    have n2_ := Aside0.mk (Kd.R_drew HO316.out)
    have n3_ := Aside0.mk (Kd.R_drew HO319.out)
    have n4_ := Aside0.mk (Kd.R_drew HO323.out)
    have n5_ := Aside0.mk (Kd.R_drew HO326.out)
    have n6_ := Aside0.mk (Kd.R_drew HO329.out)
    have n7_ := Aside0.mk (Kd.R_drew HO332.out)
    have n8_ := Aside0.mk (blk_drew BK306.out)
    have n9_ := Aside0.mk (blk_drew BK333.out)
    have n10_ := Aside0.mk (below_drew1 HB.out)
    clear HO310
    clear HO313
    clear HO316
    clear HO319
    clear HO323
    clear HO326
    clear HO329
    clear HO332
    clear BK306
    clear BK333
    clear HB
    have HO310 := n0_
    have HO313 := n1_
    have HO316 := n2_
    have HO319 := n3_
    have HO323 := n4_
    have HO326 := n5_
    have HO329 := n6_
    have HO332 := n7_
    have BK306 := n8_
    have BK333 := n9_
    have HB := n10_
    clear n0_ n1_ n2_ n3_ n4_ n5_ n6_ n7_ n8_ n9_ n10_
    refine start_ (n := 5) (S := fun w' => w'.cell? ⟨gb333, 0, none⟩ = some (.slice Ao54 t321.length co54) ∧ w'.cell? ⟨gb333, 1, none⟩ = some (.slice Ao57 t324.length co57) ∧ w'.cell? ⟨gb333, 2, none⟩ = some (.slice Ao58 t327.length co58) ∧ w'.cell? ⟨gb333, 3, none⟩ = some (.slice Ao59 t330.length co59) ∧ w'.cell? ⟨gb306, 0, none⟩ = some (.slice A0_0 l0_0.length c0_0) ∧ w'.cell? ⟨gb306, 1, none⟩ = some (.slice A0_1 l0_1.length c0_1) ∧ w'.cell? ⟨gb306, 2, none⟩ = some (.slice A0_2 l0_2.length c0_2) ∧ w'.cell? ⟨gb306, 3, none⟩ = some (.slice A0_3 l0_3.length c0_3)) (ds := []) #[false, false, false, false, false] (by kernel_rfl) rfl rfl ⟨(blk_cell BK333.out 0).trans rfl, (blk_cell BK333.out 1).trans rfl, (blk_cell BK333.out 2).trans rfl, (blk_cell BK333.out 3).trans rfl, (blk_cell BK306.out 0).trans rfl, (blk_cell BK306.out 1).trans rfl, (blk_cell BK306.out 2).trans rfl, (blk_cell BK306.out 3).trans rfl⟩ (fun hHeld => ?_)
    generalize w60.drew = w61 at HO310 HO313 HO316 HO319 HO323 HO326 HO329 HO332 BK306 BK333 HB hHeld ⊢
    refine take_ (i := 0) (N := some 36) (v := ?_) (a' := ?_) #[true, false, false, false, false] rfl rfl (by kernel_rfl) (fun _ _ _ h => h) (Or.inl ⟨(by rfl), ?_⟩) hHeld ?_ ?_; rotate_left; rintro w' ⟨s0, s1, s2, s3, s4, s5, s6, s7⟩; go_simp; with_reducible rfl; rotate_left; simp only [Act.put, List.setIfInBounds_toArray, List.set_cons_zero, List.set_cons_succ, i64_w, i32_w]; rfl
    refine take_ (i := 1) (N := some 37) (v := ?_) (a' := ?_) #[true, true, false, false, false] rfl rfl (by kernel_rfl) (fun _ _ _ h => h) (Or.inl ⟨(by rfl), ?_⟩) hHeld ?_ ?_; rotate_left; rintro w' ⟨s0, s1, s2, s3, s4, s5, s6, s7⟩; go_simp; with_reducible rfl; rotate_left; simp only [Act.put, List.setIfInBounds_toArray, List.set_cons_zero, List.set_cons_succ, i64_w, i32_w]; rfl
    refine one_ (i := 2) (N := some 38) #[true, true, true, false, false] rfl rfl (by kernel_rfl) (by decide) (fun K hK => ?_)
    refine goes_ Try.func16 (by kernel_rfl) rfl #[.agg #[.slice A0_0 l0_0.length c0_0, .slice A0_1 l0_1.length c0_1, .slice A0_2 l0_2.length c0_2, .slice A0_3 l0_3.length c0_3]] (by rfl) rfl rfl m3_ ?_
    with_reducible refine (laws_toPlant.calls k _ _ l0_0 _ _ l0_1 _ _ l0_2 _ _ l0_3 t335 t338 t341 _ _ ?side1 ?side2 ?side3 ?side4 ?side5 ?side6 ?side7 ?side8 (Aside0.out (by assumption))).mono ?_
    (case side1 => exact m7_)
    (case side2 => exact HC0_0.out)
    (case side3 => exact m15_)
    (case side4 => exact HC0_1.out)
    (case side5 => exact m12_)
    (case side6 => exact HC0_2.out)
    (case side7 => exact m13_)
    (case side8 => exact HC0_3.out)
    rintro e w62 ⟨v336, v339, v342, v345, rfl, ho0, ho1, ho2, ho3, hb⟩
    refine ⟨_, rfl, ?_⟩
    have n0_ := Aside0.mk (Kd.R_elder' m53_ (Kd.R_base ho0) hb)
    have n1_ := Aside0.mk (Kd.R_elder' m54_ (Kd.R_base ho1) hb)
    have n2_ := Aside0.mk (Kd.R_elder' m55_ (Kd.R_base ho2) hb)
    have n3_ := Aside0.mk (Kd.R_elder' m56_ (Kd.R_base ho3) hb)
    have n4_ := Aside0.mk (Kd.R_elder' m111_ (Kd.R_base ho0) hb)
    have n5_ := Aside0.mk (Kd.R_elder' m112_ (Kd.R_base ho1) hb)
    have n6_ := Aside0.mk (Kd.R_elder' m113_ (Kd.R_base ho2) hb)
    have n7_ := Aside0.mk (Kd.R_elder' m114_ (Kd.R_base ho3) hb)
    have n8_ := Aside0.mk (Kd.R_lower (Kd.R_new' (Kd.R_new' ho0 (Kd.R_lt m53_)) (Kd.R_lt m111_)) (below_size m34_))
    have n9_ := Aside0.mk (Kd.R_lower (Kd.R_new' (Kd.R_new' ho1 (Kd.R_lt m54_)) (Kd.R_lt m112_)) (below_size m34_))
    have n10_ := Aside0.mk (Kd.R_lower (Kd.R_new' (Kd.R_new' ho2 (Kd.R_lt m55_)) (Kd.R_lt m113_)) (below_size m34_))
    have n11_ := Aside0.mk (Kd.R_lower (Kd.R_new' (Kd.R_new' ho3 (Kd.R_lt m56_)) (Kd.R_lt m114_)) (below_size m34_))
    have n12_ := Aside0.mk (blk_below (g := gb306) (o := .cells #[.slice A0_0 l0_0.length c0_0, .slice A0_1 l0_1.length c0_1, .slice A0_2 l0_2.length c0_2, .slice A0_3 l0_3.length c0_3] 27 (0, 0)) m31_ hb)
    have n13_ := Aside0.mk (blk_below (g := gb333) (o := .cells #[.slice Ao54 t321.length co54, .slice Ao57 t324.length co57, .slice Ao58 t327.length co58, .slice Ao59 t330.length co59] 34 (0, 0)) (by (with_reducible repeat (first | refine blk_drewN ?_ _ | refine blk_drew ?_ | refine blk_alloc ?_ _)); exact BK333.out) hb)
    have n14_ := Aside0.mk (below_step m34_ hb)
    clear HO310
    clear HO313
    clear HO316
    clear HO319
    clear HO323
    clear HO326
    clear HO329
    clear HO332
    clear BK306
    clear BK333
    clear HB
    have HO310 := n0_
    have HO313 := n1_
    have HO316 := n2_
    have HO319 := n3_
    have HO323 := n4_
    have HO326 := n5_
    have HO329 := n6_
    have HO332 := n7_
    have HO337 := n8_
    have HO340 := n9_
    have HO343 := n10_
    have HO346 := n11_
    have BK306 := n12_
    have BK333 := n13_
    have HB := n14_
    clear n0_ n1_ n2_ n3_ n4_ n5_ n6_ n7_ n8_ n9_ n10_ n11_ n12_ n13_ n14_
    (try clear hb)
    (try clear hb2)
    (try clear hk)
    (try clear hi)
    (try clear ho0)
    (try clear ho1)
    (try clear ho2)
    (try clear ho3)
    obtain ⟨Ao63, co63, eo63⟩ := Kd.R_slice HO337.out
    (first | subst eo63 | (injection eo63 with f1_ f2_ f3_; have f4_ := f1_.symm; have f5_ := f3_.symm; clear f1_ f2_ f3_; subst f4_; subst f5_))
    obtain ⟨Ao64, co64, eo64⟩ := Kd.R_slice HO340.out
    (first | subst eo64 | (injection eo64 with f1_ f2_ f3_; have f4_ := f1_.symm; have f5_ := f3_.symm; clear f1_ f2_ f3_; subst f4_; subst f5_))
    obtain ⟨Ao65, co65, eo65⟩ := Kd.R_slice HO343.out
    (first | subst eo65 | (injection eo65 with f1_ f2_ f3_; have f4_ := f1_.symm; have f5_ := f3_.symm; clear f1_ f2_ f3_; subst f4_; subst f5_))
    obtain ⟨Ao66, co66, eo66⟩ := Kd.R_slice HO346.out
    (first | subst eo66 | (injection eo66 with f1_ f2_ f3_; have f4_ := f1_.symm; have f5_ := f3_.symm; clear f1_ f2_ f3_; subst f4_; subst f5_))
    refine hK.out _ _ ⟨(blk_cell BK333.out 0).trans rfl, (blk_cell BK333.out 1).trans rfl, (blk_cell BK333.out 2).trans rfl, (blk_cell BK333.out 3).trans rfl, (blk_cell BK306.out 0).trans rfl, (blk_cell BK306.out 1).trans rfl, (blk_cell BK306.out 2).trans rfl, (blk_cell BK306.out 3).trans rfl⟩ (fun hHeld => ?_)
    clear hK K
    refine no_ ?_
    refine one_ (i := 3) (N := some 39) #[true, true, true, true, false] rfl rfl (by kernel_rfl) (by decide) (fun K hK => ?_)
    refine goes_ Try.func18 (by kernel_rfl) rfl #[.agg #[.slice Ao54 t321.length co54, .slice Ao57 t324.length co57, .slice Ao58 t327.length co58, .slice Ao59 t330.length co59], .agg #[.slice Ao63 t335.length co63, .slice Ao64 t338.length co64, .slice Ao65 t341.length co65, .slice Ao66 t344.length co66]] (by rfl) rfl rfl m3_ ?_
    with_reducible refine (laws_eqPlant.calls k _ _ t321 _ _ t324 _ _ t327 _ _ t330 _ _ t335 _ _ t338 _ _ t341 _ _ t344 _ _ ?side1 ?side2 ?side3 ?side4 ?side5 ?side6 ?side7 ?side8 ?side9 ?side10 ?side11 ?side12 ?side13 ?side14 ?side15 ?side16 (Aside0.out (by assumption))).mono ?_
    (case side1 => exact (by repeat (first | exact (Kd.R_reads' HO323.out).2.2 | (with_reducible refine Kd.C_alloc ?_ _) | (with_reducible refine Kd.C_drewN ?_ _) | (with_reducible refine Kd.C_drew ?_))))
    (case side2 => exact (Kd.R_reads' HO323.out).2.1)
    (case side3 => exact (by repeat (first | exact (Kd.R_reads' HO326.out).2.2 | (with_reducible refine Kd.C_alloc ?_ _) | (with_reducible refine Kd.C_drewN ?_ _) | (with_reducible refine Kd.C_drew ?_))))
    (case side4 => exact (Kd.R_reads' HO326.out).2.1)
    (case side5 => exact (by repeat (first | exact (Kd.R_reads' HO329.out).2.2 | (with_reducible refine Kd.C_alloc ?_ _) | (with_reducible refine Kd.C_drewN ?_ _) | (with_reducible refine Kd.C_drew ?_))))
    (case side6 => exact (Kd.R_reads' HO329.out).2.1)
    (case side7 => exact (by repeat (first | exact (Kd.R_reads' HO332.out).2.2 | (with_reducible refine Kd.C_alloc ?_ _) | (with_reducible refine Kd.C_drewN ?_ _) | (with_reducible refine Kd.C_drew ?_))))
    (case side8 => exact (Kd.R_reads' HO332.out).2.1)
    (case side9 => exact (by repeat (first | exact (Kd.R_reads' HO337.out).2.2 | (with_reducible refine Kd.C_alloc ?_ _) | (with_reducible refine Kd.C_drewN ?_ _) | (with_reducible refine Kd.C_drew ?_))))
    (case side10 => exact (Kd.R_reads' HO337.out).2.1)
    (case side11 => exact (by repeat (first | exact (Kd.R_reads' HO340.out).2.2 | (with_reducible refine Kd.C_alloc ?_ _) | (with_reducible refine Kd.C_drewN ?_ _) | (with_reducible refine Kd.C_drew ?_))))
    (case side12 => exact (Kd.R_reads' HO340.out).2.1)
    (case side13 => exact (by repeat (first | exact (Kd.R_reads' HO343.out).2.2 | (with_reducible refine Kd.C_alloc ?_ _) | (with_reducible refine Kd.C_drewN ?_ _) | (with_reducible refine Kd.C_drew ?_))))
    (case side14 => exact (Kd.R_reads' HO343.out).2.1)
    (case side15 => exact (by repeat (first | exact (Kd.R_reads' HO346.out).2.2 | (with_reducible refine Kd.C_alloc ?_ _) | (with_reducible refine Kd.C_drewN ?_ _) | (with_reducible refine Kd.C_drew ?_))))
    (case side16 => exact (Kd.R_reads' HO346.out).2.1)
    rintro e w67 ⟨rfl, hb⟩
    refine ⟨_, rfl, ?_⟩
    have n0_ := Aside0.mk (Kd.R_below m53_ hb)
    have n1_ := Aside0.mk (Kd.R_below m54_ hb)
    have n2_ := Aside0.mk (Kd.R_below m55_ hb)
    have n3_ := Aside0.mk (Kd.R_below m56_ hb)
    have n4_ := Aside0.mk (Kd.R_below m111_ hb)
    have n5_ := Aside0.mk (Kd.R_below m112_ hb)
    have n6_ := Aside0.mk (Kd.R_below m113_ hb)
    have n7_ := Aside0.mk (Kd.R_below m114_ hb)
    have n8_ := Aside0.mk (Kd.R_below (by (with_reducible repeat (first | apply Kd.R_alloc | apply Kd.R_drewN | apply Kd.R_drew)); exact HO337.out) hb)
    have n9_ := Aside0.mk (Kd.R_below (by (with_reducible repeat (first | apply Kd.R_alloc | apply Kd.R_drewN | apply Kd.R_drew)); exact HO340.out) hb)
    have n10_ := Aside0.mk (Kd.R_below (by (with_reducible repeat (first | apply Kd.R_alloc | apply Kd.R_drewN | apply Kd.R_drew)); exact HO343.out) hb)
    have n11_ := Aside0.mk (Kd.R_below (by (with_reducible repeat (first | apply Kd.R_alloc | apply Kd.R_drewN | apply Kd.R_drew)); exact HO346.out) hb)
    have n12_ := Aside0.mk (blk_below (g := gb306) (o := .cells #[.slice A0_0 l0_0.length c0_0, .slice A0_1 l0_1.length c0_1, .slice A0_2 l0_2.length c0_2, .slice A0_3 l0_3.length c0_3] 27 (0, 0)) m31_ hb)
    have n13_ := Aside0.mk (blk_below (g := gb333) (o := .cells #[.slice Ao54 t321.length co54, .slice Ao57 t324.length co57, .slice Ao58 t327.length co58, .slice Ao59 t330.length co59] 34 (0, 0)) (by (with_reducible repeat (first | refine blk_drewN ?_ _ | refine blk_drew ?_ | refine blk_alloc ?_ _)); exact BK333.out) hb)
    have n14_ := Aside0.mk (below_step m34_ hb)
    clear HO310
    clear HO313
    clear HO316
    clear HO319
    clear HO323
    clear HO326
    clear HO329
    clear HO332
    clear HO337
    clear HO340
    clear HO343
    clear HO346
    clear BK306
    clear BK333
    clear HB
    have HO310 := n0_
    have HO313 := n1_
    have HO316 := n2_
    have HO319 := n3_
    have HO323 := n4_
    have HO326 := n5_
    have HO329 := n6_
    have HO332 := n7_
    have HO337 := n8_
    have HO340 := n9_
    have HO343 := n10_
    have HO346 := n11_
    have BK306 := n12_
    have BK333 := n13_
    have HB := n14_
    clear n0_ n1_ n2_ n3_ n4_ n5_ n6_ n7_ n8_ n9_ n10_ n11_ n12_ n13_ n14_
    (try clear hb)
    (try clear hb2)
    (try clear hk)
    (try clear hi)
    refine hK.out _ _ ⟨(blk_cell BK333.out 0).trans rfl, (blk_cell BK333.out 1).trans rfl, (blk_cell BK333.out 2).trans rfl, (blk_cell BK333.out 3).trans rfl, (blk_cell BK306.out 0).trans rfl, (blk_cell BK306.out 1).trans rfl, (blk_cell BK306.out 2).trans rfl, (blk_cell BK306.out 3).trans rfl⟩ (fun hHeld => ?_)
    clear hK K
    refine no_ ?_
    refine pure_ (i := 4) (N := some 40) (v := ?_) (a' := ?_) #[true, true, true, true, true] rfl rfl (by kernel_rfl) (fun _ _ _ h => h) (Or.inl ⟨(by rfl), ?_⟩) ?_ ?_; rotate_left; intro w'; go_simp; with_reducible rfl; rotate_left; simp only [Act.put, List.setIfInBounds_toArray, List.set_cons_zero, List.set_cons_succ, i64_w, i32_w]; rfl
    refine done_ (by kernel_rfl) ?_
    try go_wp2
    go_ret
    exact ⟨m6_, m34_⟩)

end Go.Proofs.Ytpildfacenlceaa.QFnExactPlantFoes
