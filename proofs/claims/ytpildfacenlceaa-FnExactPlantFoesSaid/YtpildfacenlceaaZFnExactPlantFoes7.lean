/- Laid by a program of this session: the texts of one law, joined, without what it does not come to. -/
import Derived.Test.YtpildfacenlceaaZFnExactPlantFoes6
namespace Go.Proofs.Ytpildfacenlceaa.QFnExactPlantFoes
open Go.RowKit Go.Proofs.YtpildfacenlceaaW.PrintWords Go.Proofs.YtpildfacenlceaaW.PrintLast Go.Proofs.YtpildfacenlceaaW.PrintMore
attribute [local go_sem] str_geq str_gtr str_leq max2_int min2_int max_two min_two max_three min_three max_four min_four   -- for this text's walks alone
set_option linter.unusedVariables false
set_option linter.unusedSimpArgs false
/-! ### impl_rising: function 125 -/
def impl_rising.l0 : Nat → List ByteArray → Int → Option (Bool)
 | 0, _, _ => none
 | k + 1, x0, x3 => if x3 < (x0.length : Int) then (if 0 ≤ (wrap64 (x3 - 1)) then (if (wrap64 (x3 - 1)) < (x0.length : Int) then (if 0 ≤ x3 then (if ((Op.bytesLess ((rdOf ByteArray.empty x0 (wrap64 (x3 - 1))).toList) ((rdOf ByteArray.empty x0 x3).toList)) = true) then (impl_rising.l0 k x0 (wrap64 (x3 + 1))) else (some false)) else (none)) else (none)) else (none)) else (some true)
def impl_rising.f (k : Nat) (l0 : List ByteArray) : Option (Bool) := impl_rising.l0 k l0 1
theorem impl_rising.mono_l : ∀ k, (∀ y0 y1, LeO (impl_rising.l0 k y0 y1) (impl_rising.l0 (k + 1) y0 y1))
 | 0 => fun _ _ r h => by simp [impl_rising.l0] at h
 | k + 1 => by
  have ih0 := impl_rising.mono_l k
  ·intro y0 y1
   unfold impl_rising.l0
   repeat' first
   | (with_reducible exact ih0 _ _)
   | (with_reducible exact LeO.refl _)
   | (with_reducible exact LeO.none _)
   | (with_reducible refine LeO.ite ?_ ?_)
   | (with_reducible refine LeO.bind ?_ (fun _ => ?_))
   | exact ih0 _ _
   | exact LeO.none _
   | refine LeO.ite ?_ ?_
   | refine LeO.bind ?_ (fun _ => ?_)
theorem impl_rising.mono : ∀ a0 k, LeO (impl_rising.f k a0) (impl_rising.f (k + 1) a0) := by
 intro a0 k
 have ih0 := impl_rising.mono_l k
 unfold impl_rising.f
 repeat' first
   | (with_reducible exact ih0 _ _)
   | (with_reducible exact LeO.refl _)
   | (with_reducible exact LeO.none _)
   | (with_reducible refine LeO.ite ?_ ?_)
   | (with_reducible refine LeO.bind ?_ (fun _ => ?_))
   | exact ih0 _ _
   | exact LeO.none _
   | refine LeO.ite ?_ ?_
   | refine LeO.bind ?_ (fun _ => ?_)
set_option maxHeartbeats 8000000 in
set_option maxRecDepth 100000 in
theorem impl_rising.calls (k : Nat) (A0 : Option Addr) (c0 : Nat) (l0 : List ByteArray) (r : Bool) (w : World) (hr0 : Kd.C Kd.string w A0 l0.length l0) (hc0 : l0.length ≤ c0) (h : impl_rising.f k l0 = some r) :
  Calls Try.prog 125 #[.slice A0 l0.length c0] w fun e w' => e = .returned (.bool r) ∧ Drawn0 w w' := by
 have HR0 := Aside0.mk hr0
 have HC0 := Aside0.mk hc0
 clear hr0 hc0
 have H : (impl_rising.l0 k l0 1) = some r := h
 clear h
 have H' := Aside0.mk H
 clear H
 go_enter Try.func125, Try.ntmps125
 go_wp2
 repeat (go_quiet (fail); try go_wp2)
 go_loopg [3] k (fun kq v3 w' => ∃ (x3_1 : Int), v3 = .int .i64 x3_1 ∧ Aside0 (impl_rising.l0 kq l0 x3_1 = some r) ∧ Aside0 (kq ≤ k) ∧ Drawn0 w w')
 case atStart => exact ⟨(1), m8_, H', ⟨Nat.le_refl _⟩, m24_⟩
 case round =>
  clear H'
  try clear c1
  obtain ⟨x3_1, rfl, HA, HK1, ⟨m1, rfl⟩⟩ := hrel
  cases gk with
  | zero => exact absurd HA.out (by simp [impl_rising.l0])
  | succ k1 =>
   have H := HA.out
   clear HA
   simp only [impl_rising.l0] at H
   by_cases c2 : x3_1 < (l0.length : Int)
   ·rw [if_pos c2] at H
    have c2b0 : decide (x3_1 < (l0.length : Int)) = true := decide_eq_true c2
    clear c2
    obtain ⟨ji3, hji3⟩ : ∃ j_ : Int, (wrap64 (x3_1 - 1)) = j_ := ⟨_, rfl⟩
    replace H : (if 0 ≤ (ji3) then (if (ji3) < (l0.length : Int) then (if 0 ≤ x3_1 then (if ((Op.bytesLess ((rdOf ByteArray.empty l0 (ji3)).toList) ((rdOf ByteArray.empty l0 x3_1).toList)) = true) then (impl_rising.l0 k1 l0 (wrap64 (x3_1 + 1))) else (some false)) else (none)) else (none)) else (none)) = some r := by first | (rw [hji3] at H; exact H) | (simp only [hji3] at H ⊢; exact H)
    have hji3w : (IntKind.i64.wrap (x3_1 - 1)) = ji3 := (i64_w _).trans hji3
    by_cases c4 : 0 ≤ (ji3)
    ·rw [if_pos c4] at H
     have c4b0 : decide (0 ≤ (ji3)) = true := decide_eq_true c4
     clear c4
     by_cases c5 : (ji3) < (l0.length : Int)
     ·rw [if_pos c5] at H
      have c5b0 : decide ((ji3) < (l0.length : Int)) = true := decide_eq_true c5
      clear c5
      by_cases c6 : 0 ≤ x3_1
      ·rw [if_pos c6] at H
       have c6b0 : decide (0 ≤ x3_1) = true := decide_eq_true c6
       clear c6
       by_cases c7 : ((Op.bytesLess ((rdOf ByteArray.empty l0 (ji3)).toList) ((rdOf ByteArray.empty l0 x3_1).toList)) = true)
       ·rw [if_pos c7] at H
        have c7b0 : (Op.bytesLess ((rdOf ByteArray.empty l0 (ji3)).toList) ((rdOf ByteArray.empty l0 x3_1).toList)) = true := c7
        clear c7
        have H' := Aside0.mk H
        clear H
        have p243 : 0 ≤ ((ji3) : Int) := of_decide_eq_true m4_
        have q243 : (ji3) < (l0.length : Int) := of_decide_eq_true m4_
        obtain ⟨ad243, e243, hx243_0⟩ := Kd.at_string HR0.out (ji3) p243 q243
        cases e243
        replace p243 := eq_true p243
        replace q243 := eq_true q243
        have p244 : 0 ≤ (x3_1 : Int) := of_decide_eq_true m4_
        have q244 : x3_1 < (l0.length : Int) := of_decide_eq_true m4_
        obtain ⟨ad244, e244, hx244_0⟩ := Kd.at_string HR0.out x3_1 p244 q244
        obtain rfl : ad243 = ad244 := (by injection e244)
        replace p244 := eq_true p244
        replace q244 := eq_true q244
        go_wp2
        repeat (go_quiet (fail); try go_wp2)
        go_roundg k1
        case measure => have := HK1.out; omega
        case rel => exact ⟨(wrap64 (x3_1 + 1)), m8_, H', ⟨m110_⟩, m24_⟩
       ·rw [if_neg c7] at H
        have c7b0 : (Op.bytesLess ((rdOf ByteArray.empty l0 (ji3)).toList) ((rdOf ByteArray.empty l0 x3_1).toList)) = false := by simpa using c7
        clear c7
        obtain rfl := Option.some.inj H
        have p243 : 0 ≤ ((ji3) : Int) := of_decide_eq_true m4_
        have q243 : (ji3) < (l0.length : Int) := of_decide_eq_true m4_
        obtain ⟨ad243, e243, hx243_0⟩ := Kd.at_string HR0.out (ji3) p243 q243
        cases e243
        replace p243 := eq_true p243
        replace q243 := eq_true q243
        have p244 : 0 ≤ (x3_1 : Int) := of_decide_eq_true m4_
        have q244 : x3_1 < (l0.length : Int) := of_decide_eq_true m4_
        obtain ⟨ad244, e244, hx244_0⟩ := Kd.at_string HR0.out x3_1 p244 q244
        obtain rfl : ad243 = ad244 := (by injection e244)
        replace p244 := eq_true p244
        replace q244 := eq_true q244
        go_wp2
        repeat (go_quiet (fail); try go_wp2)
        go_ret
        exact ⟨(by first | rfl | (simp; done) | (simp only [← hji3] <;> (first | rfl | simp)) | (simp [*]; done)), m24_⟩
      ·rw [if_neg c6] at H
       exact absurd H (by simp)
     ·rw [if_neg c5] at H
      exact absurd H (by simp)
    ·rw [if_neg c4] at H
     exact absurd H (by simp)
   ·rw [if_neg c2] at H
    have c2b0 : decide (x3_1 < (l0.length : Int)) = false := decide_eq_false c2
    clear c2
    obtain rfl := Option.some.inj H
    go_wp2
    repeat (go_quiet (fail); try go_wp2)
    go_ret
    exact ⟨m8_, m24_⟩

/-! ### impl_names: function 72 -/
def impl_names.l0 : Nat → List ByteArray → List ByteArray → Int → Int → Option (Bool)
 | 0, _, _, _, _ => none
 | k + 1, x0, x5, x6, x7 => if x7 < x6 then (if 0 ≤ x7 then (if x7 < (x5.length : Int) then ((impl_isName.f k (rdOf ByteArray.empty x5 x7)).bind fun t247 => (if t247 = true then (impl_names.l0 k x0 x5 x6 (wrap64 (x7 + 1))) else (some false))) else (none)) else (none)) else ((impl_rising.f k x0).bind fun t245 => (some t245))
def impl_names.f (k : Nat) (l0 : List ByteArray) : Option (Bool) := impl_names.l0 k l0 l0 (l0.length : Int) 0
theorem impl_names.mono_l : ∀ k, (∀ y0 y1 y2 y3, LeO (impl_names.l0 k y0 y1 y2 y3) (impl_names.l0 (k + 1) y0 y1 y2 y3))
 | 0 => fun _ _ _ _ r h => by simp [impl_names.l0] at h
 | k + 1 => by
  have ih0 := impl_names.mono_l k
  ·intro y0 y1 y2 y3
   unfold impl_names.l0
   repeat' first
   | (with_reducible exact ih0 _ _ _ _)
   | (with_reducible exact impl_isName.mono _ _)
   | (with_reducible exact impl_rising.mono _ _)
   | (with_reducible exact LeO.refl _)
   | (with_reducible exact LeO.none _)
   | (with_reducible refine LeO.ite ?_ ?_)
   | (with_reducible refine LeO.bind ?_ (fun _ => ?_))
   | exact ih0 _ _ _ _
   | exact impl_isName.mono _ _
   | exact impl_rising.mono _ _
   | exact LeO.none _
   | refine LeO.ite ?_ ?_
   | refine LeO.bind ?_ (fun _ => ?_)
theorem impl_names.mono : ∀ a0 k, LeO (impl_names.f k a0) (impl_names.f (k + 1) a0) := by
 intro a0 k
 have ih0 := impl_names.mono_l k
 unfold impl_names.f
 repeat' first
   | (with_reducible exact ih0 _ _ _ _)
   | (with_reducible exact impl_isName.mono _ _)
   | (with_reducible exact impl_rising.mono _ _)
   | (with_reducible exact LeO.refl _)
   | (with_reducible exact LeO.none _)
   | (with_reducible refine LeO.ite ?_ ?_)
   | (with_reducible refine LeO.bind ?_ (fun _ => ?_))
   | exact ih0 _ _ _ _
   | exact impl_isName.mono _ _
   | exact impl_rising.mono _ _
   | exact LeO.none _
   | refine LeO.ite ?_ ?_
   | refine LeO.bind ?_ (fun _ => ?_)
set_option maxHeartbeats 8000000 in
set_option maxRecDepth 100000 in
theorem impl_names.calls (k : Nat) (A0 : Option Addr) (c0 : Nat) (l0 : List ByteArray) (r : Bool) (w : World) (hr0 : Kd.C Kd.string w A0 l0.length l0) (hc0 : l0.length ≤ c0) (h : impl_names.f k l0 = some r) :
  Calls Try.prog 72 #[.slice A0 l0.length c0] w fun e w' => e = .returned (.bool r) ∧ Drawn0 w w' := by
 have HR0 := Aside0.mk hr0
 have HC0 := Aside0.mk hc0
 clear hr0 hc0
 have H : (impl_names.l0 k l0 l0 (l0.length : Int) 0) = some r := h
 clear h
 have H' := Aside0.mk H
 clear H
 go_enter Try.func72, Try.ntmps72
 go_wp2
 go_loopg [7] k (fun kq v7 w' => ∃ (x7_1 : Int), v7 = .int .i64 x7_1 ∧ Aside0 (impl_names.l0 kq l0 l0 (l0.length : Int) x7_1 = some r) ∧ Aside0 (kq ≤ k) ∧ Drawn0 w w')
 case atStart => exact ⟨(0), m8_, H', ⟨Nat.le_refl _⟩, m24_⟩
 case round =>
  clear H'
  obtain ⟨x7_1, rfl, HA, HK1, ⟨m1, rfl⟩⟩ := hrel
  cases gk with
  | zero => exact absurd HA.out (by simp [impl_names.l0])
  | succ k1 =>
   have H := HA.out
   clear HA
   simp only [impl_names.l0] at H
   by_cases c2 : x7_1 < (l0.length : Int)
   ·rw [if_pos c2] at H
    have c2b0 : decide (x7_1 < (l0.length : Int)) = true := decide_eq_true c2
    clear c2
    by_cases c3 : 0 ≤ x7_1
    ·rw [if_pos c3] at H
     have c3b0 : decide (0 ≤ x7_1) = true := decide_eq_true c3
     clear c3
     by_cases c4 : x7_1 < (l0.length : Int)
     ·rw [if_pos c4] at H
      have c4b0 : decide (x7_1 < (l0.length : Int)) = true := decide_eq_true c4
      clear c4
      replace H := Option.bind_eq_some_iff.mp H
      obtain ⟨t247, A50, H⟩ := H
      replace H : (if t247 = true then (impl_names.l0 k1 l0 l0 (l0.length : Int) (wrap64 (x7_1 + 1))) else (some false)) = some r := H
      have A5 := Aside0.mk A50
      clear A50
      by_cases c6 : t247 = true
      ·subst c6
       have H1 : (impl_names.l0 k1 l0 l0 (l0.length : Int) (wrap64 (x7_1 + 1))) = some r := by rw [if_pos rfl] at H; exact H
       clear H
       have H := H1
       clear H1
       have H' := Aside0.mk H
       clear H
       have p246 : 0 ≤ (x7_1 : Int) := of_decide_eq_true m4_
       have q246 : x7_1 < (l0.length : Int) := of_decide_eq_true m4_
       obtain ⟨ad246, e246, hx246_0⟩ := Kd.at_string HR0.out x7_1 p246 q246
       cases e246
       replace p246 := eq_true p246
       replace q246 := eq_true q246
       go_wp2_with (first | ((with_reducible refine gate_callee (f := 76) rfl ?_); refine goesL_ (some 12) rfl rfl Try.func76 (by kernel_rfl) rfl #[.string (rdOf ByteArray.empty l0 x7_1)] rfl m3_ ?_; (with_reducible refine (impl_isName.calls k1 (rdOf ByteArray.empty l0 x7_1) true _ A5.out).mono ?_); rintro e w' ⟨rfl, ⟨nd, rfl⟩⟩; refine ⟨_, rfl, ?_⟩))
       go_roundg k1
       case measure => have := HK1.out; omega
       case rel => exact ⟨(wrap64 (x7_1 + 1)), m8_, H', ⟨m110_⟩, m24_⟩
      ·replace c6 := Bool.eq_false_iff.mpr c6
       subst c6
       have H1 : (some false) = some r := by rw [if_neg (show ¬ (false = true) by decide)] at H; exact H
       clear H
       have H := H1
       clear H1
       obtain rfl := Option.some.inj H
       have p246 : 0 ≤ (x7_1 : Int) := of_decide_eq_true m4_
       have q246 : x7_1 < (l0.length : Int) := of_decide_eq_true m4_
       obtain ⟨ad246, e246, hx246_0⟩ := Kd.at_string HR0.out x7_1 p246 q246
       cases e246
       replace p246 := eq_true p246
       replace q246 := eq_true q246
       go_wp2_with (first | ((with_reducible refine gate_callee (f := 76) rfl ?_); refine goesL_ (some 12) rfl rfl Try.func76 (by kernel_rfl) rfl #[.string (rdOf ByteArray.empty l0 x7_1)] rfl m3_ ?_; (with_reducible refine (impl_isName.calls k1 (rdOf ByteArray.empty l0 x7_1) false _ A5.out).mono ?_); rintro e w' ⟨rfl, ⟨nd, rfl⟩⟩; refine ⟨_, rfl, ?_⟩))
       go_ret
       exact ⟨m8_, m24_⟩
     ·rw [if_neg c4] at H
      exact absurd H (by simp)
    ·rw [if_neg c3] at H
     exact absurd H (by simp)
   ·rw [if_neg c2] at H
    have c2b0 : decide (x7_1 < (l0.length : Int)) = false := decide_eq_false c2
    clear c2
    replace H := Option.bind_eq_some_iff.mp H
    obtain ⟨t245, A70, H⟩ := H
    replace H : (some t245) = some r := H
    have A7 := Aside0.mk A70
    clear A70
    obtain rfl := Option.some.inj H
    go_wp2_with (first | ((with_reducible refine gate_callee (f := 125) rfl ?_); refine goesL_ (some 16) rfl rfl Try.func125 (by kernel_rfl) rfl #[.slice A0 l0.length c0] rfl m3_ ?_; (with_reducible refine (impl_rising.calls k1 _ _ l0 t245 _ ?side1 ?side2 A7.out).mono ?_); (case side1 => exact m139_); (case side2 => exact HC0.out); rintro e w' ⟨rfl, ⟨nd, rfl⟩⟩; refine ⟨_, rfl, ?_⟩))
    go_ret
    exact ⟨m8_, m24_⟩

mutual
def impl_foesOk.l0 : Nat → List (S150) → Int → List (S150) → Int → Int → Option (Bool)
 | 0, _, _, _, _, _ => none
 | k + 1, x0, x1, x7, x8, x9 => if x9 < x8 then (if 0 ≤ x9 then (if x9 < (x7.length : Int) then ((impl_isName.f k ((rd_T150 x7 x9).f0)).bind fun t250 => (if t250 = true then ((impl_isName.f k ((rd_T150 x7 x9).f1)).bind fun t251 => (if t251 = true then (impl_foesOk.j1 k x0 x1 x9 x7 x8 x9 (!(Op.bytesLess (((rd_T150 x7 x9).f0).toList) (((rd_T150 x7 x9).f1).toList))) ((rd_T150 x7 x9).f0) ((rd_T150 x7 x9).f1)) else (impl_foesOk.j1 k x0 x1 x9 x7 x8 x9 true ((rd_T150 x7 x9).f0) ((rd_T150 x7 x9).f1)))) else (impl_foesOk.j1 k x0 x1 x9 x7 x8 x9 true ((rd_T150 x7 x9).f0) ((rd_T150 x7 x9).f1)))) else (none)) else (none)) else (some (decide ((x0.length : Int) ≤ x1)))
def impl_foesOk.j1 : Nat → List (S150) → Int → Int → List (S150) → Int → Int → Bool → ByteArray → ByteArray → Option (Bool)
 | 0, _, _, _, _, _, _, _, _, _ => none
 | k + 1, x0, x1, x5, x7, x8, x9, x30, x250000, x250001 => if x30 = true then (some false) else (if x5 > 0 then (if 0 ≤ (wrap64 (x5 - 1)) then (if (wrap64 (x5 - 1)) < (x0.length : Int) then (if (Op.bytesLess x250000.toList (((rd_T150 x0 (wrap64 (x5 - 1))).f0).toList)) = true then (impl_foesOk.j2 k x0 x1 x7 x8 x9 true) else (if ((rd_T150 x0 (wrap64 (x5 - 1))).f0).toList = x250000.toList then (impl_foesOk.j2 k x0 x1 x7 x8 x9 (!(Op.bytesLess (((rd_T150 x0 (wrap64 (x5 - 1))).f1).toList) x250001.toList))) else (impl_foesOk.j2 k x0 x1 x7 x8 x9 false))) else (none)) else (none)) else (impl_foesOk.j2 k x0 x1 x7 x8 x9 false))
def impl_foesOk.j2 : Nat → List (S150) → Int → List (S150) → Int → Int → Bool → Option (Bool)
 | 0, _, _, _, _, _, _ => none
 | k + 1, x0, x1, x7, x8, x9, x65 => if x65 = true then (some false) else (impl_foesOk.l0 k x0 x1 x7 x8 (wrap64 (x9 + 1)))
end
def impl_foesOk.f (k : Nat) (l0 : List (S150)) (a1 : Int) : Option (Bool) := impl_foesOk.l0 k l0 a1 l0 (l0.length : Int) 0
theorem impl_foesOk.mono_l : ∀ k, (∀ y0 y1 y2 y3 y4, LeO (impl_foesOk.l0 k y0 y1 y2 y3 y4) (impl_foesOk.l0 (k + 1) y0 y1 y2 y3 y4)) ∧ (∀ y0 y1 y2 y3 y4 y5 y6 y7 y8, LeO (impl_foesOk.j1 k y0 y1 y2 y3 y4 y5 y6 y7 y8) (impl_foesOk.j1 (k + 1) y0 y1 y2 y3 y4 y5 y6 y7 y8)) ∧ (∀ y0 y1 y2 y3 y4 y5, LeO (impl_foesOk.j2 k y0 y1 y2 y3 y4 y5) (impl_foesOk.j2 (k + 1) y0 y1 y2 y3 y4 y5))
 | 0 => ⟨fun _ _ _ _ _ r h => by simp [impl_foesOk.l0] at h, fun _ _ _ _ _ _ _ _ _ r h => by simp [impl_foesOk.j1] at h, fun _ _ _ _ _ _ r h => by simp [impl_foesOk.j2] at h⟩
 | k + 1 => by
  obtain ⟨ih0, ih1, ih2⟩ := impl_foesOk.mono_l k
  refine ⟨?_, ?_, ?_⟩
  ·intro y0 y1 y2 y3 y4
   unfold impl_foesOk.l0
   repeat' first
   | (with_reducible exact ih0 _ _ _ _ _)
   | (with_reducible exact ih1 _ _ _ _ _ _ _ _ _)
   | (with_reducible exact ih2 _ _ _ _ _ _)
   | (with_reducible exact impl_isName.mono _ _)
   | (with_reducible exact LeO.refl _)
   | (with_reducible exact LeO.none _)
   | (with_reducible refine LeO.ite ?_ ?_)
   | (with_reducible refine LeO.bind ?_ (fun _ => ?_))
   | exact ih0 _ _ _ _ _
   | exact ih1 _ _ _ _ _ _ _ _ _
   | exact ih2 _ _ _ _ _ _
   | exact impl_isName.mono _ _
   | exact LeO.none _
   | refine LeO.ite ?_ ?_
   | refine LeO.bind ?_ (fun _ => ?_)
  ·intro y0 y1 y2 y3 y4 y5 y6 y7 y8
   unfold impl_foesOk.j1
   repeat' first
   | (with_reducible exact ih0 _ _ _ _ _)
   | (with_reducible exact ih1 _ _ _ _ _ _ _ _ _)
   | (with_reducible exact ih2 _ _ _ _ _ _)
   | (with_reducible exact impl_isName.mono _ _)
   | (with_reducible exact LeO.refl _)
   | (with_reducible exact LeO.none _)
   | (with_reducible refine LeO.ite ?_ ?_)
   | (with_reducible refine LeO.bind ?_ (fun _ => ?_))
   | exact ih0 _ _ _ _ _
   | exact ih1 _ _ _ _ _ _ _ _ _
   | exact ih2 _ _ _ _ _ _
   | exact impl_isName.mono _ _
   | exact LeO.none _
   | refine LeO.ite ?_ ?_
   | refine LeO.bind ?_ (fun _ => ?_)
  ·intro y0 y1 y2 y3 y4 y5
   unfold impl_foesOk.j2
   repeat' first
   | (with_reducible exact ih0 _ _ _ _ _)
   | (with_reducible exact ih1 _ _ _ _ _ _ _ _ _)
   | (with_reducible exact ih2 _ _ _ _ _ _)
   | (with_reducible exact impl_isName.mono _ _)
   | (with_reducible exact LeO.refl _)
   | (with_reducible exact LeO.none _)
   | (with_reducible refine LeO.ite ?_ ?_)
   | (with_reducible refine LeO.bind ?_ (fun _ => ?_))
   | exact ih0 _ _ _ _ _
   | exact ih1 _ _ _ _ _ _ _ _ _
   | exact ih2 _ _ _ _ _ _
   | exact impl_isName.mono _ _
   | exact LeO.none _
   | refine LeO.ite ?_ ?_
   | refine LeO.bind ?_ (fun _ => ?_)
theorem impl_foesOk.mono : ∀ a0 a1 k, LeO (impl_foesOk.f k a0 a1) (impl_foesOk.f (k + 1) a0 a1) := by
 intro a0 a1 k
 obtain ⟨ih0, ih1, ih2⟩ := impl_foesOk.mono_l k
 unfold impl_foesOk.f
 repeat' first
   | (with_reducible exact ih0 _ _ _ _ _)
   | (with_reducible exact ih1 _ _ _ _ _ _ _ _ _)
   | (with_reducible exact ih2 _ _ _ _ _ _)
   | (with_reducible exact impl_isName.mono _ _)
   | (with_reducible exact LeO.refl _)
   | (with_reducible exact LeO.none _)
   | (with_reducible refine LeO.ite ?_ ?_)
   | (with_reducible refine LeO.bind ?_ (fun _ => ?_))
   | exact ih0 _ _ _ _ _
   | exact ih1 _ _ _ _ _ _ _ _ _
   | exact ih2 _ _ _ _ _ _
   | exact impl_isName.mono _ _
   | exact LeO.none _
   | refine LeO.ite ?_ ?_
   | refine LeO.bind ?_ (fun _ => ?_)
set_option maxHeartbeats 8000000 in
set_option maxRecDepth 100000 in
theorem impl_foesOk.calls (k : Nat) (A0 : Option Addr) (c0 : Nat) (l0 : List (S150)) (a1 : Int) (r : Bool) (w : World) (hr0 : Kd.C k150 w A0 l0.length l0) (hc0 : l0.length ≤ c0) (h : impl_foesOk.f k l0 a1 = some r) :
  Calls Try.prog 73 #[.slice A0 l0.length c0, .int .i64 a1] w fun e w' => e = .returned (.bool r) ∧ Below w.heap.size w w' := by
 have hu150 := Try.underlying150
 have HR0 := Aside0.mk hr0
 have HC0 := Aside0.mk hc0
 clear hr0 hc0
 have HB := Aside0.mk (Below.refl w.heap.size w)
 have H : (impl_foesOk.l0 k l0 a1 l0 (l0.length : Int) 0) = some r := h
 clear h
 have H' := Aside0.mk H
 clear H
 go_enter Try.func73, Try.ntmps73
 go_wp2
 repeat (go_quiet (fail); try go_wp2)
 go_loopg [9] k (fun kq v9 w' => ∃ (x9_1 : Int), v9 = .int .i64 x9_1 ∧ Aside0 (impl_foesOk.l0 kq l0 a1 l0 (l0.length : Int) x9_1 = some r) ∧ Aside0 (kq ≤ k) ∧ Aside0 (Below w.heap.size w w'))
 case atStart => exact ⟨(0), m8_, H', ⟨Nat.le_refl _⟩, ⟨m0_⟩⟩
 case round =>
  clear H'
  try clear p2
  obtain ⟨x9_1, rfl, HA, HK1, HB⟩ := hrel
  cases gk with
  | zero => exact absurd HA.out (by simp [impl_foesOk.l0])
  | succ k1 =>
   have H := HA.out
   clear HA
   simp only [impl_foesOk.l0] at H
   by_cases c3 : x9_1 < (l0.length : Int)
   ·rw [if_pos c3] at H
    have c3b0 : decide (x9_1 < (l0.length : Int)) = true := decide_eq_true c3
    clear c3
    by_cases c4 : 0 ≤ x9_1
    ·rw [if_pos c4] at H
     have c4b0 : decide (0 ≤ x9_1) = true := decide_eq_true c4
     clear c4
     by_cases c5 : x9_1 < (l0.length : Int)
     ·rw [if_pos c5] at H
      have c5b0 : decide (x9_1 < (l0.length : Int)) = true := decide_eq_true c5
      clear c5
      have HC6 := Aside0.mk H
      clear H
      have p248 : 0 ≤ (x9_1 : Int) := of_decide_eq_true m4_
      have q248 : x9_1 < (l0.length : Int) := of_decide_eq_true m4_
      obtain ⟨ad248, e248, hx248_0, hx248_1⟩ := at_T150 HR0.out x9_1 p248 q248
      cases e248
      replace hx248_0 := (HB.out.cell (World.block_lt_of_cell? w _ hx248_0)).trans hx248_0
      replace hx248_1 := (HB.out.cell (World.block_lt_of_cell? w _ hx248_1)).trans hx248_1
      replace p248 := eq_true p248
      replace q248 := eq_true q248
      go_upto_region 4 with (first | ((with_reducible refine gate_dst (N := 6) rfl ?_); refine box_event ?hg (N := 6) ?hd (cs := #[.string (⟨#[]⟩ : ByteArray), .string (⟨#[]⟩ : ByteArray)]) (t := 150) ?hr ?_; (case hd => rfl); (case hg => rfl); (case hr => first | (go_simp; done) | (go_simp; rfl)); intro gb249 hg w7 hbox hb; have n0_ := Aside0.mk (below_step m0_ hb); have n1_ := Aside0.mk (hbox); have n2_ := Aside0.mk ((by rw [hg]; exact (below_size m0_) : w.heap.size ≤ gb249)); have n3_ := Aside0.mk ((by rw [hg]; exact (below_size m0_) : w.heap.size ≤ gb249)); clear HB; have HB := n0_; have BK249 := n1_; have GW249 := n2_; have GE249 := n3_; clear n0_ n1_ n2_ n3_; clear hb hbox hg; obtain ⟨hcz8_0, hcz8_1⟩ := cz2_ BK249.out; obtain ⟨hfz8_0, hfz8_1⟩ := fz2_ BK249.out))
      repeat (go_quiet (first | ((with_reducible refine gate_dst (N := 6) rfl ?_); refine box_event ?hg (N := 6) ?hd (cs := #[.string (⟨#[]⟩ : ByteArray), .string (⟨#[]⟩ : ByteArray)]) (t := 150) ?hr ?_; (case hd => rfl); (case hg => rfl); (case hr => first | (go_simp; done) | (go_simp; rfl)); intro gb249 hg w7 hbox hb; have n0_ := Aside0.mk (below_step m0_ hb); have n1_ := Aside0.mk (hbox); have n2_ := Aside0.mk ((by rw [hg]; exact (below_size m0_) : w.heap.size ≤ gb249)); have n3_ := Aside0.mk ((by rw [hg]; exact (below_size m0_) : w.heap.size ≤ gb249)); clear HB; have HB := n0_; have BK249 := n1_; have GW249 := n2_; have GE249 := n3_; clear n0_ n1_ n2_ n3_; clear hb hbox hg; obtain ⟨hcz8_0, hcz8_1⟩ := cz2_ BK249.out; obtain ⟨hfz8_0, hfz8_1⟩ := fz2_ BK249.out)); go_upto_region 4 with (first | ((with_reducible refine gate_dst (N := 6) rfl ?_); refine box_event ?hg (N := 6) ?hd (cs := #[.string (⟨#[]⟩ : ByteArray), .string (⟨#[]⟩ : ByteArray)]) (t := 150) ?hr ?_; (case hd => rfl); (case hg => rfl); (case hr => first | (go_simp; done) | (go_simp; rfl)); intro gb249 hg w7 hbox hb; have n0_ := Aside0.mk (below_step m0_ hb); have n1_ := Aside0.mk (hbox); have n2_ := Aside0.mk ((by rw [hg]; exact (below_size m0_) : w.heap.size ≤ gb249)); have n3_ := Aside0.mk ((by rw [hg]; exact (below_size m0_) : w.heap.size ≤ gb249)); clear HB; have HB := n0_; have BK249 := n1_; have GW249 := n2_; have GE249 := n3_; clear n0_ n1_ n2_ n3_; clear hb hbox hg; obtain ⟨hcz8_0, hcz8_1⟩ := cz2_ BK249.out; obtain ⟨hfz8_0, hfz8_1⟩ := fz2_ BK249.out)))
      (try simp only [Act.put, List.setIfInBounds_toArray, List.set_cons_zero, List.set_cons_succ])
      go_cut [30] (fun v30 wc => ∃ (kq : Nat) (x30_5 : Bool), v30 = .bool x30_5 ∧ Aside0 (impl_foesOk.j1 kq l0 a1 x9_1 l0 (l0.length : Int) x9_1 x30_5 ((rd_T150 l0 x9_1).f0) ((rd_T150 l0 x9_1).f1) = some r) ∧ Aside0 (kq ≤ k1) ∧ Aside0 (wc.heap[gb249]? = some (.cells #[.string ((rd_T150 l0 x9_1).f0), .string ((rd_T150 l0 x9_1).f1)] 150 (0, 0))) ∧ Aside0 (Below w.heap.size w wc))
      case first =>
       have H := HC6.out
       clear HC6
       replace H := Option.bind_eq_some_iff.mp H
       obtain ⟨t250, A90, H⟩ := H
       replace H : (if t250 = true then ((impl_isName.f k1 ((rd_T150 l0 x9_1).f1)).bind fun t251 => (if t251 = true then (impl_foesOk.j1 k1 l0 a1 x9_1 l0 (l0.length : Int) x9_1 (!(Op.bytesLess (((rd_T150 l0 x9_1).f0).toList) (((rd_T150 l0 x9_1).f1).toList))) ((rd_T150 l0 x9_1).f0) ((rd_T150 l0 x9_1).f1)) else (impl_foesOk.j1 k1 l0 a1 x9_1 l0 (l0.length : Int) x9_1 true ((rd_T150 l0 x9_1).f0) ((rd_T150 l0 x9_1).f1)))) else (impl_foesOk.j1 k1 l0 a1 x9_1 l0 (l0.length : Int) x9_1 true ((rd_T150 l0 x9_1).f0) ((rd_T150 l0 x9_1).f1))) = some r := H
       have A9 := Aside0.mk A90
       clear A90
       refine (Classical.em (t250 = true)).elim (fun c10 => ?yes13) (fun c10 => ?no13)
       case' yes13 =>
        subst c10
        have H1 : ((impl_isName.f k1 ((rd_T150 l0 x9_1).f1)).bind fun t251 => (if t251 = true then (impl_foesOk.j1 k1 l0 a1 x9_1 l0 (l0.length : Int) x9_1 (!(Op.bytesLess (((rd_T150 l0 x9_1).f0).toList) (((rd_T150 l0 x9_1).f1).toList))) ((rd_T150 l0 x9_1).f0) ((rd_T150 l0 x9_1).f1)) else (impl_foesOk.j1 k1 l0 a1 x9_1 l0 (l0.length : Int) x9_1 true ((rd_T150 l0 x9_1).f0) ((rd_T150 l0 x9_1).f1)))) = some r := by rw [if_pos rfl] at H; exact H
        clear H
        have H := H1
        clear H1
        replace H := Option.bind_eq_some_iff.mp H
        obtain ⟨t251, A110, H⟩ := H
        replace H : (if t251 = true then (impl_foesOk.j1 k1 l0 a1 x9_1 l0 (l0.length : Int) x9_1 (!(Op.bytesLess (((rd_T150 l0 x9_1).f0).toList) (((rd_T150 l0 x9_1).f1).toList))) ((rd_T150 l0 x9_1).f0) ((rd_T150 l0 x9_1).f1)) else (impl_foesOk.j1 k1 l0 a1 x9_1 l0 (l0.length : Int) x9_1 true ((rd_T150 l0 x9_1).f0) ((rd_T150 l0 x9_1).f1))) = some r := H
        have A11 := Aside0.mk A110
        clear A110
        refine (Classical.em (t251 = true)).elim (fun c12 => ?yes14) (fun c12 => ?no14)
        case' yes14 =>
         subst c12
         have H1 : (impl_foesOk.j1 k1 l0 a1 x9_1 l0 (l0.length : Int) x9_1 (!(Op.bytesLess (((rd_T150 l0 x9_1).f0).toList) (((rd_T150 l0 x9_1).f1).toList))) ((rd_T150 l0 x9_1).f0) ((rd_T150 l0 x9_1).f1)) = some r := by rw [if_pos rfl] at H; exact H
         clear H
         have H := H1
         clear H1
         have H' := Aside0.mk H
         clear H
        case' no14 =>
         replace c12 := Bool.eq_false_iff.mpr c12
         subst c12
         have H1 : (impl_foesOk.j1 k1 l0 a1 x9_1 l0 (l0.length : Int) x9_1 true ((rd_T150 l0 x9_1).f0) ((rd_T150 l0 x9_1).f1)) = some r := by rw [if_neg (show ¬ (false = true) by decide)] at H; exact H
         clear H
         have H := H1
         clear H1
         have H' := Aside0.mk H
         clear H
       case' no13 =>
        replace c10 := Bool.eq_false_iff.mpr c10
        subst c10
        have H1 : (impl_foesOk.j1 k1 l0 a1 x9_1 l0 (l0.length : Int) x9_1 true ((rd_T150 l0 x9_1).f0) ((rd_T150 l0 x9_1).f1)) = some r := by rw [if_neg (show ¬ (false = true) by decide)] at H; exact H
        clear H
        have H := H1
        clear H1
        have H' := Aside0.mk H
        clear H
       all_goals
        first
         | (
          obtain ⟨hcz13_0, hcz13_1⟩ := cz2_ BK249.out
          obtain ⟨hfz13_0, hfz13_1⟩ := fz2_ BK249.out
          go_wp2_with (first | (go_at_call 76; (with_reducible refine (impl_isName.calls k1 ((rd_T150 l0 x9_1).f0) _ _ (Aside0.out (by assumption))).mono ?_); rintro e w' ⟨rfl, ⟨nd, rfl⟩⟩; (try exact m2_)) | (go_at_call 76; (with_reducible refine (impl_isName.calls k1 ((rd_T150 l0 x9_1).f1) _ _ (Aside0.out (by assumption))).mono ?_); rintro e w' ⟨rfl, ⟨nd, rfl⟩⟩; (try exact m2_)))
          repeat (go_quiet (first | (go_at_call 76; (with_reducible refine (impl_isName.calls k1 ((rd_T150 l0 x9_1).f0) _ _ (Aside0.out (by assumption))).mono ?_); rintro e w' ⟨rfl, ⟨nd, rfl⟩⟩; (try exact m2_)) | (go_at_call 76; (with_reducible refine (impl_isName.calls k1 ((rd_T150 l0 x9_1).f1) _ _ (Aside0.out (by assumption))).mono ?_); rintro e w' ⟨rfl, ⟨nd, rfl⟩⟩; (try exact m2_))); try go_wp2_with (first | (go_at_call 76; (with_reducible refine (impl_isName.calls k1 ((rd_T150 l0 x9_1).f0) _ _ (Aside0.out (by assumption))).mono ?_); rintro e w' ⟨rfl, ⟨nd, rfl⟩⟩; (try exact m2_)) | (go_at_call 76; (with_reducible refine (impl_isName.calls k1 ((rd_T150 l0 x9_1).f1) _ _ (Aside0.out (by assumption))).mono ?_); rintro e w' ⟨rfl, ⟨nd, rfl⟩⟩; (try exact m2_))))
          go_meet
          case rel => exact ⟨_, _, m8_, H', ⟨m75_⟩, ⟨m96_⟩, ⟨m47_⟩⟩)
         | (
          obtain ⟨hcz15_0, hcz15_1⟩ := cz2_ BK249.out
          obtain ⟨hfz15_0, hfz15_1⟩ := fz2_ BK249.out
          go_wp2_with (first | (go_at_call 76; (with_reducible refine (impl_isName.calls k1 ((rd_T150 l0 x9_1).f0) _ _ (Aside0.out (by assumption))).mono ?_); rintro e w' ⟨rfl, ⟨nd, rfl⟩⟩; (try exact m2_)))
          repeat (go_quiet (first | (go_at_call 76; (with_reducible refine (impl_isName.calls k1 ((rd_T150 l0 x9_1).f0) _ _ (Aside0.out (by assumption))).mono ?_); rintro e w' ⟨rfl, ⟨nd, rfl⟩⟩; (try exact m2_))); try go_wp2_with (first | (go_at_call 76; (with_reducible refine (impl_isName.calls k1 ((rd_T150 l0 x9_1).f0) _ _ (Aside0.out (by assumption))).mono ?_); rintro e w' ⟨rfl, ⟨nd, rfl⟩⟩; (try exact m2_))))
          go_meet
          case rel => exact ⟨_, _, m8_, H', ⟨m75_⟩, ⟨m96_⟩, ⟨m47_⟩⟩)
      case rest =>
       clear HC6
       try clear c1
       try clear p2
       try clear q2
       try clear hx2
       try clear c3
       try clear c3b0
       try clear c4
       try clear c4b0
       try clear c5
       try clear c5b0
       try clear c7
       try clear c10
       try clear c12
       try clear hcz13_0
       try clear hcz13_1
       try clear hcz14_0
       try clear hcz14_1
       try clear hcz15_0
       try clear hcz15_1
       try clear hcz8_0
       try clear hcz8_1
       try clear hfz13_0
       try clear hfz13_1
       try clear hfz14_0
       try clear hfz14_1
       try clear hfz15_0
       try clear hfz15_1
       try clear hfz8_0
       try clear hfz8_1
       try clear hx248_0
       try clear hx248_1
       try clear p2
       try clear p248
       try clear q248
       obtain ⟨kq, x30_5, rfl, HA, HJ5, BK249, HB⟩ := hcut
       cases kq with
       | zero => exact absurd HA.out (by simp [impl_foesOk.j1])
       | succ kj5 =>
        have H := HA.out
        clear HA
        simp only [impl_foesOk.j1] at H
        by_cases c16 : x30_5 = true
        ·subst c16
         have H1 : (some false) = some r := by rw [if_pos rfl] at H; exact H
         clear H
         have H := H1
         clear H1
         obtain rfl := Option.some.inj H
         go_wp2
         repeat (go_quiet (fail); try go_wp2)
         go_ret
         exact ⟨m6_, m47_⟩
        ·replace c16 := Bool.eq_false_iff.mpr c16
         subst c16
         have H1 : (if x9_1 > 0 then (if 0 ≤ (wrap64 (x9_1 - 1)) then (if (wrap64 (x9_1 - 1)) < (l0.length : Int) then (if (Op.bytesLess ((rd_T150 l0 x9_1).f0).toList (((rd_T150 l0 (wrap64 (x9_1 - 1))).f0).toList)) = true then (impl_foesOk.j2 kj5 l0 a1 l0 (l0.length : Int) x9_1 true) else (if ((rd_T150 l0 (wrap64 (x9_1 - 1))).f0).toList = ((rd_T150 l0 x9_1).f0).toList then (impl_foesOk.j2 kj5 l0 a1 l0 (l0.length : Int) x9_1 (!(Op.bytesLess (((rd_T150 l0 (wrap64 (x9_1 - 1))).f1).toList) ((rd_T150 l0 x9_1).f1).toList))) else (impl_foesOk.j2 kj5 l0 a1 l0 (l0.length : Int) x9_1 false))) else (none)) else (none)) else (impl_foesOk.j2 kj5 l0 a1 l0 (l0.length : Int) x9_1 false)) = some r := by rw [if_neg (show ¬ (false = true) by decide)] at H; exact H
         clear H
         have H := H1
         clear H1
         have HC17 := Aside0.mk H
         clear H
         go_upto_region 6 with (fail)
         repeat (go_quiet (fail); go_upto_region 6 with (fail))
         go_cut [65] (fun v65 wc => ∃ (kq : Nat) (x65_16 : Bool), v65 = .bool x65_16 ∧ Aside0 (impl_foesOk.j2 kq l0 a1 l0 (l0.length : Int) x9_1 x65_16 = some r) ∧ Aside0 (kq ≤ kj5) ∧ Aside0 (wc.heap[gb249]? = some (.cells #[.string ((rd_T150 l0 x9_1).f0), .string ((rd_T150 l0 x9_1).f1)] 150 (0, 0))) ∧ Aside0 (Below w.heap.size w wc))
         case first =>
          have H := HC17.out
          clear HC17
          by_cases c18 : x9_1 > 0
          ·rw [if_pos c18] at H
           have c18b0 : decide (0 < x9_1) = true := decide_eq_true c18
           clear c18
           (first | rw [c18b0] | (simp only [i64_w, i32_w]; rw [c18b0]) | skip)
           obtain ⟨ji19, hji19⟩ : ∃ j_ : Int, (wrap64 (x9_1 - 1)) = j_ := ⟨_, rfl⟩
           replace H : (if 0 ≤ (ji19) then (if (ji19) < (l0.length : Int) then (if (Op.bytesLess ((rd_T150 l0 x9_1).f0).toList (((rd_T150 l0 (ji19)).f0).toList)) = true then (impl_foesOk.j2 kj5 l0 a1 l0 (l0.length : Int) x9_1 true) else (if ((rd_T150 l0 (ji19)).f0).toList = ((rd_T150 l0 x9_1).f0).toList then (impl_foesOk.j2 kj5 l0 a1 l0 (l0.length : Int) x9_1 (!(Op.bytesLess (((rd_T150 l0 (ji19)).f1).toList) ((rd_T150 l0 x9_1).f1).toList))) else (impl_foesOk.j2 kj5 l0 a1 l0 (l0.length : Int) x9_1 false))) else (none)) else (none)) = some r := by first | (rw [hji19] at H; exact H) | (simp only [hji19] at H ⊢; exact H)
           have hji19w : (IntKind.i64.wrap (x9_1 - 1)) = ji19 := (i64_w _).trans hji19
           by_cases c20 : 0 ≤ (ji19)
           ·rw [if_pos c20] at H
            have c20b0 : decide (0 ≤ (ji19)) = true := decide_eq_true c20
            clear c20
            by_cases c21 : (ji19) < (l0.length : Int)
            ·rw [if_pos c21] at H
             have c21b0 : decide ((ji19) < (l0.length : Int)) = true := decide_eq_true c21
             clear c21
             by_cases c22 : (Op.bytesLess ((rd_T150 l0 x9_1).f0).toList (((rd_T150 l0 (ji19)).f0).toList)) = true
             ·rw [if_pos c22] at H
              have c22b0 : (Op.bytesLess ((rd_T150 l0 x9_1).f0).toList (((rd_T150 l0 (ji19)).f0).toList)) = true := c22
              clear c22
              have H' := Aside0.mk H
              clear H
              have p252 : 0 ≤ ((ji19) : Int) := of_decide_eq_true m4_
              have q252 : (ji19) < (l0.length : Int) := of_decide_eq_true m4_
              obtain ⟨ad252, e252, hx252_0, hx252_1⟩ := at_T150 HR0.out (ji19) p252 q252
              obtain rfl : ad248 = ad252 := (by injection e252)
              replace hx252_0 := (HB.out.cell (World.block_lt_of_cell? w _ hx252_0)).trans hx252_0
              replace hx252_1 := (HB.out.cell (World.block_lt_of_cell? w _ hx252_1)).trans hx252_1
              replace p252 := eq_true p252
              replace q252 := eq_true q252
              obtain ⟨hcz23_0, hcz23_1⟩ := cz2_ BK249.out
              obtain ⟨hfz23_0, hfz23_1⟩ := fz2_ BK249.out
              go_wp2
              repeat (go_quiet (fail); try go_wp2)
              go_meet
              case rel => exact ⟨_, (true), m8_, H', ⟨(by have := HK1.out; have := HJ5.out; first | omega | exact Nat.le_refl _)⟩, ⟨m122_⟩, ⟨m47_⟩⟩
             ·rw [if_neg c22] at H
              have c22b0 : (Op.bytesLess ((rd_T150 l0 x9_1).f0).toList (((rd_T150 l0 (ji19)).f0).toList)) = false := by simpa using c22
              clear c22
              by_cases c24 : ((rd_T150 l0 (ji19)).f0).toList = ((rd_T150 l0 x9_1).f0).toList
              ·rw [if_pos c24] at H
               have c24b0 : (((rd_T150 l0 (ji19)).f0).toList == ((rd_T150 l0 x9_1).f0).toList) = true := beq_iff_eq.mpr c24
               have c24b1 : (((rd_T150 l0 (ji19)).f0).toList != ((rd_T150 l0 x9_1).f0).toList) = false := bne_eq_false_iff_eq.mpr c24
               clear c24
               have H' := Aside0.mk H
               clear H
               have p252 : 0 ≤ ((ji19) : Int) := of_decide_eq_true m4_
               have q252 : (ji19) < (l0.length : Int) := of_decide_eq_true m4_
               obtain ⟨ad252, e252, hx252_0, hx252_1⟩ := at_T150 HR0.out (ji19) p252 q252
               obtain rfl : ad248 = ad252 := (by injection e252)
               replace hx252_0 := (HB.out.cell (World.block_lt_of_cell? w _ hx252_0)).trans hx252_0
               replace hx252_1 := (HB.out.cell (World.block_lt_of_cell? w _ hx252_1)).trans hx252_1
               replace p252 := eq_true p252
               replace q252 := eq_true q252
               obtain ⟨hcz25_0, hcz25_1⟩ := cz2_ BK249.out
               obtain ⟨hfz25_0, hfz25_1⟩ := fz2_ BK249.out
               have p253 : 0 ≤ ((ji19) : Int) := of_decide_eq_true m4_
               have q253 : (ji19) < (l0.length : Int) := of_decide_eq_true m4_
               obtain ⟨ad253, e253, hx253_0, hx253_1⟩ := at_T150 HR0.out (ji19) p253 q253
               obtain rfl : ad248 = ad253 := (by injection e253)
               replace hx253_0 := (HB.out.cell (World.block_lt_of_cell? w _ hx253_0)).trans hx253_0
               replace hx253_1 := (HB.out.cell (World.block_lt_of_cell? w _ hx253_1)).trans hx253_1
               replace p253 := eq_true p253
               replace q253 := eq_true q253
               have p254 : 0 ≤ ((ji19) : Int) := of_decide_eq_true m4_
               have q254 : (ji19) < (l0.length : Int) := of_decide_eq_true m4_
               obtain ⟨ad254, e254, hx254_0, hx254_1⟩ := at_T150 HR0.out (ji19) p254 q254
               obtain rfl : ad248 = ad254 := (by injection e254)
               replace hx254_0 := (HB.out.cell (World.block_lt_of_cell? w _ hx254_0)).trans hx254_0
               replace hx254_1 := (HB.out.cell (World.block_lt_of_cell? w _ hx254_1)).trans hx254_1
               replace p254 := eq_true p254
               replace q254 := eq_true q254
               go_wp2
               repeat (go_quiet (fail); try go_wp2)
               go_meet
               case rel => exact ⟨_, (!(Op.bytesLess (((rd_T150 l0 (ji19)).f1).toList) ((rd_T150 l0 x9_1).f1).toList)), (by first | rfl | (simp; done) | (simp only [← hji19] <;> (first | rfl | simp)) | (simp [*]; done)), H', ⟨(by have := HK1.out; have := HJ5.out; first | omega | exact Nat.le_refl _)⟩, ⟨m122_⟩, ⟨m47_⟩⟩
              ·rw [if_neg c24] at H
               have c24b0 : (((rd_T150 l0 (ji19)).f0).toList == ((rd_T150 l0 x9_1).f0).toList) = false := beq_eq_false_iff_ne.mpr c24
               have c24b1 : (((rd_T150 l0 (ji19)).f0).toList != ((rd_T150 l0 x9_1).f0).toList) = true := bne_iff_ne.mpr c24
               have H' := Aside0.mk H
               clear H
               have p252 : 0 ≤ ((ji19) : Int) := of_decide_eq_true m4_
               have q252 : (ji19) < (l0.length : Int) := of_decide_eq_true m4_
               obtain ⟨ad252, e252, hx252_0, hx252_1⟩ := at_T150 HR0.out (ji19) p252 q252
               obtain rfl : ad248 = ad252 := (by injection e252)
               replace hx252_0 := (HB.out.cell (World.block_lt_of_cell? w _ hx252_0)).trans hx252_0
               replace hx252_1 := (HB.out.cell (World.block_lt_of_cell? w _ hx252_1)).trans hx252_1
               replace p252 := eq_true p252
               replace q252 := eq_true q252
               obtain ⟨hcz26_0, hcz26_1⟩ := cz2_ BK249.out
               obtain ⟨hfz26_0, hfz26_1⟩ := fz2_ BK249.out
               have p253 : 0 ≤ ((ji19) : Int) := of_decide_eq_true m4_
               have q253 : (ji19) < (l0.length : Int) := of_decide_eq_true m4_
               obtain ⟨ad253, e253, hx253_0, hx253_1⟩ := at_T150 HR0.out (ji19) p253 q253
               obtain rfl : ad248 = ad253 := (by injection e253)
               replace hx253_0 := (HB.out.cell (World.block_lt_of_cell? w _ hx253_0)).trans hx253_0
               replace hx253_1 := (HB.out.cell (World.block_lt_of_cell? w _ hx253_1)).trans hx253_1
               replace p253 := eq_true p253
               replace q253 := eq_true q253
               go_wp2
               repeat (go_quiet (fail); try go_wp2)
               go_meet
               case rel => exact ⟨_, (false), m8_, H', ⟨(by have := HK1.out; have := HJ5.out; first | omega | exact Nat.le_refl _)⟩, ⟨m122_⟩, ⟨m47_⟩⟩
            ·rw [if_neg c21] at H
             exact absurd H (by simp)
           ·rw [if_neg c20] at H
            exact absurd H (by simp)
          ·rw [if_neg c18] at H
           have c18b0 : decide (0 < x9_1) = false := decide_eq_false c18
           clear c18
           (first | rw [c18b0] | (simp only [i64_w, i32_w]; rw [c18b0]) | skip)
           have H' := Aside0.mk H
           clear H
           go_wp2
           repeat (go_quiet (fail); try go_wp2)
           go_meet
           case rel => exact ⟨_, (false), m8_, H', ⟨(by have := HK1.out; have := HJ5.out; first | omega | exact Nat.le_refl _)⟩, ⟨m122_⟩, ⟨m47_⟩⟩
         case rest =>
          clear HC17
          try clear c1
          try clear c2
          try clear p2
          try clear q2
          try clear hx2
          try clear c3
          try clear c3b0
          try clear c4
          try clear c4b0
          try clear c5
          try clear c5b0
          try clear p6
          try clear c7
          try clear c10
          try clear c12
          try clear c16
          try clear c18
          try clear c18b0
          try clear c20
          try clear c20b0
          try clear c21
          try clear c21b0
          try clear c22
          try clear c22b0
          try clear c24
          try clear c24b0
          try clear c24b1
          try clear p24
          try clear q24
          try clear hx24
          try clear p25
          try clear q25
          try clear hx25
          try clear hcz13_0
          try clear hcz13_1
          try clear hcz14_0
          try clear hcz14_1
          try clear hcz15_0
          try clear hcz15_1
          try clear hcz23_0
          try clear hcz23_1
          try clear hcz25_0
          try clear hcz25_1
          try clear hcz26_0
          try clear hcz26_1
          try clear hcz8_0
          try clear hcz8_1
          try clear hfz13_0
          try clear hfz13_1
          try clear hfz14_0
          try clear hfz14_1
          try clear hfz15_0
          try clear hfz15_1
          try clear hfz23_0
          try clear hfz23_1
          try clear hfz25_0
          try clear hfz25_1
          try clear hfz26_0
          try clear hfz26_1
          try clear hfz8_0
          try clear hfz8_1
          try clear hx248_0
          try clear hx248_1
          try clear hx252_0
          try clear hx252_1
          try clear hx253_0
          try clear hx253_1
          try clear hx254_0
          try clear hx254_1
          try clear p2
          try clear p248
          try clear p252
          try clear p253
          try clear p254
          try clear q2
          try clear q248
          try clear q252
          try clear q253
          try clear q254
          obtain ⟨kq, x65_16, rfl, HA, HJ16, BK249, HB⟩ := hcut
          cases kq with
          | zero => exact absurd HA.out (by simp [impl_foesOk.j2])
          | succ kj16 =>
           have H := HA.out
           clear HA
           simp only [impl_foesOk.j2] at H
           by_cases c27 : x65_16 = true
           ·subst c27
            have H1 : (some false) = some r := by rw [if_pos rfl] at H; exact H
            clear H
            have H := H1
            clear H1
            obtain rfl := Option.some.inj H
            go_wp2
            repeat (go_quiet (fail); try go_wp2)
            go_ret
            exact ⟨m6_, m47_⟩
           ·replace c27 := Bool.eq_false_iff.mpr c27
            subst c27
            have H1 : (impl_foesOk.l0 kj16 l0 a1 l0 (l0.length : Int) (wrap64 (x9_1 + 1))) = some r := by rw [if_neg (show ¬ (false = true) by decide)] at H; exact H
            clear H
            have H := H1
            clear H1
            have H' := Aside0.mk H
            clear H
            go_wp2
            repeat (go_quiet (fail); try go_wp2)
            go_roundg kj16
            case measure => have := HK1.out; have := HJ5.out; have := HJ16.out; omega
            case rel => exact ⟨(wrap64 (x9_1 + 1)), m8_, H', ⟨(by have := HK1.out; have := HJ5.out; have := HJ16.out; omega)⟩, ⟨m47_⟩⟩
     ·rw [if_neg c5] at H
      exact absurd H (by simp)
    ·rw [if_neg c4] at H
     exact absurd H (by simp)
   ·rw [if_neg c3] at H
    have c3b0 : decide (x9_1 < (l0.length : Int)) = false := decide_eq_false c3
    clear c3
    obtain rfl := Option.some.inj H
    go_wp2
    repeat (go_quiet (fail); try go_wp2)
    go_ret
    exact ⟨m6_, m0_⟩

end Go.Proofs.Ytpildfacenlceaa.QFnExactPlantFoes
