import Derived.Test.YtodeegjblililaaZFnPlantTop3
import Derived.Shelf.Lay
import Derived.Shelf.Sort.AssemblyIn
import Derived.Ground.SoProg
import Derived.Test.YtodeegjblililaaProg
import Derived.KernelRfl
set_option linter.unusedVariables false
set_option linter.unusedSimpArgs false
namespace Go.Proofs.Ytodeegjblililaa.QU
open Go Go.Aw Go.RowKit Go.Proofs
set_option maxRecDepth 100000
set_option maxHeartbeats 40000000
variable {G : Nat → Option Obj}
attribute [local irreducible] callE Lp Sq Cut RetOk Fits
theorem impl_PlantGroup.ac {k : Nat} {a0_0 : List ByteArray} {a0_1 : List S_impl_PlantFoe} {a0_2 : List S_impl_PlantPlace} {a0_3 : List S_impl_PlantValve} {l1 : List ByteArray} {a2 : ByteArray} {r : List ByteArray} (H : impl_PlantGroup.f k a0_0 a0_1 a0_2 a0_3 l1 a2 = some r) : ACalls Try.prog G 28 [] [.agg [(sv_str a0_0), (sv_S_impl_PlantFoe a0_1), (sv_S_impl_PlantPlace a0_2), (sv_S_impl_PlantValve a0_3)], (sv_str l1), .str a2] [] ((sv_str r)) := by
  refine acalls_of tok hP Try.func28 rfl (by kernel_rfl) [.tmp 6] rfl (by kernel_rfl) (Nat.le_of_ble_eq_true rfl) (.l .n (.l .n (.c .n .n))) rfl ?_
  unfold impl_PlantGroup.f at H
  conv => whnf
  revert H; refine bind_elim (fun t11083 A H => ?_)
  refine call_mk (impl_PlantValid.ac A) (avAL_cons (avA_agg (avL_cons (av_shut' rfl) (avL_cons (av_shut' rfl) (avL_cons (av_shut' rfl) (avL_cons (av_shut' rfl) (avL_nil)))))) (avAL_nil)) (Or.inl rfl) rfl rfl (Nat.le_of_ble_eq_true rfl) ?_
  conv => whnf
  refine br_nt H (fun c H => ?_) (fun c H => ?_)
  conv => whnf
  revert H; refine bind_elim (fun t11085 A H => ?_)
  refine call_mk (impl_group.ac A) (avAL_cons (avA_agg (avL_cons (av_shut' rfl) (avL_cons (av_shut' rfl) (avL_cons (av_shut' rfl) (avL_cons (av_shut' rfl) (avL_nil)))))) (avAL_cons (avA_shut' rfl) (avAL_cons (avA_shut' rfl) (avAL_nil)))) (Or.inl rfl) rfl rfl (Nat.le_of_ble_eq_true rfl) ?_
  conv => whnf
  refine cut_ 80 [(6, (sv_str t11085))] [] rfl ⟨.inl rfl, trivial⟩ trivial ?_
  conv => whnf
  injection H with H; subst H
  exact ret_fz [] (rtA_eq rfl)
  conv => whnf
  injection H with H; subst H
  exact ret_fz [] (rtA_nil)
theorem laws_wpReach.j0_sq {F : (Exit → St → Prop) → St → Prop} {hv : List Tmp} {K : St → Prop} {Q : Exit → St → Prop} {σ : St} {r : Bool} {KK : Nat} {a0_3 : List S_impl_PlantValve} {l1 : List ByteArray} {a3 : ByteArray} {a4 : Int} {x11 : List ByteArray} {x12 : Int} {x14 : Int}
    (h1 : F (fun e σ' => match e with | .normal => ∃ (y : Nat × (List ByteArray)) (rn : List (Option Nat)), (laws_wpReach.j0 y.1 a0_3 l1 a3 a4 x11 x12 y.2 x14 = some r ∧ y.1 < KK) ∧ Fits σ σ' [137] [(13, .own 0 y.2.length)] [] [.arr 9 1 (y.2.map en_str)] rn | e => Q e σ') σ)
    (h2 : ∀ (k : Nat) (x13_1 : List ByteArray), k < KK → laws_wpReach.j0 k a0_3 l1 a3 a4 x11 x12 x13_1 x14 = some r → headN σ hv [137] [(13, .own 0 x13_1.length)] [] [.arr 9 1 (x13_1.map en_str)] K) : Sq F hv K Q σ := by
  unfold Sq
  refine ⟨Nat × (List ByteArray), fun x => laws_wpReach.j0 x.1 a0_3 l1 a3 a4 x11 x12 x.2 x14 = some r ∧ x.1 < KK, [137], fun x => [(13, .own 0 x.2.length)], fun x => [], fun x => [.arr 9 1 (x.2.map en_str)], h1, ?_⟩
  rintro ⟨k, x13_1⟩ ⟨H, hk⟩
  exact h2 k x13_1 hk H
theorem laws_wpReach.l1_lp {F : (Exit → St → Prop) → St → Prop} {hv : List Tmp} {Q : Exit → St → Prop} {σ : St} {r : Bool} {k : Nat} {a0_3 : List S_impl_PlantValve} {l1 : List ByteArray} {a3 : ByteArray} {a4 : Int} {x11 : List ByteArray} {x12 : Int} {x13 : List ByteArray} {x14 : Int} (H : laws_wpReach.l1 k a0_3 l1 a3 a4 x11 x12 x13 x14 = some r) (rn : List (Option Nat)) (h1 : Fits σ σ [113] [(13, .own 0 x13.length), (14, .int .i64 x14)] [] [.arr 9 1 (x13.map en_str)] rn)
    (h2 : ∀ (k0 : Nat) (x13 : List ByteArray) (x14 : Int), k0 < k + 1 → laws_wpReach.l1 k0 a0_3 l1 a3 a4 x11 x12 x13 x14 = some r → headN σ hv [113] [(13, .own 0 x13.length), (14, .int .i64 x14)] [] [.arr 9 1 (x13.map en_str)] (F (fun e σ' => match e with | .normal => ∃ (y : Nat × (List ByteArray) × Int) (rn : List (Option Nat)), (laws_wpReach.l1 y.1 a0_3 l1 a3 a4 x11 x12 y.2.1 y.2.2 = some r ∧ y.1 < k + 1) ∧ y.1 < k0 ∧ Fits σ σ' [113] [(13, .own 0 y.2.1.length), (14, .int .i64 y.2.2)] [] [.arr 9 1 (y.2.1.map en_str)] rn | e => Q e σ'))) : Lp F hv Q σ := by
  unfold Lp
  refine ⟨Nat × (List ByteArray) × Int, fun x => laws_wpReach.l1 x.1 a0_3 l1 a3 a4 x11 x12 x.2.1 x.2.2 = some r ∧ x.1 < k + 1, fun x => x.1, [113], fun x => [(13, .own 0 x.2.1.length), (14, .int .i64 x.2.2)], fun x => [], fun x => [.arr 9 1 (x.2.1.map en_str)], ⟨(k, x13, x14), rn, ⟨H, Nat.lt_succ_self _⟩, h1⟩, ?_⟩
  rintro ⟨k, x13, x14⟩ ⟨H, hk⟩
  exact h2 k x13 x14 hk H
theorem laws_wpReach.l0_lp {F : (Exit → St → Prop) → St → Prop} {hv : List Tmp} {Q : Exit → St → Prop} {σ : St} {r : Bool} {k : Nat} {a0_3 : List S_impl_PlantValve} {l1 : List ByteArray} {a3 : ByteArray} {a4 : Int} {x11 : List ByteArray} {x12 : Int} (H : laws_wpReach.l0 k a0_3 l1 a3 a4 x11 x12 = some r) (rn : List (Option Nat)) (h1 : Fits σ σ [48] [(11, .own 0 x11.length), (12, .int .i64 x12)] [] [.arr 9 1 (x11.map en_str)] rn)
    (h2 : ∀ (k0 : Nat) (x11 : List ByteArray) (x12 : Int), k0 < k + 1 → laws_wpReach.l0 k0 a0_3 l1 a3 a4 x11 x12 = some r → headN σ hv [48] [(11, .own 0 x11.length), (12, .int .i64 x12)] [] [.arr 9 1 (x11.map en_str)] (F (fun e σ' => match e with | .normal => ∃ (y : Nat × (List ByteArray) × Int) (rn : List (Option Nat)), (laws_wpReach.l0 y.1 a0_3 l1 a3 a4 y.2.1 y.2.2 = some r ∧ y.1 < k + 1) ∧ y.1 < k0 ∧ Fits σ σ' [48] [(11, .own 0 y.2.1.length), (12, .int .i64 y.2.2)] [] [.arr 9 1 (y.2.1.map en_str)] rn | e => Q e σ'))) : Lp F hv Q σ := by
  unfold Lp
  refine ⟨Nat × (List ByteArray) × Int, fun x => laws_wpReach.l0 x.1 a0_3 l1 a3 a4 x.2.1 x.2.2 = some r ∧ x.1 < k + 1, fun x => x.1, [48], fun x => [(11, .own 0 x.2.1.length), (12, .int .i64 x.2.2)], fun x => [], fun x => [.arr 9 1 (x.2.1.map en_str)], ⟨(k, x11, x12), rn, ⟨H, Nat.lt_succ_self _⟩, h1⟩, ?_⟩
  rintro ⟨k, x11, x12⟩ ⟨H, hk⟩
  exact h2 k x11 x12 hk H
theorem laws_wpReach.ac {k : Nat} {a0_0 : List ByteArray} {a0_1 : List S_impl_PlantFoe} {a0_2 : List S_impl_PlantPlace} {a0_3 : List S_impl_PlantValve} {l1 : List ByteArray} {a2 : ByteArray} {a3 : ByteArray} {a4 : Int} {r : Bool} (H : laws_wpReach.f k a0_0 a0_1 a0_2 a0_3 l1 a2 a3 a4 = some r) : ACalls Try.prog G 74 [] [.agg [(sv_str a0_0), (sv_S_impl_PlantFoe a0_1), (sv_S_impl_PlantPlace a0_2), (sv_S_impl_PlantValve a0_3)], (sv_str l1), .str a2, .str a3, .int .i64 a4] [] (.bool r) := by
  refine acalls_of tok hP Try.func74 rfl (by kernel_rfl) [.tmp 10] rfl (by kernel_rfl) (Nat.le_of_ble_eq_true rfl) (.l .n (.l .n (.l .n (.l (.l .n (.l (.c .n .n) (.l (.l .n (.l (.l .n (.l (.c .n .n) (.l (.l .n (.l (.c .n .n) (.j (.c .n .n) (.c .n .n)))) .n))) .n)) .n))) .n)))) rfl ?_
  unfold laws_wpReach.f at H
  conv => whnf
  refine br_d H (fun c H => ?_) (fun c H => ?_)
  conv => whnf
  injection H with H; subst H
  exact ret_fz [] (rtA_eq rfl)
  conv => whnf
  refine Or.inl ?_
  conv => whnf
  refine laws_wpReach.l0_lp (a0_3 := a0_3) (l1 := l1) (a3 := a3) (a4 := a4) (k := k) H [some 48] (fits_of ⟨mt_own lm_, ⟨.inl ⟨rfl, rfl⟩, trivial⟩⟩ ⟨fm_, trivial⟩ fi_ trivial rfl) ?_
  intro k x11 x12 hk H; rcases k with _ | k; exact none_elim H; rw [laws_wpReach.l0] at H; conv => whnf
  refine cut_ 97 [(1, (sv_str l1)), (3, .str a3), (4, .int .i64 a4), (5, .bp 0 0), (11, .own 72 x11.length), (12, .int .i64 x12), (23, .bool (decide (x12 < a4)))] [(0, .box [(sv_str a0_0), (sv_S_impl_PlantFoe a0_1), (sv_S_impl_PlantPlace a0_2), (sv_S_impl_PlantValve a0_3)]), (72, .arr 9 1 (x11.map en_str))] rfl ⟨.inl rfl, ⟨.inl rfl, ⟨.inl rfl, ⟨.inl rfl, ⟨.inl rfl, ⟨.inl rfl, ⟨.inl rfl, trivial⟩⟩⟩⟩⟩⟩⟩ ⟨rfl, ⟨rfl, trivial⟩⟩ ?_
  conv => whnf
  refine br_d H (fun c H => ?_) (fun c H => ?_)
  conv => whnf
  refine Or.inl ?_
  conv => whnf
  refine nd_ H (fun c H => ?_)
  conv => whnf
  refine laws_wpReach.l1_lp (a0_3 := a0_3) (l1 := l1) (a3 := a3) (a4 := a4) (x11 := x11) (x12 := x12) (k := k) H [some 113] (fits_of ⟨mt_own lm_, ⟨.inl ⟨rfl, rfl⟩, trivial⟩⟩ ⟨fm_, trivial⟩ fi_ trivial rfl) ?_
  intro k x13 x14 hk H; rcases k with _ | k; exact none_elim H; rw [laws_wpReach.l1] at H; conv => whnf
  refine cut_ 178 [(1, (sv_str l1)), (3, .str a3), (4, .int .i64 a4), (5, .bp 0 0), (11, .own 72 x11.length), (12, .int .i64 x12), (13, .own 137 x13.length), (14, .int .i64 x14), (33, .bool (decide (x14 < (a0_3.length : Int))))] [(0, .box [(sv_str a0_0), (sv_S_impl_PlantFoe a0_1), (sv_S_impl_PlantPlace a0_2), (sv_S_impl_PlantValve a0_3)]), (72, .arr 9 1 (x11.map en_str)), (137, .arr 9 1 (x13.map en_str))] rfl ⟨.inl rfl, ⟨.inl rfl, ⟨.inl rfl, ⟨.inl rfl, ⟨.inl rfl, ⟨.inl rfl, ⟨.inl rfl, ⟨.inl rfl, ⟨.inl rfl, trivial⟩⟩⟩⟩⟩⟩⟩⟩⟩ ⟨rfl, ⟨rfl, ⟨rfl, trivial⟩⟩⟩ ?_
  conv => whnf
  refine br_d H (fun c H => ?_) (fun c H => ?_)
  conv => whnf
  refine nd_ H (fun c H => ?_)
  conv => whnf
  refine Nd.mk nf_ ?_
  conv => whnf
  refine El.mk (rdm_en_S_impl_PlantValve _ _ nf_ nf_) ?_
  conv => whnf
  revert H; refine bind_elim (fun t11283 A H => ?_)
  refine call_mk (laws_wpHas.ac A) (avAL_cons (avA_shut' rfl) (avAL_cons (avA_shut' rfl) (avAL_nil))) (Or.inl rfl) rfl rfl (Nat.le_of_ble_eq_true rfl) ?_
  conv => whnf
  refine cut_ 274 [(1, (sv_str l1)), (3, .str a3), (4, .int .i64 a4), (5, .bp 0 0), (11, .own 72 x11.length), (12, .int .i64 x12), (13, .own 137 x13.length), (14, .int .i64 x14), (15, .bp 218 0), (45, .bool (!t11283))] [(0, .box [(sv_str a0_0), (sv_S_impl_PlantFoe a0_1), (sv_S_impl_PlantPlace a0_2), (sv_S_impl_PlantValve a0_3)]), (72, .arr 9 1 (x11.map en_str)), (137, .arr 9 1 (x13.map en_str)), (218, .box [.str ((rd_impl_PlantValve a0_3 x14).f0), .str ((rd_impl_PlantValve a0_3 x14).f1), .str ((rd_impl_PlantValve a0_3 x14).f2), .str ((rd_impl_PlantValve a0_3 x14).f3)])] rfl ⟨.inl rfl, ⟨.inl rfl, ⟨.inl rfl, ⟨.inl rfl, ⟨.inl rfl, ⟨.inl rfl, ⟨.inl rfl, ⟨.inl rfl, ⟨.inl rfl, ⟨.inl rfl, trivial⟩⟩⟩⟩⟩⟩⟩⟩⟩⟩ ⟨rfl, ⟨rfl, ⟨rfl, ⟨rfl, trivial⟩⟩⟩⟩ ?_
  conv => whnf
  refine br_nt H (fun c H => ?_) (fun c H => ?_)
  conv => whnf
  refine laws_wpReach.j0_sq (a0_3 := a0_3) (l1 := l1) (a3 := a3) (a4 := a4) (x11 := x11) (x12 := x12) (x14 := x14) (KK := k + 1) (r := r) ?_ ?_
  conv => whnf
  revert H; refine bind_elim (fun t11289 A H => ?_)
  refine call_mk (laws_wpHas.ac A) (avAL_cons (avA_own rfl rfl) (avAL_cons (avA_shut' rfl) (avAL_nil))) (Or.inr ⟨rfl, bo_nil⟩) rfl rfl (Nat.le_of_ble_eq_true rfl) ?_
  conv => whnf
  refine br_t H (fun c H => ?_) (fun c H => ?_)
  conv => whnf
  refine Br.t ft_ ?_
  conv => whnf
  refine Br.t ft_ ?_
  conv => whnf
  refine Br.t ft_ ?_
  conv => whnf
  revert H; refine bind_elim (fun t11290 A H => ?_)
  refine call_mk (laws_wpHas.ac A) (avAL_cons (avA_own rfl rfl) (avAL_cons (avA_shut' rfl) (avAL_nil))) (Or.inr ⟨rfl, bo_nil⟩) rfl rfl (Nat.le_of_ble_eq_true rfl) ?_
  conv => whnf
  refine Br.t ft_ ?_
  conv => whnf
  refine Br.t ft_ ?_
  conv => whnf
  refine cut_ 362 [(1, (sv_str l1)), (3, .str a3), (4, .int .i64 a4), (5, .bp 0 0), (11, .own 72 x11.length), (12, .int .i64 x12), (13, .own 137 x13.length), (14, .int .i64 x14), (15, .bp 218 0), (56, .bool (!t11290))] [(0, .box [(sv_str a0_0), (sv_S_impl_PlantFoe a0_1), (sv_S_impl_PlantPlace a0_2), (sv_S_impl_PlantValve a0_3)]), (72, .arr 9 1 (x11.map en_str)), (137, .arr 9 1 (x13.map en_str)), (218, .box [.str ((rd_impl_PlantValve a0_3 x14).f0), .str ((rd_impl_PlantValve a0_3 x14).f1), .str ((rd_impl_PlantValve a0_3 x14).f2), .str ((rd_impl_PlantValve a0_3 x14).f3)])] rfl ⟨.inl rfl, ⟨.inl rfl, ⟨.inl rfl, ⟨.inl rfl, ⟨.inl rfl, ⟨.inl rfl, ⟨.inl rfl, ⟨.inl rfl, ⟨.inl rfl, ⟨.inl rfl, trivial⟩⟩⟩⟩⟩⟩⟩⟩⟩⟩ ⟨rfl, ⟨rfl, ⟨rfl, ⟨rfl, trivial⟩⟩⟩⟩ ?_
  conv => whnf
  refine br_nt H (fun c H => ?_) (fun c H => ?_)
  conv => whnf
  exact ⟨(k, x13), [some 137], ⟨H, lt_⟩, (fits_of ⟨rfl, trivial⟩ ⟨rfl, trivial⟩ fi_ trivial rfl)⟩
  conv => whnf
  refine Or.inl ?_
  conv => whnf
  refine nd_ H (fun c H => ?_)
  conv => whnf
  exact ⟨(k, (x13 ++ ([(rd_impl_PlantValve a0_3 x14).f2] : List ByteArray))), [some 394], ⟨H, lt_⟩, (fits_of ⟨mt_own lm_, trivial⟩ ⟨fm_, trivial⟩ fi_ trivial rfl)⟩
  conv => whnf
  refine Br.f ff_ ?_
  conv => whnf
  refine Br.f ff_ ?_
  conv => whnf
  refine Br.f ff_ ?_
  conv => whnf
  refine Br.f ff_ ?_
  conv => whnf
  refine Br.f ff_ ?_
  conv => whnf
  refine cut_ 362 [(1, (sv_str l1)), (3, .str a3), (4, .int .i64 a4), (5, .bp 0 0), (11, .own 72 x11.length), (12, .int .i64 x12), (13, .own 137 x13.length), (14, .int .i64 x14), (15, .bp 218 0), (56, .bool false)] [(0, .box [(sv_str a0_0), (sv_S_impl_PlantFoe a0_1), (sv_S_impl_PlantPlace a0_2), (sv_S_impl_PlantValve a0_3)]), (72, .arr 9 1 (x11.map en_str)), (137, .arr 9 1 (x13.map en_str)), (218, .box [.str ((rd_impl_PlantValve a0_3 x14).f0), .str ((rd_impl_PlantValve a0_3 x14).f1), .str ((rd_impl_PlantValve a0_3 x14).f2), .str ((rd_impl_PlantValve a0_3 x14).f3)])] rfl ⟨.inl rfl, ⟨.inl rfl, ⟨.inl rfl, ⟨.inl rfl, ⟨.inl rfl, ⟨.inl rfl, ⟨.inl rfl, ⟨.inl rfl, ⟨.inl rfl, ⟨.inl rfl, trivial⟩⟩⟩⟩⟩⟩⟩⟩⟩⟩ ⟨rfl, ⟨rfl, ⟨rfl, ⟨rfl, trivial⟩⟩⟩⟩ ?_
  conv => whnf
  refine Br.f rfl ?_
  conv => whnf
  exact ⟨(k, x13), [some 137], ⟨H, lt_⟩, (fits_of ⟨rfl, trivial⟩ ⟨rfl, trivial⟩ fi_ trivial rfl)⟩
  intro k x13_1 hk H; rcases k with _ | k; exact none_elim H; rw [laws_wpReach.j0] at H; conv => whnf
  revert H; refine bind_elim (fun t11287 A H => ?_)
  refine call_mk (laws_wpHas.ac A) (avAL_cons (avA_own rfl rfl) (avAL_cons (avA_shut' rfl) (avAL_nil))) (Or.inr ⟨rfl, bo_nil⟩) rfl rfl (Nat.le_of_ble_eq_true rfl) ?_
  conv => whnf
  refine br_t H (fun c H => ?_) (fun c H => ?_)
  conv => whnf
  refine Br.t ft_ ?_
  conv => whnf
  refine Br.t ft_ ?_
  conv => whnf
  refine Br.t ft_ ?_
  conv => whnf
  revert H; refine bind_elim (fun t11288 A H => ?_)
  refine call_mk (laws_wpHas.ac A) (avAL_cons (avA_own rfl rfl) (avAL_cons (avA_shut' rfl) (avAL_nil))) (Or.inr ⟨rfl, bo_nil⟩) rfl rfl (Nat.le_of_ble_eq_true rfl) ?_
  conv => whnf
  refine Br.t ft_ ?_
  conv => whnf
  refine Br.t ft_ ?_
  conv => whnf
  refine cut_ 363 [(1, (sv_str l1)), (3, .str a3), (4, .int .i64 a4), (5, .bp 0 0), (11, .own 72 x11.length), (12, .int .i64 x12), (13, .own 274 x13_1.length), (14, .int .i64 x14), (15, .bp 218 0), (72, .bool (!t11288))] [(0, .box [(sv_str a0_0), (sv_S_impl_PlantFoe a0_1), (sv_S_impl_PlantPlace a0_2), (sv_S_impl_PlantValve a0_3)]), (72, .arr 9 1 (x11.map en_str)), (218, .box [.str ((rd_impl_PlantValve a0_3 x14).f0), .str ((rd_impl_PlantValve a0_3 x14).f1), .str ((rd_impl_PlantValve a0_3 x14).f2), .str ((rd_impl_PlantValve a0_3 x14).f3)]), (274, .arr 9 1 (x13_1.map en_str))] rfl ⟨.inl rfl, ⟨.inl rfl, ⟨.inl rfl, ⟨.inl rfl, ⟨.inl rfl, ⟨.inl rfl, ⟨.inl rfl, ⟨.inl rfl, ⟨.inl rfl, ⟨.inl rfl, trivial⟩⟩⟩⟩⟩⟩⟩⟩⟩⟩ ⟨rfl, ⟨rfl, ⟨rfl, ⟨rfl, trivial⟩⟩⟩⟩ ?_
  conv => whnf
  refine br_nt H (fun c H => ?_) (fun c H => ?_)
  conv => whnf
  exact ⟨(k, x13_1, wrap64 (x14 + 1)), [some 274], ⟨H, lt_⟩, lt_, (fits_of ⟨rfl, ⟨.inl ⟨rfl, rfl⟩, trivial⟩⟩ ⟨rfl, trivial⟩ fi_ trivial rfl)⟩
  conv => whnf
  refine Or.inl ?_
  conv => whnf
  refine nd_ H (fun c H => ?_)
  conv => whnf
  exact ⟨(k, (x13_1 ++ ([(rd_impl_PlantValve a0_3 x14).f1] : List ByteArray)), wrap64 (x14 + 1)), [some 395], ⟨H, lt_⟩, lt_, (fits_of ⟨mt_own lm_, ⟨.inl ⟨rfl, rfl⟩, trivial⟩⟩ ⟨fm_, trivial⟩ fi_ trivial rfl)⟩
  conv => whnf
  refine Br.f ff_ ?_
  conv => whnf
  refine Br.f ff_ ?_
  conv => whnf
  refine Br.f ff_ ?_
  conv => whnf
  refine Br.f ff_ ?_
  conv => whnf
  refine Br.f ff_ ?_
  conv => whnf
  refine cut_ 363 [(1, (sv_str l1)), (3, .str a3), (4, .int .i64 a4), (5, .bp 0 0), (11, .own 72 x11.length), (12, .int .i64 x12), (13, .own 274 x13_1.length), (14, .int .i64 x14), (15, .bp 218 0), (72, .bool false)] [(0, .box [(sv_str a0_0), (sv_S_impl_PlantFoe a0_1), (sv_S_impl_PlantPlace a0_2), (sv_S_impl_PlantValve a0_3)]), (72, .arr 9 1 (x11.map en_str)), (218, .box [.str ((rd_impl_PlantValve a0_3 x14).f0), .str ((rd_impl_PlantValve a0_3 x14).f1), .str ((rd_impl_PlantValve a0_3 x14).f2), .str ((rd_impl_PlantValve a0_3 x14).f3)]), (274, .arr 9 1 (x13_1.map en_str))] rfl ⟨.inl rfl, ⟨.inl rfl, ⟨.inl rfl, ⟨.inl rfl, ⟨.inl rfl, ⟨.inl rfl, ⟨.inl rfl, ⟨.inl rfl, ⟨.inl rfl, ⟨.inl rfl, trivial⟩⟩⟩⟩⟩⟩⟩⟩⟩⟩ ⟨rfl, ⟨rfl, ⟨rfl, ⟨rfl, trivial⟩⟩⟩⟩ ?_
  conv => whnf
  refine Br.f rfl ?_
  conv => whnf
  exact ⟨(k, x13_1, wrap64 (x14 + 1)), [some 274], ⟨H, lt_⟩, lt_, (fits_of ⟨rfl, ⟨.inl ⟨rfl, rfl⟩, trivial⟩⟩ ⟨rfl, trivial⟩ fi_ trivial rfl)⟩
  conv => whnf
  exact ⟨(k, x13, wrap64 (x14 + 1)), [some 137], ⟨H, lt_⟩, lt_, (fits_of ⟨rfl, ⟨.inl ⟨rfl, rfl⟩, trivial⟩⟩ ⟨rfl, trivial⟩ fi_ trivial rfl)⟩
  conv => whnf
  exact ⟨(k, x13, wrap64 (x12 + 1)), [some 137], ⟨H, lt_⟩, lt_, (fits_of ⟨rfl, ⟨.inl ⟨rfl, rfl⟩, trivial⟩⟩ ⟨rfl, trivial⟩ fi_ trivial rfl)⟩
  conv => whnf
  revert H; refine bind_elim (fun t11292 A H => ?_)
  refine call_mk (laws_wpHas.ac A) (avAL_cons (avA_own rfl rfl) (avAL_cons (avA_shut' rfl) (avAL_nil))) (Or.inr ⟨rfl, bo_nil⟩) rfl rfl (Nat.le_of_ble_eq_true rfl) ?_
  conv => whnf
  injection H with H; subst H
  exact ret_fz [] (rtA_eq rfl)
theorem impl_PlantJoined_1.l0_lp {F : (Exit → St → Prop) → St → Prop} {hv : List Tmp} {Q : Exit → St → Prop} {σ : St} {r : ByteArray × Bool × (List ByteArray) × (List S_impl_PlantMark)} {k : Nat} {a0 : ByteArray} {a1_0 : List ByteArray} {a1_1 : List S_impl_PlantMark} {x10 : Int} (H : impl_PlantJoined_1.l0 k a0 a1_0 a1_1 x10 = some r) (rn : List (Option Nat)) (h1 : Fits σ σ [] [(10, .int .i64 x10)] [] [] rn)
    (h2 : ∀ (k0 : Nat) (x10 : Int), k0 < k + 1 → impl_PlantJoined_1.l0 k0 a0 a1_0 a1_1 x10 = some r → headN σ hv [] [(10, .int .i64 x10)] [] [] (F (fun e σ' => match e with | .normal => ∃ (y : Nat × Int) (rn : List (Option Nat)), (impl_PlantJoined_1.l0 y.1 a0 a1_0 a1_1 y.2 = some r ∧ y.1 < k + 1) ∧ y.1 < k0 ∧ Fits σ σ' [] [(10, .int .i64 y.2)] [] [] rn | e => Q e σ'))) : Lp F hv Q σ := by
  unfold Lp
  refine ⟨Nat × Int, fun x => impl_PlantJoined_1.l0 x.1 a0 a1_0 a1_1 x.2 = some r ∧ x.1 < k + 1, fun x => x.1, [], fun x => [(10, .int .i64 x.2)], fun x => [], fun x => [], ⟨(k, x10), rn, ⟨H, Nat.lt_succ_self _⟩, h1⟩, ?_⟩
  rintro ⟨k, x10⟩ ⟨H, hk⟩
  exact h2 k x10 hk H
theorem impl_PlantJoined_1.ac {k : Nat} {a0 : ByteArray} {a1_0 : List ByteArray} {a1_1 : List S_impl_PlantMark} {r : ByteArray × Bool × (List ByteArray) × (List S_impl_PlantMark)} (H : impl_PlantJoined_1.f k a0 a1_0 a1_1 = some r) : ACalls Try.prog G 113 [.box [(sv_str a1_0), (sv_S_impl_PlantMark a1_1)]] [.str a0, .bp 0 0] [.box [(sv_str r.2.2.1), (sv_S_impl_PlantMark r.2.2.2)]] (.tup [.str r.1, .bool r.2.1]) := by
  refine acalls_of tok hP Try.func113 rfl (by kernel_rfl) [.tmp 3, .tmp 4] rfl (by kernel_rfl) (Nat.le_of_ble_eq_true rfl) (.l .n (.l (.l .n (.l .n (.l .n (.l (.c .n .n) .n)))) .n)) rfl ?_
  unfold impl_PlantJoined_1.f at H
  conv => whnf
  refine impl_PlantJoined_1.l0_lp (a0 := a0) (a1_0 := a1_0) (a1_1 := a1_1) (k := k) H [] (fits_of ⟨.inl ⟨rfl, rfl⟩, trivial⟩ trivial fi_ trivial rfl) ?_
  intro k x10 hk H; rcases k with _ | k; exact none_elim H; rw [impl_PlantJoined_1.l0] at H; conv => whnf
  refine br_d H (fun c H => ?_) (fun c H => ?_)
  conv => whnf
  refine nd_ H (fun c H => ?_)
  conv => whnf
  refine Nd.mk nf_ ?_
  conv => whnf
  refine El.mk (rdm_en_S_impl_PlantMark _ _ nf_ nf_) ?_
  conv => whnf
  refine cut_ 89 [(0, .str a0), (6, .bp 73 0), (8, (sv_S_impl_PlantMark a1_1)), (9, .int .i64 (a1_1.length : Int)), (10, .int .i64 x10)] [(0, .box [(sv_str a1_0), (sv_S_impl_PlantMark a1_1)]), (73, .box [.str ((rd_impl_PlantMark a1_1 x10).f0), .str ((rd_impl_PlantMark a1_1 x10).f1)])] rfl ⟨.inl rfl, ⟨.inl rfl, ⟨.inl rfl, ⟨.inl rfl, ⟨.inl rfl, trivial⟩⟩⟩⟩⟩ ⟨rfl, ⟨rfl, trivial⟩⟩ ?_
  conv => whnf
  refine br_d H (fun c H => ?_) (fun c H => ?_)
  conv => whnf
  injection H with H; subst H
  exact ret_gen [some 0] [] (⟨_, rfl, rtAL_cons (rtA_eq rfl) (rtAL_cons (rtA_eq rfl) (rtAL_nil))⟩) ⟨rfl, trivial⟩ rfl
  conv => whnf
  exact ⟨(k, wrap64 (x10 + 1)), [], ⟨H, lt_⟩, lt_, (fits_of ⟨.inl ⟨rfl, rfl⟩, trivial⟩ trivial fi_ trivial rfl)⟩
  conv => whnf
  injection H with H; subst H
  exact ret_gen [some 0] [] (⟨_, rfl, rtAL_cons (rtA_eq rfl) (rtAL_cons (rtA_eq rfl) (rtAL_nil))⟩) ⟨rfl, trivial⟩ rfl
theorem impl_PlantJoined.ac {k : Nat} {a0_0 : List ByteArray} {a0_1 : List S_impl_PlantMark} {a1 : ByteArray} {a2 : ByteArray} {r : Bool} (H : impl_PlantJoined.f k a0_0 a0_1 a1 a2 = some r) : ACalls Try.prog G 51 [] [.agg [(sv_str a0_0), (sv_S_impl_PlantMark a0_1)], .str a1, .str a2] [] (.bool r) := by
  refine acalls_of tok hP Try.func51 rfl (by kernel_rfl) [.tmp 6] rfl (by kernel_rfl) (Nat.le_of_ble_eq_true rfl) (.l .n (.l .n (.c .n (.l .n (.c .n .n))))) rfl ?_
  unfold impl_PlantJoined.f at H
  conv => whnf
  revert H; refine bind_elim (fun t11592 A H => ?_)
  refine call_mk2 [0] (impl_PlantJoined_1.ac A) ⟨rfl, trivial⟩ rfl rfl rfl rfl rfl rfl rfl rfl ?_
  conv => whnf
  refine cut_ 96 [(2, .str a2), (7, .cf 113 0), (8, .str t11592.1), (9, .bool t11592.2.1)] [(0, .box [(sv_str t11592.2.2.1), (sv_S_impl_PlantMark t11592.2.2.2)])] rfl ⟨.inl rfl, ⟨.inl rfl, ⟨.inl rfl, ⟨.inl rfl, trivial⟩⟩⟩⟩ ⟨rfl, trivial⟩ ?_
  conv => whnf
  revert H; refine bind_elim (fun t11594 A H => ?_)
  refine call_mk2 [0] (impl_PlantJoined_1.ac A) ⟨rfl, trivial⟩ rfl rfl rfl rfl rfl rfl rfl rfl ?_
  conv => whnf
  refine br_t H (fun c H => ?_) (fun c H => ?_)
  conv => whnf
  refine Br.t ft_ ?_
  conv => whnf
  refine br_t H (fun c H => ?_) (fun c H => ?_)
  conv => whnf
  refine Br.t ft_ ?_
  conv => whnf
  refine Br.t ft_ ?_
  conv => whnf
  refine Br.t ft_ ?_
  conv => whnf
  refine cut_ 240 [(6, .bool (decide (t11592.1.toList = t11594.1.toList)))] [] rfl ⟨.inl rfl, trivial⟩ trivial ?_
  conv => whnf
  injection H with H; subst H
  exact ret_fz [] (rtA_eq rfl)
  conv => whnf
  refine Br.f ff_ ?_
  conv => whnf
  refine Br.f ff_ ?_
  conv => whnf
  refine Br.f ff_ ?_
  conv => whnf
  refine cut_ 240 [(6, .bool false)] [] rfl ⟨.inl rfl, trivial⟩ trivial ?_
  conv => whnf
  injection H with H; subst H
  exact ret_fz [] (rtA_eq rfl)
  conv => whnf
  refine Br.f ff_ ?_
  conv => whnf
  refine Br.f rfl ?_
  conv => whnf
  refine Br.f rfl ?_
  conv => whnf
  refine Br.f rfl ?_
  conv => whnf
  refine Br.f rfl ?_
  conv => whnf
  refine cut_ 240 [(6, .bool false)] [] rfl ⟨.inl rfl, trivial⟩ trivial ?_
  conv => whnf
  injection H with H; subst H
  exact ret_fz [] (rtA_eq rfl)
theorem laws_FnPlantTop.l2_lp {F : (Exit → St → Prop) → St → Prop} {hv : List Tmp} {Q : Exit → St → Prop} {σ : St} {r : Bool} {k : Nat} {t11839 : (List ByteArray) × (List S_impl_PlantFoe) × (List S_impl_PlantPlace) × (List S_impl_PlantValve) × (List ByteArray) × (List Bool)} {x1136000 : List ByteArray} {x1136001 : List S_impl_PlantMark} {t11957 : List S_impl_PlantSet} {x9 : Int} {x10 : Int} {x11 : Int} (H : laws_FnPlantTop.l2 k x9 x10 x11 t11839 t11957 x1136000 x1136001 = some r) (rn : List (Option Nat)) (h1 : Fits σ σ [] [(11, .int .i64 x11)] [] [] rn)
    (h2 : ∀ (k0 : Nat) (x11 : Int), k0 < k + 1 → laws_FnPlantTop.l2 k0 x9 x10 x11 t11839 t11957 x1136000 x1136001 = some r → headN σ hv [] [(11, .int .i64 x11)] [] [] (F (fun e σ' => match e with | .normal => ∃ (y : Nat × Int) (rn : List (Option Nat)), (laws_FnPlantTop.l2 y.1 x9 x10 y.2 t11839 t11957 x1136000 x1136001 = some r ∧ y.1 < k + 1) ∧ y.1 < k0 ∧ Fits σ σ' [] [(11, .int .i64 y.2)] [] [] rn | e => Q e σ'))) : Lp F hv Q σ := by
  unfold Lp
  refine ⟨Nat × Int, fun x => laws_FnPlantTop.l2 x.1 x9 x10 x.2 t11839 t11957 x1136000 x1136001 = some r ∧ x.1 < k + 1, fun x => x.1, [], fun x => [(11, .int .i64 x.2)], fun x => [], fun x => [], ⟨(k, x11), rn, ⟨H, Nat.lt_succ_self _⟩, h1⟩, ?_⟩
  rintro ⟨k, x11⟩ ⟨H, hk⟩
  exact h2 k x11 hk H
theorem laws_FnPlantTop.l4_lp {F : (Exit → St → Prop) → St → Prop} {hv : List Tmp} {Q : Exit → St → Prop} {σ : St} {r : Bool} {k : Nat} {t11839 : (List ByteArray) × (List S_impl_PlantFoe) × (List S_impl_PlantPlace) × (List S_impl_PlantValve) × (List ByteArray) × (List Bool)} {x1136000 : List ByteArray} {x1136001 : List S_impl_PlantMark} {x9 : Int} {x12 : Int} {x13 : Int} (H : laws_FnPlantTop.l4 k x9 x12 x13 t11839 x1136000 x1136001 = some r) (rn : List (Option Nat)) (h1 : Fits σ σ [] [(13, .int .i64 x13)] [] [] rn)
    (h2 : ∀ (k0 : Nat) (x13 : Int), k0 < k + 1 → laws_FnPlantTop.l4 k0 x9 x12 x13 t11839 x1136000 x1136001 = some r → headN σ hv [] [(13, .int .i64 x13)] [] [] (F (fun e σ' => match e with | .normal => ∃ (y : Nat × Int) (rn : List (Option Nat)), (laws_FnPlantTop.l4 y.1 x9 x12 y.2 t11839 x1136000 x1136001 = some r ∧ y.1 < k + 1) ∧ y.1 < k0 ∧ Fits σ σ' [] [(13, .int .i64 y.2)] [] [] rn | e => Q e σ'))) : Lp F hv Q σ := by
  unfold Lp
  refine ⟨Nat × Int, fun x => laws_FnPlantTop.l4 x.1 x9 x12 x.2 t11839 x1136000 x1136001 = some r ∧ x.1 < k + 1, fun x => x.1, [], fun x => [(13, .int .i64 x.2)], fun x => [], fun x => [], ⟨(k, x13), rn, ⟨H, Nat.lt_succ_self _⟩, h1⟩, ?_⟩
  rintro ⟨k, x13⟩ ⟨H, hk⟩
  exact h2 k x13 hk H
theorem laws_FnPlantTop.l3_lp {F : (Exit → St → Prop) → St → Prop} {hv : List Tmp} {Q : Exit → St → Prop} {σ : St} {r : Bool} {k : Nat} {t11839 : (List ByteArray) × (List S_impl_PlantFoe) × (List S_impl_PlantPlace) × (List S_impl_PlantValve) × (List ByteArray) × (List Bool)} {x1136000 : List ByteArray} {x1136001 : List S_impl_PlantMark} {x9 : Int} {x12 : Int} (H : laws_FnPlantTop.l3 k x9 x12 t11839 x1136000 x1136001 = some r) (rn : List (Option Nat)) (h1 : Fits σ σ [346] [(12, .int .i64 x12)] [] [] rn)
    (h2 : ∀ (k0 : Nat) (x12 : Int), k0 < k + 1 → laws_FnPlantTop.l3 k0 x9 x12 t11839 x1136000 x1136001 = some r → headN σ hv [346] [(12, .int .i64 x12)] [] [] (F (fun e σ' => match e with | .normal => ∃ (y : Nat × Int) (rn : List (Option Nat)), (laws_FnPlantTop.l3 y.1 x9 y.2 t11839 x1136000 x1136001 = some r ∧ y.1 < k + 1) ∧ y.1 < k0 ∧ Fits σ σ' [346] [(12, .int .i64 y.2)] [] [] rn | e => Q e σ'))) : Lp F hv Q σ := by
  unfold Lp
  refine ⟨Nat × Int, fun x => laws_FnPlantTop.l3 x.1 x9 x.2 t11839 x1136000 x1136001 = some r ∧ x.1 < k + 1, fun x => x.1, [346], fun x => [(12, .int .i64 x.2)], fun x => [], fun x => [], ⟨(k, x12), rn, ⟨H, Nat.lt_succ_self _⟩, h1⟩, ?_⟩
  rintro ⟨k, x12⟩ ⟨H, hk⟩
  exact h2 k x12 hk H
theorem laws_FnPlantTop.l1_lp {F : (Exit → St → Prop) → St → Prop} {hv : List Tmp} {Q : Exit → St → Prop} {σ : St} {r : Bool} {k : Nat} {t11839 : (List ByteArray) × (List S_impl_PlantFoe) × (List S_impl_PlantPlace) × (List S_impl_PlantValve) × (List ByteArray) × (List Bool)} {x1136000 : List ByteArray} {x1136001 : List S_impl_PlantMark} {t11957 : List S_impl_PlantSet} {x9 : Int} {x10 : Int} (H : laws_FnPlantTop.l1 k x9 x10 t11839 t11957 x1136000 x1136001 = some r) (rn : List (Option Nat)) (h1 : Fits σ σ [] [(9, .int .i64 x9), (10, .int .i64 x10)] [] [] rn)
    (h2 : ∀ (k0 : Nat) (x9 : Int) (x10 : Int), k0 < k + 1 → laws_FnPlantTop.l1 k0 x9 x10 t11839 t11957 x1136000 x1136001 = some r → headN σ hv [] [(9, .int .i64 x9), (10, .int .i64 x10)] [] [] (F (fun e σ' => match e with | .normal => ∃ (y : Nat × Int × Int) (rn : List (Option Nat)), (laws_FnPlantTop.l1 y.1 y.2.1 y.2.2 t11839 t11957 x1136000 x1136001 = some r ∧ y.1 < k + 1) ∧ y.1 < k0 ∧ Fits σ σ' [] [(9, .int .i64 y.2.1), (10, .int .i64 y.2.2)] [] [] rn | e => Q e σ'))) : Lp F hv Q σ := by
  unfold Lp
  refine ⟨Nat × Int × Int, fun x => laws_FnPlantTop.l1 x.1 x.2.1 x.2.2 t11839 t11957 x1136000 x1136001 = some r ∧ x.1 < k + 1, fun x => x.1, [], fun x => [(9, .int .i64 x.2.1), (10, .int .i64 x.2.2)], fun x => [], fun x => [], ⟨(k, x9, x10), rn, ⟨H, Nat.lt_succ_self _⟩, h1⟩, ?_⟩
  rintro ⟨k, x9, x10⟩ ⟨H, hk⟩
  exact h2 k x9 x10 hk H
theorem laws_FnPlantTop.l0_lp {F : (Exit → St → Prop) → St → Prop} {hv : List Tmp} {Q : Exit → St → Prop} {σ : St} {r : Bool} {k : Nat} {l0 : List Int} {t11839 : (List ByteArray) × (List S_impl_PlantFoe) × (List S_impl_PlantPlace) × (List S_impl_PlantValve) × (List ByteArray) × (List Bool)} {x7 : Int} {x1136000 : List ByteArray} {x1136001 : List S_impl_PlantMark} (H : laws_FnPlantTop.l0 k l0 x7 t11839 x1136000 x1136001 = some r) (rn : List (Option Nat)) (h1 : Fits σ σ [128, 129, 136] [(7, .int .i64 x7)] [(136, .box [.own 0 x1136000.length, .own 1 x1136001.length])] [.arr 9 1 (x1136000.map en_str), .arr 133 2 (x1136001.map en_S_impl_PlantMark)] rn)
    (h2 : ∀ (k0 : Nat) (x7 : Int) (x1136000 : List ByteArray) (x1136001 : List S_impl_PlantMark), k0 < k + 1 → laws_FnPlantTop.l0 k0 l0 x7 t11839 x1136000 x1136001 = some r → headN σ hv [128, 129, 136] [(7, .int .i64 x7)] [(136, .box [.own 0 x1136000.length, .own 1 x1136001.length])] [.arr 9 1 (x1136000.map en_str), .arr 133 2 (x1136001.map en_S_impl_PlantMark)] (F (fun e σ' => match e with | .normal => ∃ (y : Nat × Int × (List ByteArray) × (List S_impl_PlantMark)) (rn : List (Option Nat)), (laws_FnPlantTop.l0 y.1 l0 y.2.1 t11839 y.2.2.1 y.2.2.2 = some r ∧ y.1 < k + 1) ∧ y.1 < k0 ∧ Fits σ σ' [128, 129, 136] [(7, .int .i64 y.2.1)] [(136, .box [.own 0 y.2.2.1.length, .own 1 y.2.2.2.length])] [.arr 9 1 (y.2.2.1.map en_str), .arr 133 2 (y.2.2.2.map en_S_impl_PlantMark)] rn | e => Q e σ'))) : Lp F hv Q σ := by
  unfold Lp
  refine ⟨Nat × Int × (List ByteArray) × (List S_impl_PlantMark), fun x => laws_FnPlantTop.l0 x.1 l0 x.2.1 t11839 x.2.2.1 x.2.2.2 = some r ∧ x.1 < k + 1, fun x => x.1, [128, 129, 136], fun x => [(7, .int .i64 x.2.1)], fun x => [(136, .box [.own 0 x.2.2.1.length, .own 1 x.2.2.2.length])], fun x => [.arr 9 1 (x.2.2.1.map en_str), .arr 133 2 (x.2.2.2.map en_S_impl_PlantMark)], ⟨(k, x7, x1136000, x1136001), rn, ⟨H, Nat.lt_succ_self _⟩, h1⟩, ?_⟩
  rintro ⟨k, x7, x1136000, x1136001⟩ ⟨H, hk⟩
  exact h2 k x7 x1136000 x1136001 hk H
theorem laws_FnPlantTop.ac {k : Nat} {l0 : List Int} {r : Bool} (H : laws_FnPlantTop.f k l0 = some r) : ACalls Try.prog G 13 [] [(sv_u8 l0)] [] (.bool r) := by
  refine acalls_of tok hP Try.func13 rfl (by kernel_rfl) [.tmp 2] rfl (by kernel_rfl) (Nat.le_of_ble_eq_true rfl) (.l .n (.l .n (.c .n (.l .n (.l (.c .n (.l (.c .n .n) .n)) (.l (.c .n (.l .n (.l (.c .n (.c .n (.l (.c .n .n) .n))) .n))) (.f 0 (.l .n (.l (.c .n .n) .n)) (.l .n (.l .n (.l (.l .n (.l (.c .n .n) (.l (.l .n (.c .n (.l .n (.l (.c .n .n) .n)))) .n))) (.l (.l .n (.l .n (.l (.l .n (.l (.c .n .n) (.l (.l .n (.c .n (.c .n (.c .n (.l (.c .n .n) .n))))) .n))) .n))) (.c .n .n)))))))))))) rfl ?_
  unfold laws_FnPlantTop.f at H
  conv => whnf
  refine br_d H (fun c H => ?_) (fun c H => ?_)
  conv => whnf
  injection H with H; subst H
  exact ret_fz [] (rtA_eq rfl)
  conv => whnf
  revert H; refine bind_elim (fun t11839 A H => ?_)
  refine call_mk (spec_DrawPlantTurns.ac A) (avAL_cons (avA_shut' rfl) (avAL_nil)) (Or.inl rfl) rfl rfl (Nat.le_of_ble_eq_true rfl) ?_
  conv => whnf
  refine cut_ 112 [(3, .bp 80 0), (4, (sv_str t11839.2.2.2.2.1)), (5, (sv_bool t11839.2.2.2.2.2))] [(80, .box [(sv_str t11839.1), (sv_S_impl_PlantFoe t11839.2.1), (sv_S_impl_PlantPlace t11839.2.2.1), (sv_S_impl_PlantValve t11839.2.2.2.1)])] rfl ⟨.inl rfl, ⟨.inl rfl, ⟨.inl rfl, trivial⟩⟩⟩ ⟨rfl, trivial⟩ ?_
  conv => whnf
  refine Or.inl ?_
  conv => whnf
  revert H; refine bind_elim (fun t11841 A H => ?_)
  refine call_mk (impl_PlantIndexOf.acO A) (avAL_cons (avA_agg (avL_cons (av_shut' rfl) (avL_cons (av_shut' rfl) (avL_cons (av_shut' rfl) (avL_cons (av_shut' rfl) (avL_nil)))))) (avAL_cons (avA_ownX rfl rfl lm_ lm_) (avAL_nil))) (Or.inr ⟨rfl, bo_cons (bo_arr bare_en_str) (bo_cons (bo_arr bare_en_S_impl_PlantMark) (bo_nil))⟩) rfl rfl (Nat.le_of_ble_eq_true rfl) ?_
  conv => whnf
  refine Or.inr ?_
  conv => whnf
  revert H; refine bind_elim (fun t11940 A H => ?_)
  refine call_mk (spec_PlantIndexOf.ac A) (avAL_cons (avA_agg (avL_cons (av_shut' rfl) (avL_cons (av_shut' rfl) (avL_cons (av_shut' rfl) (avL_cons (av_shut' rfl) (avL_nil)))))) (avAL_cons (avA_slD lm_ lm_) (avAL_nil))) (Or.inl rfl) rfl rfl (Nat.le_of_ble_eq_true rfl) ?_
  conv => whnf
  revert H; refine bind_elim (fun t11941 A H => ?_)
  refine call_mk (laws_wpIndex.ac A) (avAL_cons (avA_agg (avL_cons (av_own rfl rfl) (avL_cons (av_own rfl rfl) (avL_nil)))) (avAL_cons (avA_agg (avL_cons (av_shut' rfl) (avL_cons (av_shut' rfl) (avL_nil)))) (avAL_nil))) (Or.inr ⟨rfl, bo_nil⟩) rfl rfl (Nat.le_of_ble_eq_true rfl) ?_
  conv => whnf
  refine br_nt H (fun c H => ?_) (fun c H => ?_)
  conv => whnf
  refine Br.f ff_ ?_
  conv => whnf
  revert H; refine bind_elim (fun t11942 A H => ?_)
  refine call_mk (impl_PlantValid.ac A) (avAL_cons (avA_agg (avL_cons (av_shut' rfl) (avL_cons (av_shut' rfl) (avL_cons (av_shut' rfl) (avL_cons (av_shut' rfl) (avL_nil)))))) (avAL_nil)) (Or.inl rfl) rfl rfl (Nat.le_of_ble_eq_true rfl) ?_
  conv => whnf
  refine Br.f ff_ ?_
  conv => whnf
  refine Br.f ff_ ?_
  conv => whnf
  revert H; refine bind_elim (fun t11943 A H => ?_)
  refine call_mk (spec_PlantValid.ac A) (avAL_cons (avA_agg (avL_cons (av_shut' rfl) (avL_cons (av_shut' rfl) (avL_cons (av_shut' rfl) (avL_cons (av_shut' rfl) (avL_nil)))))) (avAL_nil)) (Or.inl rfl) rfl rfl (Nat.le_of_ble_eq_true rfl) ?_
  conv => whnf
  refine Br.f ff_ ?_
  conv => whnf
  refine Br.f ff_ ?_
  conv => whnf
  refine cut_ 256 [(3, .bp 80 0), (4, (sv_str t11839.2.2.2.2.1)), (5, (sv_bool t11839.2.2.2.2.2)), (6, .bp 136 0), (41, .bool (t11942 != t11943))] [(80, .box [(sv_str t11839.1), (sv_S_impl_PlantFoe t11839.2.1), (sv_S_impl_PlantPlace t11839.2.2.1), (sv_S_impl_PlantValve t11839.2.2.2.1)]), (128, .arr 9 1 (t11841.1.map en_str)), (129, .arr 133 2 (t11841.2.map en_S_impl_PlantMark)), (136, .box [.own 128 t11841.1.length, .own 129 t11841.2.length])] rfl ⟨.inl rfl, ⟨.inl rfl, ⟨.inl rfl, ⟨.inl rfl, ⟨.inl rfl, trivial⟩⟩⟩⟩⟩ ⟨rfl, ⟨rfl, ⟨rfl, ⟨rfl, trivial⟩⟩⟩⟩ ?_
  conv => whnf
  refine br_t H (fun c H => ?_) (fun c H => ?_)
  conv => whnf
  refine cut_ 264 [(2, .bool false)] [] rfl ⟨.inl rfl, trivial⟩ trivial ?_
  conv => whnf
  injection H with H; subst H
  exact ret_fz [] (rtA_eq rfl)
  conv => whnf
  refine cut_ 264 [(3, .bp 80 0), (4, (sv_str t11839.2.2.2.2.1)), (5, (sv_bool t11839.2.2.2.2.2)), (6, .bp 136 0), (7, .int .i64 0)] [(80, .box [(sv_str t11839.1), (sv_S_impl_PlantFoe t11839.2.1), (sv_S_impl_PlantPlace t11839.2.2.1), (sv_S_impl_PlantValve t11839.2.2.2.1)]), (128, .arr 9 1 (t11841.1.map en_str)), (129, .arr 133 2 (t11841.2.map en_S_impl_PlantMark)), (136, .box [.own 128 t11841.1.length, .own 129 t11841.2.length])] rfl ⟨.inl rfl, ⟨.inl rfl, ⟨.inl rfl, ⟨.inl rfl, ⟨.inl rfl, trivial⟩⟩⟩⟩⟩ ⟨rfl, ⟨rfl, ⟨rfl, ⟨rfl, trivial⟩⟩⟩⟩ ?_
  conv => whnf
  refine laws_FnPlantTop.l0_lp (l0 := l0) (t11839 := t11839) (k := k) H [some 128, some 129] (fits_of ⟨.inl ⟨rfl, rfl⟩, trivial⟩ ⟨rfl, ⟨rfl, trivial⟩⟩ fi_ ⟨⟨_, rfl⟩, ⟨_, rfl, ⟨rfl, ⟨rfl, trivial⟩⟩⟩, trivial⟩ rfl) ?_
  intro k x7 x1136000 x1136001 hk H; rcases k with _ | k; exact none_elim H; rw [laws_FnPlantTop.l0] at H; conv => whnf
  refine br_d H (fun c H => ?_) (fun c H => ?_)
  conv => whnf
  refine nd_ H (fun c H => ?_)
  conv => whnf
  refine Nd.mk nf_ ?_
  conv => whnf
  refine El.mk (rdm_en_str _ _ nf_ nf_) ?_
  conv => whnf
  refine Nd.mk nf_ ?_
  conv => whnf
  refine nd_ H (fun c H => ?_)
  conv => whnf
  refine El.mk (rdm_en_bool _ _ nf_ nf_) ?_
  conv => whnf
  revert H; refine bind_elim (fun t11950 A H => ?_)
  refine call_mk (impl_PlantTurn.acO A) (avAL_cons (avA_agg (avL_cons (av_shut' rfl) (avL_cons (av_shut' rfl) (avL_cons (av_shut' rfl) (avL_cons (av_shut' rfl) (avL_nil)))))) (avAL_cons (avA_agg (avL_cons (av_own rfl rfl) (avL_cons (av_own rfl rfl) (avL_nil)))) (avAL_cons (avA_shut' rfl) (avAL_cons (avA_shut' rfl) (avAL_nil))))) (Or.inr ⟨rfl, bo_cons (bo_arr bare_en_str) (bo_cons (bo_arr bare_en_S_impl_PlantMark) (bo_nil))⟩) rfl rfl (Nat.le_of_ble_eq_true rfl) ?_
  conv => whnf
  refine cut_ 394 [(3, .bp 80 0), (4, (sv_str t11839.2.2.2.2.1)), (5, (sv_bool t11839.2.2.2.2.2)), (6, .bp 136 0), (7, .int .i64 x7)] [(80, .box [(sv_str t11839.1), (sv_S_impl_PlantFoe t11839.2.1), (sv_S_impl_PlantPlace t11839.2.2.1), (sv_S_impl_PlantValve t11839.2.2.2.1)]), (136, .box [.own 378 t11950.1.length, .own 379 t11950.2.length]), (378, .arr 9 1 (t11950.1.map en_str)), (379, .arr 133 2 (t11950.2.map en_S_impl_PlantMark))] rfl ⟨.inl rfl, ⟨.inl rfl, ⟨.inl rfl, ⟨.inl rfl, ⟨.inl rfl, trivial⟩⟩⟩⟩⟩ ⟨rfl, ⟨rfl, ⟨rfl, ⟨rfl, trivial⟩⟩⟩⟩ ?_
  conv => whnf
  revert H; refine bind_elim (fun t11951 A H => ?_)
  refine call_mk (impl_PlantIndexOf.acO A) (avAL_cons (avA_agg (avL_cons (av_shut' rfl) (avL_cons (av_shut' rfl) (avL_cons (av_shut' rfl) (avL_cons (av_shut' rfl) (avL_nil)))))) (avAL_cons (avA_own rfl rfl) (avAL_nil))) (Or.inr ⟨rfl, bo_cons (bo_arr bare_en_str) (bo_cons (bo_arr bare_en_S_impl_PlantMark) (bo_nil))⟩) rfl rfl (Nat.le_of_ble_eq_true rfl) ?_
  conv => whnf
  revert H; refine bind_elim (fun t11952 A H => ?_)
  refine call_mk (laws_wpIndex.ac A) (avAL_cons (avA_agg (avL_cons (av_own rfl rfl) (avL_cons (av_own rfl rfl) (avL_nil)))) (avAL_cons (avA_agg (avL_cons (av_own rfl rfl) (avL_cons (av_own rfl rfl) (avL_nil)))) (avAL_nil))) (Or.inr ⟨rfl, bo_nil⟩) rfl rfl (Nat.le_of_ble_eq_true rfl) ?_
  conv => whnf
  refine br_nt H (fun c H => ?_) (fun c H => ?_)
  conv => whnf
  refine Br.f ff_ ?_
  conv => whnf
  revert H; refine bind_elim (fun t11953 A H => ?_)
  refine call_mk (spec_PlantValid.ac A) (avAL_cons (avA_agg (avL_cons (av_shut' rfl) (avL_cons (av_shut' rfl) (avL_cons (av_shut' rfl) (avL_cons (av_shut' rfl) (avL_nil)))))) (avAL_nil)) (Or.inl rfl) rfl rfl (Nat.le_of_ble_eq_true rfl) ?_
  conv => whnf
  refine Br.f ff_ ?_
  conv => whnf
  refine br_t H (fun c H => ?_) (fun c H => ?_)
  conv => whnf
  refine Br.t ft_ ?_
  conv => whnf
  refine Br.t ft_ ?_
  conv => whnf
  refine Br.t ft_ ?_
  conv => whnf
  refine Br.t ft_ ?_
  conv => whnf
  refine Nd.mk nf_ ?_
  conv => whnf
  refine Nd.mk nf_ ?_
  conv => whnf
  refine El.mk (rdm_en_str _ _ nf_ nf_) ?_
  conv => whnf
  refine Br.t ft_ ?_
  conv => whnf
  refine Br.t ft_ ?_
  conv => whnf
  revert H; refine bind_elim (fun t11954 A H => ?_)
  refine call_mk (laws_wpHas.ac A) (avAL_cons (avA_own rfl rfl) (avAL_cons (avA_shut' rfl) (avAL_nil))) (Or.inr ⟨rfl, bo_nil⟩) rfl rfl (Nat.le_of_ble_eq_true rfl) ?_
  conv => whnf
  refine Br.t ft_ ?_
  conv => whnf
  refine Br.t ft_ ?_
  conv => whnf
  refine Br.t ft_ ?_
  conv => whnf
  refine Nd.mk nf_ ?_
  conv => whnf
  refine Nd.mk nf_ ?_
  conv => whnf
  refine El.mk (rdm_en_bool _ _ nf_ nf_) ?_
  conv => whnf
  refine Br.t ft_ ?_
  conv => whnf
  refine Br.t ft_ ?_
  conv => whnf
  refine br_t H (fun c H => ?_) (fun c H => ?_)
  conv => whnf
  refine Br.t ft_ ?_
  conv => whnf
  refine Br.t ft_ ?_
  conv => whnf
  refine Br.t ft_ ?_
  conv => whnf
  refine Nd.mk nf_ ?_
  conv => whnf
  refine Nd.mk nf_ ?_
  conv => whnf
  refine El.mk (rdm_en_str _ _ nf_ nf_) ?_
  conv => whnf
  refine Br.t ft_ ?_
  conv => whnf
  refine Br.t ft_ ?_
  conv => whnf
  revert H; refine bind_elim (fun t11955 A H => ?_)
  refine call_mk (laws_wpValve.ac A) (avAL_cons (avA_agg (avL_cons (av_shut' rfl) (avL_cons (av_shut' rfl) (avL_cons (av_shut' rfl) (avL_cons (av_shut' rfl) (avL_nil)))))) (avAL_cons (avA_shut' rfl) (avAL_nil))) (Or.inl rfl) rfl rfl (Nat.le_of_ble_eq_true rfl) ?_
  conv => whnf
  refine Br.t ft_ ?_
  conv => whnf
  refine Br.t ft_ ?_
  conv => whnf
  refine Br.t ft_ ?_
  conv => whnf
  refine Br.f ff_ ?_
  conv => whnf
  refine Br.t ft_ ?_
  conv => whnf
  refine Br.f ff_ ?_
  conv => whnf
  refine cut_ 658 [(3, .bp 80 0), (4, (sv_str t11839.2.2.2.2.1)), (5, (sv_bool t11839.2.2.2.2.2)), (6, .bp 136 0), (7, .int .i64 x7), (91, .bool (t11954 != t11955))] [(80, .box [(sv_str t11839.1), (sv_S_impl_PlantFoe t11839.2.1), (sv_S_impl_PlantPlace t11839.2.2.1), (sv_S_impl_PlantValve t11839.2.2.2.1)]), (136, .box [.own 378 t11950.1.length, .own 379 t11950.2.length]), (378, .arr 9 1 (t11950.1.map en_str)), (379, .arr 133 2 (t11950.2.map en_S_impl_PlantMark))] rfl ⟨.inl rfl, ⟨.inl rfl, ⟨.inl rfl, ⟨.inl rfl, ⟨.inl rfl, ⟨.inl rfl, trivial⟩⟩⟩⟩⟩⟩ ⟨rfl, ⟨rfl, ⟨rfl, ⟨rfl, trivial⟩⟩⟩⟩ ?_
  conv => whnf
  refine br_t H (fun c H => ?_) (fun c H => ?_)
  conv => whnf
  refine cut_ 666 [(2, .bool false)] [] rfl ⟨.inl rfl, trivial⟩ trivial ?_
  conv => whnf
  injection H with H; subst H
  exact ret_fz [] (rtA_eq rfl)
  conv => whnf
  exact ⟨(k, wrap64 (x7 + 1), t11950.1, t11950.2), [some 378, some 379], ⟨H, lt_⟩, lt_, (fits_of ⟨.inl ⟨rfl, rfl⟩, trivial⟩ ⟨rfl, ⟨rfl, trivial⟩⟩ fi_ ⟨⟨_, rfl⟩, ⟨_, rfl, ⟨rfl, ⟨rfl, trivial⟩⟩⟩, trivial⟩ rfl)⟩
  conv => whnf
  refine Br.f ff_ ?_
  conv => whnf
  refine Br.f ff_ ?_
  conv => whnf
  refine Br.f ff_ ?_
  conv => whnf
  refine Br.f ff_ ?_
  conv => whnf
  refine Br.f ff_ ?_
  conv => whnf
  refine Br.t ft_ ?_
  conv => whnf
  refine Br.f ff_ ?_
  conv => whnf
  refine Br.t ft_ ?_
  conv => whnf
  refine Br.f ff_ ?_
  conv => whnf
  refine Br.t ft_ ?_
  conv => whnf
  refine Br.f ff_ ?_
  conv => whnf
  refine cut_ 658 [(3, .bp 80 0), (4, (sv_str t11839.2.2.2.2.1)), (5, (sv_bool t11839.2.2.2.2.2)), (6, .bp 136 0), (7, .int .i64 x7), (91, .bool (t11954 != false))] [(80, .box [(sv_str t11839.1), (sv_S_impl_PlantFoe t11839.2.1), (sv_S_impl_PlantPlace t11839.2.2.1), (sv_S_impl_PlantValve t11839.2.2.2.1)]), (136, .box [.own 378 t11950.1.length, .own 379 t11950.2.length]), (378, .arr 9 1 (t11950.1.map en_str)), (379, .arr 133 2 (t11950.2.map en_S_impl_PlantMark))] rfl ⟨.inl rfl, ⟨.inl rfl, ⟨.inl rfl, ⟨.inl rfl, ⟨.inl rfl, ⟨.inl rfl, trivial⟩⟩⟩⟩⟩⟩ ⟨rfl, ⟨rfl, ⟨rfl, ⟨rfl, trivial⟩⟩⟩⟩ ?_
  conv => whnf
  refine br_t H (fun c H => ?_) (fun c H => ?_)
  conv => whnf
  refine cut_ 666 [(2, .bool false)] [] rfl ⟨.inl rfl, trivial⟩ trivial ?_
  conv => whnf
  injection H with H; subst H
  exact ret_fz [] (rtA_eq rfl)
  conv => whnf
  exact ⟨(k, wrap64 (x7 + 1), t11950.1, t11950.2), [some 378, some 379], ⟨H, lt_⟩, lt_, (fits_of ⟨.inl ⟨rfl, rfl⟩, trivial⟩ ⟨rfl, ⟨rfl, trivial⟩⟩ fi_ ⟨⟨_, rfl⟩, ⟨_, rfl, ⟨rfl, ⟨rfl, trivial⟩⟩⟩, trivial⟩ rfl)⟩
  conv => whnf
  refine Br.f ff_ ?_
  conv => whnf
  refine Br.f ff_ ?_
  conv => whnf
  refine Br.f ff_ ?_
  conv => whnf
  refine Br.f ff_ ?_
  conv => whnf
  refine Br.f ff_ ?_
  conv => whnf
  refine Br.f ff_ ?_
  conv => whnf
  refine Br.f ff_ ?_
  conv => whnf
  refine Br.f ff_ ?_
  conv => whnf
  refine Br.f ff_ ?_
  conv => whnf
  refine Br.f ff_ ?_
  conv => whnf
  refine Br.f ff_ ?_
  conv => whnf
  refine Br.f ff_ ?_
  conv => whnf
  refine Br.f ff_ ?_
  conv => whnf
  refine Br.f ff_ ?_
  conv => whnf
  refine Br.f ff_ ?_
  conv => whnf
  refine Br.f ff_ ?_
  conv => whnf
  refine cut_ 658 [(3, .bp 80 0), (4, (sv_str t11839.2.2.2.2.1)), (5, (sv_bool t11839.2.2.2.2.2)), (6, .bp 136 0), (7, .int .i64 x7), (91, .bool false)] [(80, .box [(sv_str t11839.1), (sv_S_impl_PlantFoe t11839.2.1), (sv_S_impl_PlantPlace t11839.2.2.1), (sv_S_impl_PlantValve t11839.2.2.2.1)]), (136, .box [.own 378 t11950.1.length, .own 379 t11950.2.length]), (378, .arr 9 1 (t11950.1.map en_str)), (379, .arr 133 2 (t11950.2.map en_S_impl_PlantMark))] rfl ⟨.inl rfl, ⟨.inl rfl, ⟨.inl rfl, ⟨.inl rfl, ⟨.inl rfl, ⟨.inl rfl, trivial⟩⟩⟩⟩⟩⟩ ⟨rfl, ⟨rfl, ⟨rfl, ⟨rfl, trivial⟩⟩⟩⟩ ?_
  conv => whnf
  refine Br.f rfl ?_
  conv => whnf
  exact ⟨(k, wrap64 (x7 + 1), t11950.1, t11950.2), [some 378, some 379], ⟨H, lt_⟩, lt_, (fits_of ⟨.inl ⟨rfl, rfl⟩, trivial⟩ ⟨rfl, ⟨rfl, trivial⟩⟩ fi_ ⟨⟨_, rfl⟩, ⟨_, rfl, ⟨rfl, ⟨rfl, trivial⟩⟩⟩, trivial⟩ rfl)⟩
  conv => whnf
  refine Br.t ft_ ?_
  conv => whnf
  refine Br.t ft_ ?_
  conv => whnf
  refine Br.t ft_ ?_
  conv => whnf
  refine Br.t ft_ ?_
  conv => whnf
  refine cut_ 658 [(3, .bp 80 0), (4, (sv_str t11839.2.2.2.2.1)), (5, (sv_bool t11839.2.2.2.2.2)), (6, .bp 136 0), (7, .int .i64 x7), (91, .bool true)] [(80, .box [(sv_str t11839.1), (sv_S_impl_PlantFoe t11839.2.1), (sv_S_impl_PlantPlace t11839.2.2.1), (sv_S_impl_PlantValve t11839.2.2.2.1)]), (136, .box [.own 378 t11950.1.length, .own 379 t11950.2.length]), (378, .arr 9 1 (t11950.1.map en_str)), (379, .arr 133 2 (t11950.2.map en_S_impl_PlantMark))] rfl ⟨.inl rfl, ⟨.inl rfl, ⟨.inl rfl, ⟨.inl rfl, ⟨.inl rfl, ⟨.inl rfl, trivial⟩⟩⟩⟩⟩⟩ ⟨rfl, ⟨rfl, ⟨rfl, ⟨rfl, trivial⟩⟩⟩⟩ ?_
  conv => whnf
  refine Br.t rfl ?_
  conv => whnf
  refine cut_ 666 [(2, .bool false)] [] rfl ⟨.inl rfl, trivial⟩ trivial ?_
  conv => whnf
  injection H with H; subst H
  exact ret_fz [] (rtA_eq rfl)
  conv => whnf
  revert H; refine bind_elim (fun t11956 A H => ?_)
  refine call_mk (spec_PlantValid.ac A) (avAL_cons (avA_agg (avL_cons (av_shut' rfl) (avL_cons (av_shut' rfl) (avL_cons (av_shut' rfl) (avL_cons (av_shut' rfl) (avL_nil)))))) (avAL_nil)) (Or.inl rfl) rfl rfl (Nat.le_of_ble_eq_true rfl) ?_
  conv => whnf
  refine br_nt H (fun c H => ?_) (fun c H => ?_)
  conv => whnf
  refine cutF_ 322 [264] [(3, .bp 80 0), (6, .bp 136 0)] [(80, .box [(sv_str t11839.1), (sv_S_impl_PlantFoe t11839.2.1), (sv_S_impl_PlantPlace t11839.2.2.1), (sv_S_impl_PlantValve t11839.2.2.2.1)]), (136, .box [(sv_str x1136000), .own 265 x1136001.length]), (265, .arr 133 2 (x1136001.map en_S_impl_PlantMark))] rfl rfl ⟨.inl (.inl rfl), ⟨.inl (.inl rfl), trivial⟩⟩ ⟨.inl (rfl), ⟨.inr ⟨_, rfl, ⟨fz_own rfl rfl (.inr lm_) lm_, ⟨.inl rfl, trivial⟩⟩⟩, ⟨.inl (rfl), trivial⟩⟩⟩ ?_
  conv => whnf
  revert H; refine bind_elim (fun t11957 A H => ?_)
  refine call_mk (impl_PlantGroups.acO A) (avAL_cons (avA_agg (avL_cons (av_shut' rfl) (avL_cons (av_shut' rfl) (avL_cons (av_shut' rfl) (avL_cons (av_shut' rfl) (avL_nil)))))) (avAL_cons (avA_shut' rfl) (avAL_nil))) (Or.inl rfl) rfl rfl (Nat.le_of_ble_eq_true rfl) ?_
  conv => whnf
  refine laws_FnPlantTop.l1_lp (t11839 := t11839) (x1136000 := x1136000) (x1136001 := x1136001) (t11957 := t11957) (k := k) H [] (fits_of ⟨.inl ⟨rfl, rfl⟩, ⟨.inl ⟨rfl, rfl⟩, trivial⟩⟩ trivial fi_ trivial rfl) ?_
  intro k x9 x10 hk H; rcases k with _ | k; exact none_elim H; rw [laws_FnPlantTop.l1] at H; conv => whnf
  refine cut_ 410 [(3, .bp 80 0), (6, .bp 136 0), (8, .own 346 t11957.length), (9, .int .i64 x9), (10, .int .i64 x10), (106, .bool (decide (x10 < (t11957.length : Int))))] [(80, .box [(sv_str t11839.1), (sv_S_impl_PlantFoe t11839.2.1), (sv_S_impl_PlantPlace t11839.2.2.1), (sv_S_impl_PlantValve t11839.2.2.2.1)]), (136, .box [(sv_str x1136000), .own 265 x1136001.length]), (265, .arr 133 2 (x1136001.map en_S_impl_PlantMark)), (346, .arr 107 1 (t11957.map en_S_impl_PlantSet))] rfl ⟨.inl rfl, ⟨.inl rfl, ⟨.inl rfl, ⟨.inl rfl, ⟨.inl rfl, ⟨.inl rfl, trivial⟩⟩⟩⟩⟩⟩ ⟨rfl, ⟨rfl, ⟨rfl, ⟨rfl, trivial⟩⟩⟩⟩ ?_
  conv => whnf
  refine br_d H (fun c H => ?_) (fun c H => ?_)
  conv => whnf
  refine nd_ H (fun c H => ?_)
  conv => whnf
  refine Nd.mk nf_ ?_
  conv => whnf
  refine El.mk (rdm_en_S_impl_PlantSet _ _ nf_ nf_) ?_
  conv => whnf
  refine cut_ 490 [(3, .bp 80 0), (6, .bp 136 0), (8, .own 346 t11957.length), (9, .int .i64 (wrap64 (x9 + (((rd_impl_PlantSet t11957 x10).f0).length : Int)))), (10, .int .i64 x10), (11, .int .i64 0)] [(80, .box [(sv_str t11839.1), (sv_S_impl_PlantFoe t11839.2.1), (sv_S_impl_PlantPlace t11839.2.2.1), (sv_S_impl_PlantValve t11839.2.2.2.1)]), (136, .box [(sv_str x1136000), .own 265 x1136001.length]), (265, .arr 133 2 (x1136001.map en_S_impl_PlantMark)), (346, .arr 107 1 (t11957.map en_S_impl_PlantSet))] rfl ⟨.inl rfl, ⟨.inl rfl, ⟨.inl rfl, ⟨.inl rfl, ⟨.inl rfl, ⟨.inl rfl, trivial⟩⟩⟩⟩⟩⟩ ⟨rfl, ⟨rfl, ⟨rfl, ⟨rfl, trivial⟩⟩⟩⟩ ?_
  conv => whnf
  refine laws_FnPlantTop.l2_lp (t11839 := t11839) (x1136000 := x1136000) (x1136001 := x1136001) (t11957 := t11957) (x9 := x9) (x10 := x10) (k := k) H [] (fits_of ⟨.inl ⟨rfl, rfl⟩, trivial⟩ trivial fi_ trivial rfl) ?_
  intro k x11 hk H; rcases k with _ | k; exact none_elim H; rw [laws_FnPlantTop.l2] at H; conv => whnf
  refine Nd.mk nf_ ?_
  conv => whnf
  refine Nd.mk nf_ ?_
  conv => whnf
  refine El.mk (rdm_en_S_impl_PlantSet _ _ nf_ nf_) ?_
  conv => whnf
  refine br_d H (fun c H => ?_) (fun c H => ?_)
  conv => whnf
  refine Nd.mk nf_ ?_
  conv => whnf
  refine Nd.mk nf_ ?_
  conv => whnf
  refine El.mk (rdm_en_S_impl_PlantSet _ _ nf_ nf_) ?_
  conv => whnf
  refine nd_ H (fun c H => ?_)
  conv => whnf
  refine Nd.mk nf_ ?_
  conv => whnf
  refine El.mk (rdm_en_str _ _ nf_ nf_) ?_
  conv => whnf
  revert H; refine bind_elim (fun t11958 A H => ?_)
  refine call_mk (impl_PlantGroup.ac A) (avAL_cons (avA_agg (avL_cons (av_shut' rfl) (avL_cons (av_shut' rfl) (avL_cons (av_shut' rfl) (avL_cons (av_shut' rfl) (avL_nil)))))) (avAL_cons (avA_shut' rfl) (avAL_cons (avA_shut' rfl) (avAL_nil)))) (Or.inl rfl) rfl rfl (Nat.le_of_ble_eq_true rfl) ?_
  conv => whnf
  refine Nd.mk nf_ ?_
  conv => whnf
  refine Nd.mk nf_ ?_
  conv => whnf
  refine El.mk (rdm_en_S_impl_PlantSet _ _ nf_ nf_) ?_
  conv => whnf
  revert H; refine bind_elim (fun t11959 A H => ?_)
  refine call_mk (laws_wpTexts.ac A) (avAL_cons (avA_shut' rfl) (avAL_cons (avA_shut' rfl) (avAL_nil))) (Or.inl rfl) rfl rfl (Nat.le_of_ble_eq_true rfl) ?_
  conv => whnf
  refine cut_ 706 [(3, .bp 80 0), (6, .bp 136 0), (8, .own 346 t11957.length), (9, .int .i64 (wrap64 (x9 + (((rd_impl_PlantSet t11957 x10).f0).length : Int)))), (10, .int .i64 x10), (11, .int .i64 x11), (145, .bool (!t11959))] [(80, .box [(sv_str t11839.1), (sv_S_impl_PlantFoe t11839.2.1), (sv_S_impl_PlantPlace t11839.2.2.1), (sv_S_impl_PlantValve t11839.2.2.2.1)]), (136, .box [(sv_str x1136000), .own 265 x1136001.length]), (265, .arr 133 2 (x1136001.map en_S_impl_PlantMark)), (346, .arr 107 1 (t11957.map en_S_impl_PlantSet))] rfl ⟨.inl rfl, ⟨.inl rfl, ⟨.inl rfl, ⟨.inl rfl, ⟨.inl rfl, ⟨.inl rfl, ⟨.inl rfl, trivial⟩⟩⟩⟩⟩⟩⟩ ⟨rfl, ⟨rfl, ⟨rfl, ⟨rfl, trivial⟩⟩⟩⟩ ?_
  conv => whnf
  refine br_nt H (fun c H => ?_) (fun c H => ?_)
  conv => whnf
  exact ⟨(k, wrap64 (x11 + 1)), [], ⟨H, lt_⟩, lt_, (fits_of ⟨.inl ⟨rfl, rfl⟩, trivial⟩ trivial fi_ trivial rfl)⟩
  conv => whnf
  injection H with H; subst H
  exact ret_fz [] (rtA_eq rfl)
  conv => whnf
  exact ⟨(k, wrap64 (x9 + (((rd_impl_PlantSet t11957 x10).f0).length : Int)), wrap64 (x10 + 1)), [], ⟨H, lt_⟩, lt_, (fits_of ⟨.inl ⟨rfl, rfl⟩, ⟨.inl ⟨rfl, rfl⟩, trivial⟩⟩ trivial fi_ trivial rfl)⟩
  conv => whnf
  refine laws_FnPlantTop.l3_lp (t11839 := t11839) (x1136000 := x1136000) (x1136001 := x1136001) (x9 := x9) (k := k) H [] (fits_of ⟨.inl ⟨rfl, rfl⟩, trivial⟩ trivial fi_ trivial rfl) ?_
  intro k x12 hk H; rcases k with _ | k; exact none_elim H; rw [laws_FnPlantTop.l3] at H; conv => whnf
  refine br_d H (fun c H => ?_) (fun c H => ?_)
  conv => whnf
  refine laws_FnPlantTop.l4_lp (t11839 := t11839) (x1136000 := x1136000) (x1136001 := x1136001) (x9 := x9) (x12 := x12) (k := k) H [] (fits_of ⟨.inl ⟨rfl, rfl⟩, trivial⟩ trivial fi_ trivial rfl) ?_
  intro k x13 hk H; rcases k with _ | k; exact none_elim H; rw [laws_FnPlantTop.l4] at H; conv => whnf
  refine cut_ 506 [(3, .bp 80 0), (6, .bp 136 0), (9, .int .i64 x9), (12, .int .i64 x12), (13, .int .i64 x13), (157, .bool (decide (x13 < (t11839.2.2.1.length : Int))))] [(80, .box [(sv_str t11839.1), (sv_S_impl_PlantFoe t11839.2.1), (sv_S_impl_PlantPlace t11839.2.2.1), (sv_S_impl_PlantValve t11839.2.2.2.1)]), (136, .box [(sv_str x1136000), .own 265 x1136001.length]), (265, .arr 133 2 (x1136001.map en_S_impl_PlantMark))] rfl ⟨.inl rfl, ⟨.inl rfl, ⟨.inl rfl, ⟨.inl rfl, ⟨.inl rfl, ⟨.inl rfl, trivial⟩⟩⟩⟩⟩⟩ ⟨rfl, ⟨rfl, ⟨rfl, trivial⟩⟩⟩ ?_
  conv => whnf
  refine br_d H (fun c H => ?_) (fun c H => ?_)
  conv => whnf
  refine nd_ H (fun c H => ?_)
  conv => whnf
  refine Nd.mk nf_ ?_
  conv => whnf
  refine El.mk (rdm_en_S_impl_PlantPlace _ _ nf_ nf_) ?_
  conv => whnf
  refine nd_ H (fun c H => ?_)
  conv => whnf
  refine Nd.mk nf_ ?_
  conv => whnf
  refine El.mk (rdm_en_S_impl_PlantPlace _ _ nf_ nf_) ?_
  conv => whnf
  refine cut_ 618 [(3, .bp 80 0), (6, .bp 136 0), (9, .int .i64 x9), (12, .int .i64 x12), (13, .int .i64 x13), (14, .str ((rd_impl_PlantPlace t11839.2.2.1 x12).f0)), (15, .str ((rd_impl_PlantPlace t11839.2.2.1 x13).f0))] [(80, .box [(sv_str t11839.1), (sv_S_impl_PlantFoe t11839.2.1), (sv_S_impl_PlantPlace t11839.2.2.1), (sv_S_impl_PlantValve t11839.2.2.2.1)]), (136, .box [(sv_str x1136000), .own 265 x1136001.length]), (265, .arr 133 2 (x1136001.map en_S_impl_PlantMark))] rfl ⟨.inl rfl, ⟨.inl rfl, ⟨.inl rfl, ⟨.inl rfl, ⟨.inl rfl, ⟨.inl rfl, ⟨.inl rfl, trivial⟩⟩⟩⟩⟩⟩⟩ ⟨rfl, ⟨rfl, ⟨rfl, trivial⟩⟩⟩ ?_
  conv => whnf
  revert H; refine bind_elim (fun t11968 A H => ?_)
  refine call_mk (laws_wpReach.ac A) (avAL_cons (avA_agg (avL_cons (av_shut' rfl) (avL_cons (av_shut' rfl) (avL_cons (av_shut' rfl) (avL_cons (av_shut' rfl) (avL_nil)))))) (avAL_cons (avA_shut' rfl) (avAL_cons (avA_shut' rfl) (avAL_cons (avA_shut' rfl) (avAL_cons (avA_shut' rfl) (avAL_nil)))))) (Or.inl rfl) rfl rfl (Nat.le_of_ble_eq_true rfl) ?_
  conv => whnf
  refine cut_ 698 [(3, .bp 80 0), (6, .bp 136 0), (9, .int .i64 x9), (12, .int .i64 x12), (13, .int .i64 x13), (14, .str ((rd_impl_PlantPlace t11839.2.2.1 x12).f0)), (15, .str ((rd_impl_PlantPlace t11839.2.2.1 x13).f0)), (16, .bool t11968)] [(80, .box [(sv_str t11839.1), (sv_S_impl_PlantFoe t11839.2.1), (sv_S_impl_PlantPlace t11839.2.2.1), (sv_S_impl_PlantValve t11839.2.2.2.1)]), (136, .box [(sv_str x1136000), .own 265 x1136001.length]), (265, .arr 133 2 (x1136001.map en_S_impl_PlantMark))] rfl ⟨.inl rfl, ⟨.inl rfl, ⟨.inl rfl, ⟨.inl rfl, ⟨.inl rfl, ⟨.inl rfl, ⟨.inl rfl, ⟨.inl rfl, trivial⟩⟩⟩⟩⟩⟩⟩⟩ ⟨rfl, ⟨rfl, ⟨rfl, trivial⟩⟩⟩ ?_
  conv => whnf
  revert H; refine bind_elim (fun t11969 A H => ?_)
  refine call_mk (impl_PlantJoined.ac A) (avAL_cons (avA_agg (avL_cons (av_shut' rfl) (avL_cons (av_own rfl rfl) (avL_nil)))) (avAL_cons (avA_shut' rfl) (avAL_cons (avA_shut' rfl) (avAL_nil)))) (Or.inr ⟨rfl, bo_nil⟩) rfl rfl (Nat.le_of_ble_eq_true rfl) ?_
  conv => whnf
  refine br_t H (fun c H => ?_) (fun c H => ?_)
  conv => whnf
  refine Br.t ft_ ?_
  conv => whnf
  refine Br.t ft_ ?_
  conv => whnf
  refine Br.t ft_ ?_
  conv => whnf
  refine Br.t ft_ ?_
  conv => whnf
  refine Br.t ft_ ?_
  conv => whnf
  refine Br.t ft_ ?_
  conv => whnf
  refine Br.t ft_ ?_
  conv => whnf
  refine Br.t ft_ ?_
  conv => whnf
  refine Br.t ft_ ?_
  conv => whnf
  refine cut_ 834 [(3, .bp 80 0), (6, .bp 136 0), (9, .int .i64 x9), (12, .int .i64 x12), (13, .int .i64 x13), (197, .bool true)] [(80, .box [(sv_str t11839.1), (sv_S_impl_PlantFoe t11839.2.1), (sv_S_impl_PlantPlace t11839.2.2.1), (sv_S_impl_PlantValve t11839.2.2.2.1)]), (136, .box [(sv_str x1136000), .own 265 x1136001.length]), (265, .arr 133 2 (x1136001.map en_S_impl_PlantMark))] rfl ⟨.inl rfl, ⟨.inl rfl, ⟨.inl rfl, ⟨.inl rfl, ⟨.inl rfl, ⟨.inl rfl, trivial⟩⟩⟩⟩⟩⟩ ⟨rfl, ⟨rfl, ⟨rfl, trivial⟩⟩⟩ ?_
  conv => whnf
  refine Br.t rfl ?_
  conv => whnf
  refine cut_ 842 [(2, .bool false)] [] rfl ⟨.inl rfl, trivial⟩ trivial ?_
  conv => whnf
  injection H with H; subst H
  exact ret_fz [] (rtA_eq rfl)
  conv => whnf
  refine Br.f ff_ ?_
  conv => whnf
  refine Br.f ff_ ?_
  conv => whnf
  refine Br.f ff_ ?_
  conv => whnf
  refine Br.f ff_ ?_
  conv => whnf
  revert H; refine bind_elim (fun t11970 A H => ?_)
  refine call_mk (impl_PlantGroup.ac A) (avAL_cons (avA_agg (avL_cons (av_shut' rfl) (avL_cons (av_shut' rfl) (avL_cons (av_shut' rfl) (avL_cons (av_shut' rfl) (avL_nil)))))) (avAL_cons (avA_shut' rfl) (avAL_cons (avA_shut' rfl) (avAL_nil)))) (Or.inl rfl) rfl rfl (Nat.le_of_ble_eq_true rfl) ?_
  conv => whnf
  refine Br.f ff_ ?_
  conv => whnf
  refine Br.f ff_ ?_
  conv => whnf
  revert H; refine bind_elim (fun t11971 A H => ?_)
  refine call_mk (laws_wpHas.ac A) (avAL_cons (avA_shut' rfl) (avAL_cons (avA_shut' rfl) (avAL_nil))) (Or.inl rfl) rfl rfl (Nat.le_of_ble_eq_true rfl) ?_
  conv => whnf
  refine Br.f ff_ ?_
  conv => whnf
  refine Br.f ff_ ?_
  conv => whnf
  refine Br.f ff_ ?_
  conv => whnf
  refine cut_ 834 [(3, .bp 80 0), (6, .bp 136 0), (9, .int .i64 x9), (12, .int .i64 x12), (13, .int .i64 x13), (197, .bool (t11971 != t11968))] [(80, .box [(sv_str t11839.1), (sv_S_impl_PlantFoe t11839.2.1), (sv_S_impl_PlantPlace t11839.2.2.1), (sv_S_impl_PlantValve t11839.2.2.2.1)]), (136, .box [(sv_str x1136000), .own 265 x1136001.length]), (265, .arr 133 2 (x1136001.map en_S_impl_PlantMark))] rfl ⟨.inl rfl, ⟨.inl rfl, ⟨.inl rfl, ⟨.inl rfl, ⟨.inl rfl, ⟨.inl rfl, trivial⟩⟩⟩⟩⟩⟩ ⟨rfl, ⟨rfl, ⟨rfl, trivial⟩⟩⟩ ?_
  conv => whnf
  refine br_t H (fun c H => ?_) (fun c H => ?_)
  conv => whnf
  refine cut_ 842 [(2, .bool false)] [] rfl ⟨.inl rfl, trivial⟩ trivial ?_
  conv => whnf
  injection H with H; subst H
  exact ret_fz [] (rtA_eq rfl)
  conv => whnf
  exact ⟨(k, wrap64 (x13 + 1)), [], ⟨H, lt_⟩, lt_, (fits_of ⟨.inl ⟨rfl, rfl⟩, trivial⟩ trivial fi_ trivial rfl)⟩
  conv => whnf
  exact ⟨(k, wrap64 (x12 + 1)), [], ⟨H, lt_⟩, lt_, (fits_of ⟨.inl ⟨rfl, rfl⟩, trivial⟩ trivial fi_ trivial rfl)⟩
  conv => whnf
  refine cut_ 506 [(2, .bool (decide (x9 = (t11839.2.2.1.length : Int))))] [] rfl ⟨.inl rfl, trivial⟩ trivial ?_
  conv => whnf
  injection H with H; subst H
  exact ret_fz [] (rtA_eq rfl)
  conv => whnf
  refine cut_ 362 [(2, .bool (decide ((x1136001.length : Int) = 0)))] [] rfl ⟨.inl rfl, trivial⟩ trivial ?_
  conv => whnf
  injection H with H; subst H
  exact ret_fz [] (rtA_eq rfl)
  conv => whnf
  refine Br.t ft_ ?_
  conv => whnf
  refine Br.t ft_ ?_
  conv => whnf
  refine Br.t ft_ ?_
  conv => whnf
  refine Br.t ft_ ?_
  conv => whnf
  refine Br.t ft_ ?_
  conv => whnf
  refine cut_ 256 [(3, .bp 80 0), (4, (sv_str t11839.2.2.2.2.1)), (5, (sv_bool t11839.2.2.2.2.2)), (6, .bp 136 0), (41, .bool true)] [(80, .box [(sv_str t11839.1), (sv_S_impl_PlantFoe t11839.2.1), (sv_S_impl_PlantPlace t11839.2.2.1), (sv_S_impl_PlantValve t11839.2.2.2.1)]), (128, .arr 9 1 (t11841.1.map en_str)), (129, .arr 133 2 (t11841.2.map en_S_impl_PlantMark)), (136, .box [.own 128 t11841.1.length, .own 129 t11841.2.length])] rfl ⟨.inl rfl, ⟨.inl rfl, ⟨.inl rfl, ⟨.inl rfl, ⟨.inl rfl, trivial⟩⟩⟩⟩⟩ ⟨rfl, ⟨rfl, ⟨rfl, ⟨rfl, trivial⟩⟩⟩⟩ ?_
  conv => whnf
  refine Br.t rfl ?_
  conv => whnf
  refine cut_ 264 [(2, .bool false)] [] rfl ⟨.inl rfl, trivial⟩ trivial ?_
  conv => whnf
  injection H with H; subst H
  exact ret_fz [] (rtA_eq rfl)

end Go.Proofs.Ytodeegjblililaa.QU

