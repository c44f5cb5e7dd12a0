import Derived.Test.YtodeegjblililaaZFnExactPlantTurn1
import Derived.Shelf.Lay
import Derived.Shelf.Sort.AssemblyIn
import Derived.Ground.SoProg
import Derived.Test.YtodeegjblililaaProg
import Derived.KernelRfl
set_option linter.unusedVariables false
set_option linter.unusedSimpArgs false
namespace Go.Proofs.Ytodeegjblililaa.PT
open Go Go.Aw Go.RowKit Go.Proofs
set_option maxRecDepth 100000
set_option maxHeartbeats 40000000
variable {G : Nat → Option Obj}
attribute [local irreducible] callE Lp Sq Cut RetOk Fits
theorem impl_group.acO {k : Nat} {a0_0 : List ByteArray} {a0_1 : List S_impl_PlantFoe} {a0_2 : List S_impl_PlantPlace} {a0_3 : List S_impl_PlantValve} {l1 : List ByteArray} {a2 : ByteArray} {r : List ByteArray} (H : impl_group.f k a0_0 a0_1 a0_2 a0_3 l1 a2 = some r) : ACalls Try.prog G 90 [] [.agg [(sv_str a0_0), (sv_S_impl_PlantFoe a0_1), (sv_S_impl_PlantPlace a0_2), (sv_S_impl_PlantValve a0_3)], (sv_str l1), .str a2] [.arr 9 1 (r.map en_str)] (.own 0 r.length) := by
  refine acalls_of tok hP Try.func90 rfl (by kernel_rfl) [.tmp 6] rfl (by kernel_rfl) (Nat.le_of_ble_eq_true rfl) (.l .n (.l (.c .n .n) (.l .n (.l (.l .n (.l .n (.l .n (.c .n (.l .n (.l .n (.l (.l .n (.c .n (.l (.c .n .n) .n))) .n))))))) .n)))) rfl ?_
  unfold impl_group.f at H
  conv => whnf
  revert H; refine bind_elim (fun t1328 A H => ?_)
  refine call_mk (impl_Plant_place.ac A) (avAL_cons (avA_agg (avL_cons (av_shut' rfl) (avL_cons (av_shut' rfl) (avL_cons (av_shut' rfl) (avL_cons (av_shut' rfl) (avL_nil)))))) (avAL_cons (avA_shut' rfl) (avAL_nil))) (Or.inl rfl) rfl rfl (Nat.le_of_ble_eq_true rfl) ?_
  conv => whnf
  refine cut_ 88 [(1, (sv_str l1)), (2, .str a2), (3, .bp 0 0), (8, .bool t1328.2.2.2)] [(0, .box [(sv_str a0_0), (sv_S_impl_PlantFoe a0_1), (sv_S_impl_PlantPlace a0_2), (sv_S_impl_PlantValve a0_3)])] rfl ⟨.inl rfl, ⟨.inl rfl, ⟨.inl rfl, ⟨.inl rfl, trivial⟩⟩⟩⟩ ⟨rfl, trivial⟩ ?_
  conv => whnf
  refine br_nt H (fun c H => ?_) (fun c H => ?_)
  conv => whnf
  refine impl_group.l0_lpO (a0_3 := a0_3) (l1 := l1) (k := k) H [some 112] (fits_of ⟨mt_own lm_, ⟨.inl ⟨rfl, rfl⟩, trivial⟩⟩ ⟨fm_, trivial⟩ fi_ trivial rfl) ?_
  intro k x9 x10 hk H; rcases k with _ | k; exact none_elim H; rw [impl_group.l0] at H; conv => whnf
  refine br_t H (fun c H => ?_) (fun c H => ?_)
  conv => whnf
  refine cut_ 185 [(1, (sv_str l1)), (3, .bp 0 0), (9, .own 136 x9.length), (10, .bool false), (25, (sv_S_impl_PlantValve a0_3)), (26, .int .i64 (a0_3.length : Int)), (27, .int .i64 0)] [(0, .box [(sv_str a0_0), (sv_S_impl_PlantFoe a0_1), (sv_S_impl_PlantPlace a0_2), (sv_S_impl_PlantValve a0_3)]), (136, .arr 9 1 (x9.map en_str))] rfl ⟨.inl rfl, ⟨.inl rfl, ⟨.inl rfl, ⟨.inl rfl, ⟨.inl rfl, ⟨.inl rfl, ⟨.inl rfl, trivial⟩⟩⟩⟩⟩⟩⟩ ⟨rfl, ⟨rfl, trivial⟩⟩ ?_
  conv => whnf
  refine impl_group.l1_lpO (a0_3 := a0_3) (l1 := l1) (k := k) H [some 136] (fits_of ⟨rfl, ⟨.inl ⟨rfl, rfl⟩, ⟨.inl ⟨rfl, rfl⟩, trivial⟩⟩⟩ ⟨rfl, trivial⟩ fi_ trivial rfl) ?_
  intro k x9_1 x10_1 x27 hk H; rcases k with _ | k; exact none_elim H; rw [impl_group.l1] at H; conv => whnf
  refine br_d H (fun c H => ?_) (fun c H => ?_)
  conv => whnf
  refine nd_ H (fun c H => ?_)
  conv => whnf
  refine Nd.mk nf_ ?_
  conv => whnf
  refine El.mk (rdm_en_S_impl_PlantValve _ _ nf_ nf_) ?_
  conv => whnf
  revert H; refine bind_elim (fun t1354 A H => ?_)
  refine call_mk (impl_has.ac A) (avAL_cons (avA_shut' rfl) (avAL_cons (avA_shut' rfl) (avAL_nil))) (Or.inl rfl) rfl rfl (Nat.le_of_ble_eq_true rfl) ?_
  conv => whnf
  refine br_t H (fun c H => ?_) (fun c H => ?_)
  conv => whnf
  refine Br.t ft_ ?_
  conv => whnf
  refine Br.t ft_ ?_
  conv => whnf
  refine Br.t ft_ ?_
  conv => whnf
  revert H; refine bind_elim (fun t1355 A H => ?_)
  refine call_mk (impl_has.ac A) (avAL_cons (avA_own rfl rfl) (avAL_cons (avA_shut' rfl) (avAL_nil))) (Or.inr ⟨rfl, bo_nil⟩) rfl rfl (Nat.le_of_ble_eq_true rfl) ?_
  conv => whnf
  refine Br.t ft_ ?_
  conv => whnf
  refine Br.t ft_ ?_
  conv => whnf
  refine Br.t ft_ ?_
  conv => whnf
  refine Br.t ft_ ?_
  conv => whnf
  revert H; refine bind_elim (fun t1356 A H => ?_)
  refine call_mk (impl_has.ac A) (avAL_cons (avA_own rfl rfl) (avAL_cons (avA_shut' rfl) (avAL_nil))) (Or.inr ⟨rfl, bo_nil⟩) rfl rfl (Nat.le_of_ble_eq_true rfl) ?_
  conv => whnf
  refine Br.t ft_ ?_
  conv => whnf
  refine Br.t ft_ ?_
  conv => whnf
  refine cut_ 346 [(1, (sv_str l1)), (3, .bp 0 0), (9, .own 185 x9_1.length), (10, .bool x10_1), (12, .bp 210 0), (25, (sv_S_impl_PlantValve a0_3)), (26, .int .i64 (a0_3.length : Int)), (27, .int .i64 x27), (45, .bool (t1355 != t1356))] [(0, .box [(sv_str a0_0), (sv_S_impl_PlantFoe a0_1), (sv_S_impl_PlantPlace a0_2), (sv_S_impl_PlantValve a0_3)]), (185, .arr 9 1 (x9_1.map en_str)), (210, .box [.str ((rd_impl_PlantValve a0_3 x27).f0), .str ((rd_impl_PlantValve a0_3 x27).f1), .str ((rd_impl_PlantValve a0_3 x27).f2), .str ((rd_impl_PlantValve a0_3 x27).f3)])] rfl ⟨.inl rfl, ⟨.inl rfl, ⟨.inl rfl, ⟨.inl rfl, ⟨.inl rfl, ⟨.inl rfl, ⟨.inl rfl, ⟨.inl rfl, ⟨.inl rfl, trivial⟩⟩⟩⟩⟩⟩⟩⟩⟩ ⟨rfl, ⟨rfl, ⟨rfl, trivial⟩⟩⟩ ?_
  conv => whnf
  refine br_t H (fun c H => ?_) (fun c H => ?_)
  conv => whnf
  revert H; refine bind_elim (fun t1357 A H => ?_)
  refine call_mk (impl_with.acO A) (avAL_cons (avA_own rfl rfl) (avAL_cons (avA_ownX rfl rfl lm_ lm_) (avAL_nil))) (Or.inr ⟨rfl, bo_cons (bo_arr bare_en_str) (bo_nil)⟩) rfl rfl (Nat.le_of_ble_eq_true rfl) ?_
  conv => whnf
  refine cut_ 410 [(1, (sv_str l1)), (3, .bp 0 0), (9, .own 394 t1357.length), (25, (sv_S_impl_PlantValve a0_3)), (26, .int .i64 (a0_3.length : Int)), (27, .int .i64 x27)] [(0, .box [(sv_str a0_0), (sv_S_impl_PlantFoe a0_1), (sv_S_impl_PlantPlace a0_2), (sv_S_impl_PlantValve a0_3)]), (394, .arr 9 1 (t1357.map en_str))] rfl ⟨.inl rfl, ⟨.inl rfl, ⟨.inl rfl, ⟨.inl rfl, ⟨.inl rfl, ⟨.inl rfl, trivial⟩⟩⟩⟩⟩⟩ ⟨rfl, ⟨rfl, trivial⟩⟩ ?_
  conv => whnf
  exact ⟨(k, t1357, true, wrap64 (x27 + 1)), [some 394], ⟨H, lt_⟩, lt_, (fits_of ⟨rfl, ⟨.inl ⟨rfl, rfl⟩, ⟨.inl ⟨rfl, rfl⟩, trivial⟩⟩⟩ ⟨rfl, trivial⟩ fi_ trivial rfl)⟩
  conv => whnf
  exact ⟨(k, x9_1, _, wrap64 (x27 + 1)), [some 185], ⟨H, lt_⟩, lt_, (fits_of ⟨rfl, ⟨.inl ⟨rfl, rfl⟩, ⟨.inl ⟨rfl, rfl⟩, trivial⟩⟩⟩ ⟨rfl, trivial⟩ fi_ trivial rfl)⟩
  conv => whnf
  refine Br.f ff_ ?_
  conv => whnf
  refine Br.f ff_ ?_
  conv => whnf
  refine Br.f ff_ ?_
  conv => whnf
  refine Br.f ff_ ?_
  conv => whnf
  refine Br.f ff_ ?_
  conv => whnf
  refine Br.f ff_ ?_
  conv => whnf
  refine Br.f ff_ ?_
  conv => whnf
  refine Br.f ff_ ?_
  conv => whnf
  refine Br.f ff_ ?_
  conv => whnf
  refine cut_ 346 [(1, (sv_str l1)), (3, .bp 0 0), (9, .own 185 x9_1.length), (10, .bool x10_1), (12, .bp 210 0), (25, (sv_S_impl_PlantValve a0_3)), (26, .int .i64 (a0_3.length : Int)), (27, .int .i64 x27), (45, .bool false)] [(0, .box [(sv_str a0_0), (sv_S_impl_PlantFoe a0_1), (sv_S_impl_PlantPlace a0_2), (sv_S_impl_PlantValve a0_3)]), (185, .arr 9 1 (x9_1.map en_str)), (210, .box [.str ((rd_impl_PlantValve a0_3 x27).f0), .str ((rd_impl_PlantValve a0_3 x27).f1), .str ((rd_impl_PlantValve a0_3 x27).f2), .str ((rd_impl_PlantValve a0_3 x27).f3)])] rfl ⟨.inl rfl, ⟨.inl rfl, ⟨.inl rfl, ⟨.inl rfl, ⟨.inl rfl, ⟨.inl rfl, ⟨.inl rfl, ⟨.inl rfl, ⟨.inl rfl, trivial⟩⟩⟩⟩⟩⟩⟩⟩⟩ ⟨rfl, ⟨rfl, ⟨rfl, trivial⟩⟩⟩ ?_
  conv => whnf
  refine Br.f rfl ?_
  conv => whnf
  exact ⟨(k, x9_1, _, wrap64 (x27 + 1)), [some 185], ⟨H, lt_⟩, lt_, (fits_of ⟨rfl, ⟨.inl ⟨rfl, rfl⟩, ⟨.inl ⟨rfl, rfl⟩, trivial⟩⟩⟩ ⟨rfl, trivial⟩ fi_ trivial rfl)⟩
  conv => whnf
  exact ⟨(k, x9_1, x10_1), [some 185], ⟨H, lt_⟩, lt_, (fits_of ⟨rfl, ⟨.inl ⟨rfl, rfl⟩, trivial⟩⟩ ⟨rfl, trivial⟩ fi_ trivial rfl)⟩
  conv => whnf
  injection H with H; subst H
  exact ret_gen [some 136] [] ((rfl)) ⟨rfl, trivial⟩ rfl
  conv => whnf
  injection H with H; subst H
  exact ret_gen [none] [] ((⟨rfl, rfl⟩)) ⟨⟨_, _, rfl⟩, trivial⟩ rfl
theorem impl_PlantIndexOf.l1_lp {F : (Exit → St → Prop) → St → Prop} {hv : List Tmp} {Q : Exit → St → Prop} {σ : St} {r : (List ByteArray) × (List S_impl_PlantMark)} {k : Nat} {a0_0 : List ByteArray} {a0_1 : List S_impl_PlantFoe} {a0_2 : List S_impl_PlantPlace} {a0_3 : List S_impl_PlantValve} {l1 : List ByteArray} {x36 : Int} {x1040000_1 : List ByteArray} {x1040001_1 : List S_impl_PlantMark} (H : impl_PlantIndexOf.l1 k a0_0 a0_1 a0_2 a0_3 l1 x36 x1040000_1 x1040001_1 = some r) (rn : List (Option Nat)) (h1 : Fits σ σ [40, 80, 81] [(36, .int .i64 x36)] [(40, .box [.own 0 x1040000_1.length, .own 1 x1040001_1.length])] [.arr 9 1 (x1040000_1.map en_str), .arr 133 2 (x1040001_1.map en_S_impl_PlantMark)] rn)
    (h2 : ∀ (k0 : Nat) (x36 : Int) (x1040000_1 : List ByteArray) (x1040001_1 : List S_impl_PlantMark), k0 < k + 1 → impl_PlantIndexOf.l1 k0 a0_0 a0_1 a0_2 a0_3 l1 x36 x1040000_1 x1040001_1 = some r → headN σ hv [40, 80, 81] [(36, .int .i64 x36)] [(40, .box [.own 0 x1040000_1.length, .own 1 x1040001_1.length])] [.arr 9 1 (x1040000_1.map en_str), .arr 133 2 (x1040001_1.map en_S_impl_PlantMark)] (F (fun e σ' => match e with | .normal => ∃ (y : Nat × Int × (List ByteArray) × (List S_impl_PlantMark)) (rn : List (Option Nat)), (impl_PlantIndexOf.l1 y.1 a0_0 a0_1 a0_2 a0_3 l1 y.2.1 y.2.2.1 y.2.2.2 = some r ∧ y.1 < k + 1) ∧ y.1 < k0 ∧ Fits σ σ' [40, 80, 81] [(36, .int .i64 y.2.1)] [(40, .box [.own 0 y.2.2.1.length, .own 1 y.2.2.2.length])] [.arr 9 1 (y.2.2.1.map en_str), .arr 133 2 (y.2.2.2.map en_S_impl_PlantMark)] rn | e => Q e σ'))) : Lp F hv Q σ := by
  unfold Lp
  refine ⟨Nat × Int × (List ByteArray) × (List S_impl_PlantMark), fun x => impl_PlantIndexOf.l1 x.1 a0_0 a0_1 a0_2 a0_3 l1 x.2.1 x.2.2.1 x.2.2.2 = some r ∧ x.1 < k + 1, fun x => x.1, [40, 80, 81], fun x => [(36, .int .i64 x.2.1)], fun x => [(40, .box [.own 0 x.2.2.1.length, .own 1 x.2.2.2.length])], fun x => [.arr 9 1 (x.2.2.1.map en_str), .arr 133 2 (x.2.2.2.map en_S_impl_PlantMark)], ⟨(k, x36, x1040000_1, x1040001_1), rn, ⟨H, Nat.lt_succ_self _⟩, h1⟩, ?_⟩
  rintro ⟨k, x36, x1040000_1, x1040001_1⟩ ⟨H, hk⟩
  exact h2 k x36 x1040000_1 x1040001_1 hk H
theorem impl_PlantIndexOf.l0_lp {F : (Exit → St → Prop) → St → Prop} {hv : List Tmp} {Q : Exit → St → Prop} {σ : St} {r : (List ByteArray) × (List S_impl_PlantMark)} {k : Nat} {a0_0 : List ByteArray} {a0_1 : List S_impl_PlantFoe} {a0_2 : List S_impl_PlantPlace} {a0_3 : List S_impl_PlantValve} {l1 : List ByteArray} {x17 : Int} {x1040000 : List ByteArray} {x1040001 : List S_impl_PlantMark} (H : impl_PlantIndexOf.l0 k a0_0 a0_1 a0_2 a0_3 l1 x17 x1040000 x1040001 = some r) (rn : List (Option Nat)) (h1 : Fits σ σ [40] [(17, .int .i64 x17)] [(40, .box [.own 0 x1040000.length, .own 1 x1040001.length])] [.arr 9 1 (x1040000.map en_str), .arr 133 2 (x1040001.map en_S_impl_PlantMark)] rn)
    (h2 : ∀ (k0 : Nat) (x17 : Int) (x1040000 : List ByteArray) (x1040001 : List S_impl_PlantMark), k0 < k + 1 → impl_PlantIndexOf.l0 k0 a0_0 a0_1 a0_2 a0_3 l1 x17 x1040000 x1040001 = some r → headN σ hv [40] [(17, .int .i64 x17)] [(40, .box [.own 0 x1040000.length, .own 1 x1040001.length])] [.arr 9 1 (x1040000.map en_str), .arr 133 2 (x1040001.map en_S_impl_PlantMark)] (F (fun e σ' => match e with | .normal => ∃ (y : Nat × Int × (List ByteArray) × (List S_impl_PlantMark)) (rn : List (Option Nat)), (impl_PlantIndexOf.l0 y.1 a0_0 a0_1 a0_2 a0_3 l1 y.2.1 y.2.2.1 y.2.2.2 = some r ∧ y.1 < k + 1) ∧ y.1 < k0 ∧ Fits σ σ' [40] [(17, .int .i64 y.2.1)] [(40, .box [.own 0 y.2.2.1.length, .own 1 y.2.2.2.length])] [.arr 9 1 (y.2.2.1.map en_str), .arr 133 2 (y.2.2.2.map en_S_impl_PlantMark)] rn | e => Q e σ'))) : Lp F hv Q σ := by
  unfold Lp
  refine ⟨Nat × Int × (List ByteArray) × (List S_impl_PlantMark), fun x => impl_PlantIndexOf.l0 x.1 a0_0 a0_1 a0_2 a0_3 l1 x.2.1 x.2.2.1 x.2.2.2 = some r ∧ x.1 < k + 1, fun x => x.1, [40], fun x => [(17, .int .i64 x.2.1)], fun x => [(40, .box [.own 0 x.2.2.1.length, .own 1 x.2.2.2.length])], fun x => [.arr 9 1 (x.2.2.1.map en_str), .arr 133 2 (x.2.2.2.map en_S_impl_PlantMark)], ⟨(k, x17, x1040000, x1040001), rn, ⟨H, Nat.lt_succ_self _⟩, h1⟩, ?_⟩
  rintro ⟨k, x17, x1040000, x1040001⟩ ⟨H, hk⟩
  exact h2 k x17 x1040000 x1040001 hk H
theorem impl_PlantIndexOf.ac {k : Nat} {a0_0 : List ByteArray} {a0_1 : List S_impl_PlantFoe} {a0_2 : List S_impl_PlantPlace} {a0_3 : List S_impl_PlantValve} {l1 : List ByteArray} {r : (List ByteArray) × (List S_impl_PlantMark)} (H : impl_PlantIndexOf.f k a0_0 a0_1 a0_2 a0_3 l1 = some r) : ACalls Try.prog G 42 [] [.agg [(sv_str a0_0), (sv_S_impl_PlantFoe a0_1), (sv_S_impl_PlantPlace a0_2), (sv_S_impl_PlantValve a0_3)], (sv_str l1)] [] (.agg [(sv_str r.1), (sv_S_impl_PlantMark r.2)]) := by
  refine acalls_of tok hP Try.func42 rfl (by kernel_rfl) [.cell 4 65] rfl (by kernel_rfl) (Nat.le_of_ble_eq_true rfl) (.l .n (.l (.c .n .n) (.l .n (.l (.c .n (.l .n (.l .n (.c (.c .n (.c .n .n)) .n)))) (.l (.c .n (.l .n (.l .n (.c (.c .n .n) .n)))) .n))))) rfl ?_
  unfold impl_PlantIndexOf.f at H
  conv => whnf
  revert H; refine bind_elim (fun t1360 A H => ?_)
  refine call_mk (impl_PlantValid.ac A) (avAL_cons (avA_agg (avL_cons (av_shut' rfl) (avL_cons (av_shut' rfl) (avL_cons (av_shut' rfl) (avL_cons (av_shut' rfl) (avL_nil)))))) (avAL_nil)) (Or.inl rfl) rfl rfl (Nat.le_of_ble_eq_true rfl) ?_
  conv => whnf
  refine cut_ 40 [(1, (sv_str l1)), (2, .bp 0 0), (4, .bp 8 0), (12, .bool (!t1360))] [(0, .box [(sv_str a0_0), (sv_S_impl_PlantFoe a0_1), (sv_S_impl_PlantPlace a0_2), (sv_S_impl_PlantValve a0_3)]), (8, .box [.nil, .nil])] rfl ⟨.inl rfl, ⟨.inl rfl, ⟨.inl rfl, ⟨.inl rfl, trivial⟩⟩⟩⟩ ⟨rfl, ⟨rfl, trivial⟩⟩ ?_
  conv => whnf
  refine br_nt H (fun c H => ?_) (fun c H => ?_)
  conv => whnf
  refine cut_ 80 [(1, (sv_str l1)), (2, .bp 0 0), (4, .bp 8 0), (5, .bp 40 0), (15, (sv_S_impl_PlantValve a0_3)), (16, .int .i64 (a0_3.length : Int)), (17, .int .i64 0)] [(0, .box [(sv_str a0_0), (sv_S_impl_PlantFoe a0_1), (sv_S_impl_PlantPlace a0_2), (sv_S_impl_PlantValve a0_3)]), (8, .box [.nil, .nil]), (40, .box [.nil, .nil])] rfl ⟨.inl rfl, ⟨.inl rfl, ⟨.inl rfl, ⟨.inl rfl, ⟨.inl rfl, ⟨.inl rfl, ⟨.inl rfl, trivial⟩⟩⟩⟩⟩⟩⟩ ⟨rfl, ⟨rfl, ⟨rfl, trivial⟩⟩⟩ ?_
  conv => whnf
  refine impl_PlantIndexOf.l0_lp (a0_0 := a0_0) (a0_1 := a0_1) (a0_2 := a0_2) (a0_3 := a0_3) (l1 := l1) (k := k) H [none, none] (fits_of ⟨.inl ⟨rfl, rfl⟩, trivial⟩ ⟨⟨_, _, rfl⟩, ⟨⟨_, _, rfl⟩, trivial⟩⟩ fi_ ⟨⟨_, rfl⟩, ⟨_, rfl, ⟨⟨rfl, rfl⟩, ⟨⟨rfl, rfl⟩, trivial⟩⟩⟩, trivial⟩ rfl) ?_
  intro k x17 x1040000 x1040001 hk H; rcases k with _ | k; exact none_elim H; rw [impl_PlantIndexOf.l0] at H; conv => whnf
  refine br_d H (fun c H => ?_) (fun c H => ?_)
  conv => whnf
  refine nd_ H (fun c H => ?_)
  conv => whnf
  refine Nd.mk nf_ ?_
  conv => whnf
  refine El.mk (rdm_en_S_impl_PlantValve _ _ nf_ nf_) ?_
  conv => whnf
  refine cut_ 122 [(1, (sv_str l1)), (2, .bp 0 0), (4, .bp 8 0), (5, .bp 40 0), (7, .bp 106 0), (15, (sv_S_impl_PlantValve a0_3)), (16, .int .i64 (a0_3.length : Int)), (17, .int .i64 x17)] [(0, .box [(sv_str a0_0), (sv_S_impl_PlantFoe a0_1), (sv_S_impl_PlantPlace a0_2), (sv_S_impl_PlantValve a0_3)]), (8, .box [.nil, .nil]), (40, .box [.own 80 x1040000.length, .own 81 x1040001.length]), (80, .arr 9 1 (x1040000.map en_str)), (81, .arr 133 2 (x1040001.map en_S_impl_PlantMark)), (106, .box [.str ((rd_impl_PlantValve a0_3 x17).f0), .str ((rd_impl_PlantValve a0_3 x17).f1), .str ((rd_impl_PlantValve a0_3 x17).f2), .str ((rd_impl_PlantValve a0_3 x17).f3)])] rfl ⟨.inl rfl, ⟨.inl rfl, ⟨.inl rfl, ⟨.inl rfl, ⟨.inl rfl, ⟨.inl rfl, ⟨.inl rfl, ⟨.inl rfl, trivial⟩⟩⟩⟩⟩⟩⟩⟩ ⟨rfl, ⟨rfl, ⟨rfl, ⟨rfl, ⟨rfl, ⟨rfl, trivial⟩⟩⟩⟩⟩⟩ ?_
  conv => whnf
  revert H; refine bind_elim (fun t1366 A H => ?_)
  refine call_mk (impl_has.ac A) (avAL_cons (avA_shut' rfl) (avAL_cons (avA_shut' rfl) (avAL_nil))) (Or.inl rfl) rfl rfl (Nat.le_of_ble_eq_true rfl) ?_
  conv => whnf
  refine cut_ 154 [(1, (sv_str l1)), (2, .bp 0 0), (4, .bp 8 0), (5, .bp 40 0), (7, .bp 106 0), (15, (sv_S_impl_PlantValve a0_3)), (16, .int .i64 (a0_3.length : Int)), (17, .int .i64 x17), (24, .bool t1366)] [(0, .box [(sv_str a0_0), (sv_S_impl_PlantFoe a0_1), (sv_S_impl_PlantPlace a0_2), (sv_S_impl_PlantValve a0_3)]), (8, .box [.nil, .nil]), (40, .box [.own 80 x1040000.length, .own 81 x1040001.length]), (80, .arr 9 1 (x1040000.map en_str)), (81, .arr 133 2 (x1040001.map en_S_impl_PlantMark)), (106, .box [.str ((rd_impl_PlantValve a0_3 x17).f0), .str ((rd_impl_PlantValve a0_3 x17).f1), .str ((rd_impl_PlantValve a0_3 x17).f2), .str ((rd_impl_PlantValve a0_3 x17).f3)])] rfl ⟨.inl rfl, ⟨.inl rfl, ⟨.inl rfl, ⟨.inl rfl, ⟨.inl rfl, ⟨.inl rfl, ⟨.inl rfl, ⟨.inl rfl, ⟨.inl rfl, trivial⟩⟩⟩⟩⟩⟩⟩⟩⟩ ⟨rfl, ⟨rfl, ⟨rfl, ⟨rfl, ⟨rfl, ⟨rfl, trivial⟩⟩⟩⟩⟩⟩ ?_
  conv => whnf
  refine br_t H (fun c H => ?_) (fun c H => ?_)
  conv => whnf
  refine nd_ H (fun c H => ?_)
  conv => whnf
  refine cut_ 218 [(1, (sv_str l1)), (2, .bp 0 0), (4, .bp 8 0), (5, .bp 40 0), (15, (sv_S_impl_PlantValve a0_3)), (16, .int .i64 (a0_3.length : Int)), (17, .int .i64 x17)] [(0, .box [(sv_str a0_0), (sv_S_impl_PlantFoe a0_1), (sv_S_impl_PlantPlace a0_2), (sv_S_impl_PlantValve a0_3)]), (8, .box [.nil, .nil]), (40, .box [.own 194 (x1040000.length + 1), .own 81 x1040001.length]), (81, .arr 133 2 (x1040001.map en_S_impl_PlantMark)), (194, .arr 9 1 ((x1040000 ++ ([(rd_impl_PlantValve a0_3 x17).f0] : List ByteArray)).map en_str))] rfl ⟨.inl rfl, ⟨.inl rfl, ⟨.inl rfl, ⟨.inl rfl, ⟨.inl rfl, ⟨.inl rfl, ⟨.inl rfl, trivial⟩⟩⟩⟩⟩⟩⟩ ⟨rfl, ⟨rfl, ⟨rfl, ⟨rfl, ⟨fm_, trivial⟩⟩⟩⟩⟩ ?_
  conv => whnf
  exact ⟨(k, wrap64 (x17 + 1), (x1040000 ++ ([(rd_impl_PlantValve a0_3 x17).f0] : List ByteArray)), x1040001), [some 194, some 81], ⟨H, lt_⟩, lt_, (fits_of ⟨.inl ⟨rfl, rfl⟩, trivial⟩ ⟨rfl, ⟨rfl, trivial⟩⟩ fi_ ⟨⟨_, rfl⟩, ⟨_, rfl, ⟨mt_own lm_, ⟨rfl, trivial⟩⟩⟩, trivial⟩ rfl)⟩
  conv => whnf
  refine cut_ 154 [(1, (sv_str l1)), (2, .bp 0 0), (4, .bp 8 0), (5, .bp 40 0), (15, (sv_S_impl_PlantValve a0_3)), (16, .int .i64 (a0_3.length : Int)), (17, .int .i64 x17)] [(0, .box [(sv_str a0_0), (sv_S_impl_PlantFoe a0_1), (sv_S_impl_PlantPlace a0_2), (sv_S_impl_PlantValve a0_3)]), (8, .box [.nil, .nil]), (40, .box [.own 80 x1040000.length, .own 81 x1040001.length]), (80, .arr 9 1 (x1040000.map en_str)), (81, .arr 133 2 (x1040001.map en_S_impl_PlantMark))] rfl ⟨.inl rfl, ⟨.inl rfl, ⟨.inl rfl, ⟨.inl rfl, ⟨.inl rfl, ⟨.inl rfl, ⟨.inl rfl, trivial⟩⟩⟩⟩⟩⟩⟩ ⟨rfl, ⟨rfl, ⟨rfl, ⟨rfl, ⟨rfl, trivial⟩⟩⟩⟩⟩ ?_
  conv => whnf
  exact ⟨(k, wrap64 (x17 + 1), x1040000, x1040001), [some 80, some 81], ⟨H, lt_⟩, lt_, (fits_of ⟨.inl ⟨rfl, rfl⟩, trivial⟩ ⟨rfl, ⟨rfl, trivial⟩⟩ fi_ ⟨⟨_, rfl⟩, ⟨_, rfl, ⟨rfl, ⟨rfl, trivial⟩⟩⟩, trivial⟩ rfl)⟩
  conv => whnf
  refine cut_ 122 [(2, .bp 0 0), (4, .bp 8 0), (5, .bp 40 0), (34, (sv_S_impl_PlantPlace a0_2)), (35, .int .i64 (a0_2.length : Int)), (36, .int .i64 0)] [(0, .box [(sv_str a0_0), (sv_S_impl_PlantFoe a0_1), (sv_S_impl_PlantPlace a0_2), (sv_S_impl_PlantValve a0_3)]), (8, .box [.nil, .nil]), (40, .box [.own 80 x1040000.length, .own 81 x1040001.length]), (80, .arr 9 1 (x1040000.map en_str)), (81, .arr 133 2 (x1040001.map en_S_impl_PlantMark))] rfl ⟨.inl rfl, ⟨.inl rfl, ⟨.inl rfl, ⟨.inl rfl, ⟨.inl rfl, ⟨.inl rfl, trivial⟩⟩⟩⟩⟩⟩ ⟨rfl, ⟨rfl, ⟨rfl, ⟨rfl, ⟨rfl, trivial⟩⟩⟩⟩⟩ ?_
  conv => whnf
  refine impl_PlantIndexOf.l1_lp (a0_0 := a0_0) (a0_1 := a0_1) (a0_2 := a0_2) (a0_3 := a0_3) (l1 := l1) (k := k) H [some 80, some 81] (fits_of ⟨.inl ⟨rfl, rfl⟩, trivial⟩ ⟨rfl, ⟨rfl, trivial⟩⟩ fi_ ⟨⟨_, rfl⟩, ⟨_, rfl, ⟨rfl, ⟨rfl, trivial⟩⟩⟩, trivial⟩ rfl) ?_
  intro k x36 x1040000_1 x1040001_1 hk H; rcases k with _ | k; exact none_elim H; rw [impl_PlantIndexOf.l1] at H; conv => whnf
  refine br_d H (fun c H => ?_) (fun c H => ?_)
  conv => whnf
  refine nd_ H (fun c H => ?_)
  conv => whnf
  refine Nd.mk nf_ ?_
  conv => whnf
  refine El.mk (rdm_en_S_impl_PlantPlace _ _ nf_ nf_) ?_
  conv => whnf
  refine cut_ 164 [(2, .bp 0 0), (4, .bp 8 0), (5, .bp 40 0), (9, .bp 148 0), (34, (sv_S_impl_PlantPlace a0_2)), (35, .int .i64 (a0_2.length : Int)), (36, .int .i64 x36)] [(0, .box [(sv_str a0_0), (sv_S_impl_PlantFoe a0_1), (sv_S_impl_PlantPlace a0_2), (sv_S_impl_PlantValve a0_3)]), (8, .box [.nil, .nil]), (40, .box [.own 122 x1040000_1.length, .own 123 x1040001_1.length]), (122, .arr 9 1 (x1040000_1.map en_str)), (123, .arr 133 2 (x1040001_1.map en_S_impl_PlantMark)), (148, .box [.str ((rd_impl_PlantPlace a0_2 x36).f0), .int .i64 ((rd_impl_PlantPlace a0_2 x36).f1), .str ((rd_impl_PlantPlace a0_2 x36).f2)])] rfl ⟨.inl rfl, ⟨.inl rfl, ⟨.inl rfl, ⟨.inl rfl, ⟨.inl rfl, ⟨.inl rfl, ⟨.inl rfl, trivial⟩⟩⟩⟩⟩⟩⟩ ⟨rfl, ⟨rfl, ⟨rfl, ⟨rfl, ⟨rfl, ⟨rfl, trivial⟩⟩⟩⟩⟩⟩ ?_
  conv => whnf
  revert H; refine bind_elim (fun t1371 A H => ?_)
  refine call_mk (impl_group.acO A) (avAL_cons (avA_agg (avL_cons (av_shut' rfl) (avL_cons (av_shut' rfl) (avL_cons (av_shut' rfl) (avL_cons (av_shut' rfl) (avL_nil)))))) (avAL_cons (avA_own rfl rfl) (avAL_cons (avA_shut' rfl) (avAL_nil)))) (Or.inr ⟨rfl, bo_cons (bo_arr bare_en_str) (bo_nil)⟩) rfl rfl (Nat.le_of_ble_eq_true rfl) ?_
  conv => whnf
  refine Nd.mk (by decide) ?_
  conv => whnf
  refine nd_ H (fun c H => ?_)
  conv => whnf
  refine El.mk (rdm_en_str _ _ nf_ nf_) ?_
  conv => whnf
  refine nd_ H (fun c H => ?_)
  conv => whnf
  refine cut_ 300 [(2, .bp 0 0), (4, .bp 8 0), (5, .bp 40 0), (34, (sv_S_impl_PlantPlace a0_2)), (35, .int .i64 (a0_2.length : Int)), (36, .int .i64 x36)] [(0, .box [(sv_str a0_0), (sv_S_impl_PlantFoe a0_1), (sv_S_impl_PlantPlace a0_2), (sv_S_impl_PlantValve a0_3)]), (8, .box [.nil, .nil]), (40, .box [.own 122 x1040000_1.length, .own 276 (x1040001_1.length + 1)]), (122, .arr 9 1 (x1040000_1.map en_str)), (276, .arr 133 2 ((x1040001_1 ++ ([(⟨(rd_impl_PlantPlace a0_2 x36).f0, rdOf ByteArray.empty t1371 0⟩ : S_impl_PlantMark)] : List S_impl_PlantMark)).map en_S_impl_PlantMark))] rfl ⟨.inl rfl, ⟨.inl rfl, ⟨.inl rfl, ⟨.inl rfl, ⟨.inl rfl, ⟨.inl rfl, trivial⟩⟩⟩⟩⟩⟩ ⟨rfl, ⟨rfl, ⟨rfl, ⟨rfl, ⟨fm_, trivial⟩⟩⟩⟩⟩ ?_
  conv => whnf
  exact ⟨(k, wrap64 (x36 + 1), x1040000_1, (x1040001_1 ++ ([(⟨(rd_impl_PlantPlace a0_2 x36).f0, rdOf ByteArray.empty t1371 0⟩ : S_impl_PlantMark)] : List S_impl_PlantMark))), [some 122, some 276], ⟨H, lt_⟩, lt_, (fits_of ⟨.inl ⟨rfl, rfl⟩, trivial⟩ ⟨rfl, ⟨rfl, trivial⟩⟩ fi_ ⟨⟨_, rfl⟩, ⟨_, rfl, ⟨rfl, ⟨mt_own lm_, trivial⟩⟩⟩, trivial⟩ rfl)⟩
  conv => whnf
  injection H with H; subst H
  exact ret_fz [122, 123] (rtA_agg (rtL_cons (rt_fz' rfl rfl) (rtL_cons (rt_fz' rfl rfl) (rtL_nil))))
  conv => whnf
  injection H with H; subst H
  exact ret_fz [] (rtA_agg (rtL_cons (rt_nil) (rtL_cons (rt_nil) (rtL_nil))))
theorem impl_PlantIndexOf.l1_lpO {F : (Exit → St → Prop) → St → Prop} {hv : List Tmp} {Q : Exit → St → Prop} {σ : St} {r : (List ByteArray) × (List S_impl_PlantMark)} {k : Nat} {a0_0 : List ByteArray} {a0_1 : List S_impl_PlantFoe} {a0_2 : List S_impl_PlantPlace} {a0_3 : List S_impl_PlantValve} {l1 : List ByteArray} {x36 : Int} {x1040000_1 : List ByteArray} {x1040001_1 : List S_impl_PlantMark} (H : impl_PlantIndexOf.l1 k a0_0 a0_1 a0_2 a0_3 l1 x36 x1040000_1 x1040001_1 = some r) (rn : List (Option Nat)) (h1 : Fits σ σ [40, 80, 81] [(36, .int .i64 x36)] [(40, .box [.own 0 x1040000_1.length, .own 1 x1040001_1.length])] [.arr 9 1 (x1040000_1.map en_str), .arr 133 2 (x1040001_1.map en_S_impl_PlantMark)] rn)
    (h2 : ∀ (k0 : Nat) (x36 : Int) (x1040000_1 : List ByteArray) (x1040001_1 : List S_impl_PlantMark), k0 < k + 1 → impl_PlantIndexOf.l1 k0 a0_0 a0_1 a0_2 a0_3 l1 x36 x1040000_1 x1040001_1 = some r → headN σ hv [40, 80, 81] [(36, .int .i64 x36)] [(40, .box [.own 0 x1040000_1.length, .own 1 x1040001_1.length])] [.arr 9 1 (x1040000_1.map en_str), .arr 133 2 (x1040001_1.map en_S_impl_PlantMark)] (F (fun e σ' => match e with | .normal => ∃ (y : Nat × Int × (List ByteArray) × (List S_impl_PlantMark)) (rn : List (Option Nat)), (impl_PlantIndexOf.l1 y.1 a0_0 a0_1 a0_2 a0_3 l1 y.2.1 y.2.2.1 y.2.2.2 = some r ∧ y.1 < k + 1) ∧ y.1 < k0 ∧ Fits σ σ' [40, 80, 81] [(36, .int .i64 y.2.1)] [(40, .box [.own 0 y.2.2.1.length, .own 1 y.2.2.2.length])] [.arr 9 1 (y.2.2.1.map en_str), .arr 133 2 (y.2.2.2.map en_S_impl_PlantMark)] rn | e => Q e σ'))) : Lp F hv Q σ := by
  unfold Lp
  refine ⟨Nat × Int × (List ByteArray) × (List S_impl_PlantMark), fun x => impl_PlantIndexOf.l1 x.1 a0_0 a0_1 a0_2 a0_3 l1 x.2.1 x.2.2.1 x.2.2.2 = some r ∧ x.1 < k + 1, fun x => x.1, [40, 80, 81], fun x => [(36, .int .i64 x.2.1)], fun x => [(40, .box [.own 0 x.2.2.1.length, .own 1 x.2.2.2.length])], fun x => [.arr 9 1 (x.2.2.1.map en_str), .arr 133 2 (x.2.2.2.map en_S_impl_PlantMark)], ⟨(k, x36, x1040000_1, x1040001_1), rn, ⟨H, Nat.lt_succ_self _⟩, h1⟩, ?_⟩
  rintro ⟨k, x36, x1040000_1, x1040001_1⟩ ⟨H, hk⟩
  exact h2 k x36 x1040000_1 x1040001_1 hk H
theorem impl_PlantIndexOf.l0_lpO {F : (Exit → St → Prop) → St → Prop} {hv : List Tmp} {Q : Exit → St → Prop} {σ : St} {r : (List ByteArray) × (List S_impl_PlantMark)} {k : Nat} {a0_0 : List ByteArray} {a0_1 : List S_impl_PlantFoe} {a0_2 : List S_impl_PlantPlace} {a0_3 : List S_impl_PlantValve} {l1 : List ByteArray} {x17 : Int} {x1040000 : List ByteArray} {x1040001 : List S_impl_PlantMark} (H : impl_PlantIndexOf.l0 k a0_0 a0_1 a0_2 a0_3 l1 x17 x1040000 x1040001 = some r) (rn : List (Option Nat)) (h1 : Fits σ σ [40] [(17, .int .i64 x17)] [(40, .box [.own 0 x1040000.length, .own 1 x1040001.length])] [.arr 9 1 (x1040000.map en_str), .arr 133 2 (x1040001.map en_S_impl_PlantMark)] rn)
    (h2 : ∀ (k0 : Nat) (x17 : Int) (x1040000 : List ByteArray) (x1040001 : List S_impl_PlantMark), k0 < k + 1 → impl_PlantIndexOf.l0 k0 a0_0 a0_1 a0_2 a0_3 l1 x17 x1040000 x1040001 = some r → headN σ hv [40] [(17, .int .i64 x17)] [(40, .box [.own 0 x1040000.length, .own 1 x1040001.length])] [.arr 9 1 (x1040000.map en_str), .arr 133 2 (x1040001.map en_S_impl_PlantMark)] (F (fun e σ' => match e with | .normal => ∃ (y : Nat × Int × (List ByteArray) × (List S_impl_PlantMark)) (rn : List (Option Nat)), (impl_PlantIndexOf.l0 y.1 a0_0 a0_1 a0_2 a0_3 l1 y.2.1 y.2.2.1 y.2.2.2 = some r ∧ y.1 < k + 1) ∧ y.1 < k0 ∧ Fits σ σ' [40] [(17, .int .i64 y.2.1)] [(40, .box [.own 0 y.2.2.1.length, .own 1 y.2.2.2.length])] [.arr 9 1 (y.2.2.1.map en_str), .arr 133 2 (y.2.2.2.map en_S_impl_PlantMark)] rn | e => Q e σ'))) : Lp F hv Q σ := by
  unfold Lp
  refine ⟨Nat × Int × (List ByteArray) × (List S_impl_PlantMark), fun x => impl_PlantIndexOf.l0 x.1 a0_0 a0_1 a0_2 a0_3 l1 x.2.1 x.2.2.1 x.2.2.2 = some r ∧ x.1 < k + 1, fun x => x.1, [40], fun x => [(17, .int .i64 x.2.1)], fun x => [(40, .box [.own 0 x.2.2.1.length, .own 1 x.2.2.2.length])], fun x => [.arr 9 1 (x.2.2.1.map en_str), .arr 133 2 (x.2.2.2.map en_S_impl_PlantMark)], ⟨(k, x17, x1040000, x1040001), rn, ⟨H, Nat.lt_succ_self _⟩, h1⟩, ?_⟩
  rintro ⟨k, x17, x1040000, x1040001⟩ ⟨H, hk⟩
  exact h2 k x17 x1040000 x1040001 hk H
theorem impl_PlantIndexOf.acO {k : Nat} {a0_0 : List ByteArray} {a0_1 : List S_impl_PlantFoe} {a0_2 : List S_impl_PlantPlace} {a0_3 : List S_impl_PlantValve} {l1 : List ByteArray} {r : (List ByteArray) × (List S_impl_PlantMark)} (H : impl_PlantIndexOf.f k a0_0 a0_1 a0_2 a0_3 l1 = some r) : ACalls Try.prog G 42 [] [.agg [(sv_str a0_0), (sv_S_impl_PlantFoe a0_1), (sv_S_impl_PlantPlace a0_2), (sv_S_impl_PlantValve a0_3)], (sv_str l1)] [.arr 9 1 (r.1.map en_str), .arr 133 2 (r.2.map en_S_impl_PlantMark)] (.agg [.own 0 r.1.length, .own 1 r.2.length]) := by
  refine acalls_of tok hP Try.func42 rfl (by kernel_rfl) [.cell 4 65] rfl (by kernel_rfl) (Nat.le_of_ble_eq_true rfl) (.l .n (.l (.c .n .n) (.l .n (.l (.c .n (.l .n (.l .n (.c (.c .n (.c .n .n)) .n)))) (.l (.c .n (.l .n (.l .n (.c (.c .n .n) .n)))) .n))))) rfl ?_
  unfold impl_PlantIndexOf.f at H
  conv => whnf
  revert H; refine bind_elim (fun t1463 A H => ?_)
  refine call_mk (impl_PlantValid.ac A) (avAL_cons (avA_agg (avL_cons (av_shut' rfl) (avL_cons (av_shut' rfl) (avL_cons (av_shut' rfl) (avL_cons (av_shut' rfl) (avL_nil)))))) (avAL_nil)) (Or.inl rfl) rfl rfl (Nat.le_of_ble_eq_true rfl) ?_
  conv => whnf
  refine cut_ 40 [(1, (sv_str l1)), (2, .bp 0 0), (4, .bp 8 0), (12, .bool (!t1463))] [(0, .box [(sv_str a0_0), (sv_S_impl_PlantFoe a0_1), (sv_S_impl_PlantPlace a0_2), (sv_S_impl_PlantValve a0_3)]), (8, .box [.nil, .nil])] rfl ⟨.inl rfl, ⟨.inl rfl, ⟨.inl rfl, ⟨.inl rfl, trivial⟩⟩⟩⟩ ⟨rfl, ⟨rfl, trivial⟩⟩ ?_
  conv => whnf
  refine br_nt H (fun c H => ?_) (fun c H => ?_)
  conv => whnf
  refine cut_ 80 [(1, (sv_str l1)), (2, .bp 0 0), (4, .bp 8 0), (5, .bp 40 0), (15, (sv_S_impl_PlantValve a0_3)), (16, .int .i64 (a0_3.length : Int)), (17, .int .i64 0)] [(0, .box [(sv_str a0_0), (sv_S_impl_PlantFoe a0_1), (sv_S_impl_PlantPlace a0_2), (sv_S_impl_PlantValve a0_3)]), (8, .box [.nil, .nil]), (40, .box [.nil, .nil])] rfl ⟨.inl rfl, ⟨.inl rfl, ⟨.inl rfl, ⟨.inl rfl, ⟨.inl rfl, ⟨.inl rfl, ⟨.inl rfl, trivial⟩⟩⟩⟩⟩⟩⟩ ⟨rfl, ⟨rfl, ⟨rfl, trivial⟩⟩⟩ ?_
  conv => whnf
  refine impl_PlantIndexOf.l0_lpO (a0_0 := a0_0) (a0_1 := a0_1) (a0_2 := a0_2) (a0_3 := a0_3) (l1 := l1) (k := k) H [none, none] (fits_of ⟨.inl ⟨rfl, rfl⟩, trivial⟩ ⟨⟨_, _, rfl⟩, ⟨⟨_, _, rfl⟩, trivial⟩⟩ fi_ ⟨⟨_, rfl⟩, ⟨_, rfl, ⟨⟨rfl, rfl⟩, ⟨⟨rfl, rfl⟩, trivial⟩⟩⟩, trivial⟩ rfl) ?_
  intro k x17 x1040000 x1040001 hk H; rcases k with _ | k; exact none_elim H; rw [impl_PlantIndexOf.l0] at H; conv => whnf
  refine br_d H (fun c H => ?_) (fun c H => ?_)
  conv => whnf
  refine nd_ H (fun c H => ?_)
  conv => whnf
  refine Nd.mk nf_ ?_
  conv => whnf
  refine El.mk (rdm_en_S_impl_PlantValve _ _ nf_ nf_) ?_
  conv => whnf
  refine cut_ 122 [(1, (sv_str l1)), (2, .bp 0 0), (4, .bp 8 0), (5, .bp 40 0), (7, .bp 106 0), (15, (sv_S_impl_PlantValve a0_3)), (16, .int .i64 (a0_3.length : Int)), (17, .int .i64 x17)] [(0, .box [(sv_str a0_0), (sv_S_impl_PlantFoe a0_1), (sv_S_impl_PlantPlace a0_2), (sv_S_impl_PlantValve a0_3)]), (8, .box [.nil, .nil]), (40, .box [.own 80 x1040000.length, .own 81 x1040001.length]), (80, .arr 9 1 (x1040000.map en_str)), (81, .arr 133 2 (x1040001.map en_S_impl_PlantMark)), (106, .box [.str ((rd_impl_PlantValve a0_3 x17).f0), .str ((rd_impl_PlantValve a0_3 x17).f1), .str ((rd_impl_PlantValve a0_3 x17).f2), .str ((rd_impl_PlantValve a0_3 x17).f3)])] rfl ⟨.inl rfl, ⟨.inl rfl, ⟨.inl rfl, ⟨.inl rfl, ⟨.inl rfl, ⟨.inl rfl, ⟨.inl rfl, ⟨.inl rfl, trivial⟩⟩⟩⟩⟩⟩⟩⟩ ⟨rfl, ⟨rfl, ⟨rfl, ⟨rfl, ⟨rfl, ⟨rfl, trivial⟩⟩⟩⟩⟩⟩ ?_
  conv => whnf
  revert H; refine bind_elim (fun t1469 A H => ?_)
  refine call_mk (impl_has.ac A) (avAL_cons (avA_shut' rfl) (avAL_cons (avA_shut' rfl) (avAL_nil))) (Or.inl rfl) rfl rfl (Nat.le_of_ble_eq_true rfl) ?_
  conv => whnf
  refine cut_ 154 [(1, (sv_str l1)), (2, .bp 0 0), (4, .bp 8 0), (5, .bp 40 0), (7, .bp 106 0), (15, (sv_S_impl_PlantValve a0_3)), (16, .int .i64 (a0_3.length : Int)), (17, .int .i64 x17), (24, .bool t1469)] [(0, .box [(sv_str a0_0), (sv_S_impl_PlantFoe a0_1), (sv_S_impl_PlantPlace a0_2), (sv_S_impl_PlantValve a0_3)]), (8, .box [.nil, .nil]), (40, .box [.own 80 x1040000.length, .own 81 x1040001.length]), (80, .arr 9 1 (x1040000.map en_str)), (81, .arr 133 2 (x1040001.map en_S_impl_PlantMark)), (106, .box [.str ((rd_impl_PlantValve a0_3 x17).f0), .str ((rd_impl_PlantValve a0_3 x17).f1), .str ((rd_impl_PlantValve a0_3 x17).f2), .str ((rd_impl_PlantValve a0_3 x17).f3)])] rfl ⟨.inl rfl, ⟨.inl rfl, ⟨.inl rfl, ⟨.inl rfl, ⟨.inl rfl, ⟨.inl rfl, ⟨.inl rfl, ⟨.inl rfl, ⟨.inl rfl, trivial⟩⟩⟩⟩⟩⟩⟩⟩⟩ ⟨rfl, ⟨rfl, ⟨rfl, ⟨rfl, ⟨rfl, ⟨rfl, trivial⟩⟩⟩⟩⟩⟩ ?_
  conv => whnf
  refine br_t H (fun c H => ?_) (fun c H => ?_)
  conv => whnf
  refine nd_ H (fun c H => ?_)
  conv => whnf
  refine cut_ 218 [(1, (sv_str l1)), (2, .bp 0 0), (4, .bp 8 0), (5, .bp 40 0), (15, (sv_S_impl_PlantValve a0_3)), (16, .int .i64 (a0_3.length : Int)), (17, .int .i64 x17)] [(0, .box [(sv_str a0_0), (sv_S_impl_PlantFoe a0_1), (sv_S_impl_PlantPlace a0_2), (sv_S_impl_PlantValve a0_3)]), (8, .box [.nil, .nil]), (40, .box [.own 194 (x1040000.length + 1), .own 81 x1040001.length]), (81, .arr 133 2 (x1040001.map en_S_impl_PlantMark)), (194, .arr 9 1 ((x1040000 ++ ([(rd_impl_PlantValve a0_3 x17).f0] : List ByteArray)).map en_str))] rfl ⟨.inl rfl, ⟨.inl rfl, ⟨.inl rfl, ⟨.inl rfl, ⟨.inl rfl, ⟨.inl rfl, ⟨.inl rfl, trivial⟩⟩⟩⟩⟩⟩⟩ ⟨rfl, ⟨rfl, ⟨rfl, ⟨rfl, ⟨fm_, trivial⟩⟩⟩⟩⟩ ?_
  conv => whnf
  exact ⟨(k, wrap64 (x17 + 1), (x1040000 ++ ([(rd_impl_PlantValve a0_3 x17).f0] : List ByteArray)), x1040001), [some 194, some 81], ⟨H, lt_⟩, lt_, (fits_of ⟨.inl ⟨rfl, rfl⟩, trivial⟩ ⟨rfl, ⟨rfl, trivial⟩⟩ fi_ ⟨⟨_, rfl⟩, ⟨_, rfl, ⟨mt_own lm_, ⟨rfl, trivial⟩⟩⟩, trivial⟩ rfl)⟩
  conv => whnf
  refine cut_ 154 [(1, (sv_str l1)), (2, .bp 0 0), (4, .bp 8 0), (5, .bp 40 0), (15, (sv_S_impl_PlantValve a0_3)), (16, .int .i64 (a0_3.length : Int)), (17, .int .i64 x17)] [(0, .box [(sv_str a0_0), (sv_S_impl_PlantFoe a0_1), (sv_S_impl_PlantPlace a0_2), (sv_S_impl_PlantValve a0_3)]), (8, .box [.nil, .nil]), (40, .box [.own 80 x1040000.length, .own 81 x1040001.length]), (80, .arr 9 1 (x1040000.map en_str)), (81, .arr 133 2 (x1040001.map en_S_impl_PlantMark))] rfl ⟨.inl rfl, ⟨.inl rfl, ⟨.inl rfl, ⟨.inl rfl, ⟨.inl rfl, ⟨.inl rfl, ⟨.inl rfl, trivial⟩⟩⟩⟩⟩⟩⟩ ⟨rfl, ⟨rfl, ⟨rfl, ⟨rfl, ⟨rfl, trivial⟩⟩⟩⟩⟩ ?_
  conv => whnf
  exact ⟨(k, wrap64 (x17 + 1), x1040000, x1040001), [some 80, some 81], ⟨H, lt_⟩, lt_, (fits_of ⟨.inl ⟨rfl, rfl⟩, trivial⟩ ⟨rfl, ⟨rfl, trivial⟩⟩ fi_ ⟨⟨_, rfl⟩, ⟨_, rfl, ⟨rfl, ⟨rfl, trivial⟩⟩⟩, trivial⟩ rfl)⟩
  conv => whnf
  refine cut_ 122 [(2, .bp 0 0), (4, .bp 8 0), (5, .bp 40 0), (34, (sv_S_impl_PlantPlace a0_2)), (35, .int .i64 (a0_2.length : Int)), (36, .int .i64 0)] [(0, .box [(sv_str a0_0), (sv_S_impl_PlantFoe a0_1), (sv_S_impl_PlantPlace a0_2), (sv_S_impl_PlantValve a0_3)]), (8, .box [.nil, .nil]), (40, .box [.own 80 x1040000.length, .own 81 x1040001.length]), (80, .arr 9 1 (x1040000.map en_str)), (81, .arr 133 2 (x1040001.map en_S_impl_PlantMark))] rfl ⟨.inl rfl, ⟨.inl rfl, ⟨.inl rfl, ⟨.inl rfl, ⟨.inl rfl, ⟨.inl rfl, trivial⟩⟩⟩⟩⟩⟩ ⟨rfl, ⟨rfl, ⟨rfl, ⟨rfl, ⟨rfl, trivial⟩⟩⟩⟩⟩ ?_
  conv => whnf
  refine impl_PlantIndexOf.l1_lpO (a0_0 := a0_0) (a0_1 := a0_1) (a0_2 := a0_2) (a0_3 := a0_3) (l1 := l1) (k := k) H [some 80, some 81] (fits_of ⟨.inl ⟨rfl, rfl⟩, trivial⟩ ⟨rfl, ⟨rfl, trivial⟩⟩ fi_ ⟨⟨_, rfl⟩, ⟨_, rfl, ⟨rfl, ⟨rfl, trivial⟩⟩⟩, trivial⟩ rfl) ?_
  intro k x36 x1040000_1 x1040001_1 hk H; rcases k with _ | k; exact none_elim H; rw [impl_PlantIndexOf.l1] at H; conv => whnf
  refine br_d H (fun c H => ?_) (fun c H => ?_)
  conv => whnf
  refine nd_ H (fun c H => ?_)
  conv => whnf
  refine Nd.mk nf_ ?_
  conv => whnf
  refine El.mk (rdm_en_S_impl_PlantPlace _ _ nf_ nf_) ?_
  conv => whnf
  refine cut_ 164 [(2, .bp 0 0), (4, .bp 8 0), (5, .bp 40 0), (9, .bp 148 0), (34, (sv_S_impl_PlantPlace a0_2)), (35, .int .i64 (a0_2.length : Int)), (36, .int .i64 x36)] [(0, .box [(sv_str a0_0), (sv_S_impl_PlantFoe a0_1), (sv_S_impl_PlantPlace a0_2), (sv_S_impl_PlantValve a0_3)]), (8, .box [.nil, .nil]), (40, .box [.own 122 x1040000_1.length, .own 123 x1040001_1.length]), (122, .arr 9 1 (x1040000_1.map en_str)), (123, .arr 133 2 (x1040001_1.map en_S_impl_PlantMark)), (148, .box [.str ((rd_impl_PlantPlace a0_2 x36).f0), .int .i64 ((rd_impl_PlantPlace a0_2 x36).f1), .str ((rd_impl_PlantPlace a0_2 x36).f2)])] rfl ⟨.inl rfl, ⟨.inl rfl, ⟨.inl rfl, ⟨.inl rfl, ⟨.inl rfl, ⟨.inl rfl, ⟨.inl rfl, trivial⟩⟩⟩⟩⟩⟩⟩ ⟨rfl, ⟨rfl, ⟨rfl, ⟨rfl, ⟨rfl, ⟨rfl, trivial⟩⟩⟩⟩⟩⟩ ?_
  conv => whnf
  revert H; refine bind_elim (fun t1474 A H => ?_)
  refine call_mk (impl_group.acO A) (avAL_cons (avA_agg (avL_cons (av_shut' rfl) (avL_cons (av_shut' rfl) (avL_cons (av_shut' rfl) (avL_cons (av_shut' rfl) (avL_nil)))))) (avAL_cons (avA_own rfl rfl) (avAL_cons (avA_shut' rfl) (avAL_nil)))) (Or.inr ⟨rfl, bo_cons (bo_arr bare_en_str) (bo_nil)⟩) rfl rfl (Nat.le_of_ble_eq_true rfl) ?_
  conv => whnf
  refine Nd.mk (by decide) ?_
  conv => whnf
  refine nd_ H (fun c H => ?_)
  conv => whnf
  refine El.mk (rdm_en_str _ _ nf_ nf_) ?_
  conv => whnf
  refine nd_ H (fun c H => ?_)
  conv => whnf
  refine cut_ 300 [(2, .bp 0 0), (4, .bp 8 0), (5, .bp 40 0), (34, (sv_S_impl_PlantPlace a0_2)), (35, .int .i64 (a0_2.length : Int)), (36, .int .i64 x36)] [(0, .box [(sv_str a0_0), (sv_S_impl_PlantFoe a0_1), (sv_S_impl_PlantPlace a0_2), (sv_S_impl_PlantValve a0_3)]), (8, .box [.nil, .nil]), (40, .box [.own 122 x1040000_1.length, .own 276 (x1040001_1.length + 1)]), (122, .arr 9 1 (x1040000_1.map en_str)), (276, .arr 133 2 ((x1040001_1 ++ ([(⟨(rd_impl_PlantPlace a0_2 x36).f0, rdOf ByteArray.empty t1474 0⟩ : S_impl_PlantMark)] : List S_impl_PlantMark)).map en_S_impl_PlantMark))] rfl ⟨.inl rfl, ⟨.inl rfl, ⟨.inl rfl, ⟨.inl rfl, ⟨.inl rfl, ⟨.inl rfl, trivial⟩⟩⟩⟩⟩⟩ ⟨rfl, ⟨rfl, ⟨rfl, ⟨rfl, ⟨fm_, trivial⟩⟩⟩⟩⟩ ?_
  conv => whnf
  exact ⟨(k, wrap64 (x36 + 1), x1040000_1, (x1040001_1 ++ ([(⟨(rd_impl_PlantPlace a0_2 x36).f0, rdOf ByteArray.empty t1474 0⟩ : S_impl_PlantMark)] : List S_impl_PlantMark))), [some 122, some 276], ⟨H, lt_⟩, lt_, (fits_of ⟨.inl ⟨rfl, rfl⟩, trivial⟩ ⟨rfl, ⟨rfl, trivial⟩⟩ fi_ ⟨⟨_, rfl⟩, ⟨_, rfl, ⟨rfl, ⟨mt_own lm_, trivial⟩⟩⟩, trivial⟩ rfl)⟩
  conv => whnf
  injection H with H; subst H
  exact ret_gen [some 122, some 123] [] ((rtA_agg (rtL_cons (rfl) (rtL_cons (rfl) (rtL_nil))))) ⟨rfl, ⟨rfl, trivial⟩⟩ rfl
  conv => whnf
  injection H with H; subst H
  exact ret_gen [none, none] [] ((rtA_agg (rtL_cons (⟨rfl, rfl⟩) (rtL_cons (⟨rfl, rfl⟩) (rtL_nil))))) ⟨⟨_, _, rfl⟩, ⟨⟨_, _, rfl⟩, trivial⟩⟩ rfl
theorem impl_PlantTurn.ac {k : Nat} {a0_0 : List ByteArray} {a0_1 : List S_impl_PlantFoe} {a0_2 : List S_impl_PlantPlace} {a0_3 : List S_impl_PlantValve} {a1_0 : List ByteArray} {a1_1 : List S_impl_PlantMark} {a2 : ByteArray} {a3 : Bool} {r : (List ByteArray) × (List S_impl_PlantMark)} (H : impl_PlantTurn.f k a0_0 a0_1 a0_2 a0_3 a1_0 a1_1 a2 a3 = some r) : ACalls Try.prog G 49 [] [.agg [(sv_str a0_0), (sv_S_impl_PlantFoe a0_1), (sv_S_impl_PlantPlace a0_2), (sv_S_impl_PlantValve a0_3)], .agg [(sv_str a1_0), (sv_S_impl_PlantMark a1_1)], .str a2, .bool a3] [] (.agg [(sv_str r.1), (sv_S_impl_PlantMark r.2)]) := by
  refine acalls_of tok hP Try.func49 rfl (by kernel_rfl) [.cell 8 65] rfl (by kernel_rfl) (Nat.le_of_ble_eq_true rfl) (.l .n (.l .n (.c .n (.c .n .n)))) rfl ?_
  unfold impl_PlantTurn.f at H
  conv => whnf
  revert H; refine bind_elim (fun t1476 A H => ?_)
  refine call_mk (impl_without.acO A) (avAL_cons (avA_shut' rfl) (avAL_cons (avA_shut' rfl) (avAL_nil))) (Or.inl rfl) rfl rfl (Nat.le_of_ble_eq_true rfl) ?_
  conv => whnf
  refine br_t H (fun c H => ?_) (fun c H => ?_)
  conv => whnf
  refine nd_ H (fun c H => ?_)
  conv => whnf
  refine cut_ 112 [(4, .bp 0 0), (8, .bp 16 0), (9, .own 96 (t1476.length + 1))] [(0, .box [(sv_str a0_0), (sv_S_impl_PlantFoe a0_1), (sv_S_impl_PlantPlace a0_2), (sv_S_impl_PlantValve a0_3)]), (16, .box [.nil, .nil]), (96, .arr 9 1 ((t1476 ++ ([a2] : List ByteArray)).map en_str))] rfl ⟨.inl rfl, ⟨.inl rfl, ⟨.inl rfl, trivial⟩⟩⟩ ⟨rfl, ⟨rfl, ⟨fm_, trivial⟩⟩⟩ ?_
  conv => whnf
  revert H; refine bind_elim (fun t1479 A H => ?_)
  refine call_mk (impl_PlantIndexOf.acO A) (avAL_cons (avA_agg (avL_cons (av_shut' rfl) (avL_cons (av_shut' rfl) (avL_cons (av_shut' rfl) (avL_cons (av_shut' rfl) (avL_nil)))))) (avAL_cons (avA_ownX rfl rfl lm_ lm_) (avAL_nil))) (Or.inr ⟨rfl, bo_cons (bo_arr bare_en_str) (bo_cons (bo_arr bare_en_S_impl_PlantMark) (bo_nil))⟩) rfl rfl (Nat.le_of_ble_eq_true rfl) ?_
  conv => whnf
  refine cut_ 144 [(8, .bp 16 0)] [(16, .box [.own 128 t1479.1.length, .own 129 t1479.2.length]), (128, .arr 9 1 (t1479.1.map en_str)), (129, .arr 133 2 (t1479.2.map en_S_impl_PlantMark))] rfl ⟨.inl rfl, trivial⟩ ⟨rfl, ⟨rfl, ⟨rfl, trivial⟩⟩⟩ ?_
  conv => whnf
  injection H with H; subst H
  exact ret_fz [128, 129] (rtA_agg (rtL_cons (rt_fz' rfl rfl) (rtL_cons (rt_fz' rfl rfl) (rtL_nil))))
  conv => whnf
  refine cut_ 72 [(4, .bp 0 0), (8, .bp 16 0), (9, .own 48 t1476.length)] [(0, .box [(sv_str a0_0), (sv_S_impl_PlantFoe a0_1), (sv_S_impl_PlantPlace a0_2), (sv_S_impl_PlantValve a0_3)]), (16, .box [.nil, .nil]), (48, .arr 9 1 (t1476.map en_str))] rfl ⟨.inl rfl, ⟨.inl rfl, ⟨.inl rfl, trivial⟩⟩⟩ ⟨rfl, ⟨rfl, ⟨rfl, trivial⟩⟩⟩ ?_
  conv => whnf
  revert H; refine bind_elim (fun t1480 A H => ?_)
  refine call_mk (impl_PlantIndexOf.acO A) (avAL_cons (avA_agg (avL_cons (av_shut' rfl) (avL_cons (av_shut' rfl) (avL_cons (av_shut' rfl) (avL_cons (av_shut' rfl) (avL_nil)))))) (avAL_cons (avA_own rfl rfl) (avAL_nil))) (Or.inr ⟨rfl, bo_cons (bo_arr bare_en_str) (bo_cons (bo_arr bare_en_S_impl_PlantMark) (bo_nil))⟩) rfl rfl (Nat.le_of_ble_eq_true rfl) ?_
  conv => whnf
  refine cut_ 104 [(8, .bp 16 0)] [(16, .box [.own 88 t1480.1.length, .own 89 t1480.2.length]), (88, .arr 9 1 (t1480.1.map en_str)), (89, .arr 133 2 (t1480.2.map en_S_impl_PlantMark))] rfl ⟨.inl rfl, trivial⟩ ⟨rfl, ⟨rfl, ⟨rfl, trivial⟩⟩⟩ ?_
  conv => whnf
  injection H with H; subst H
  exact ret_fz [88, 89] (rtA_agg (rtL_cons (rt_fz' rfl rfl) (rtL_cons (rt_fz' rfl rfl) (rtL_nil))))
theorem impl_PlantTurn.acO {k : Nat} {a0_0 : List ByteArray} {a0_1 : List S_impl_PlantFoe} {a0_2 : List S_impl_PlantPlace} {a0_3 : List S_impl_PlantValve} {a1_0 : List ByteArray} {a1_1 : List S_impl_PlantMark} {a2 : ByteArray} {a3 : Bool} {r : (List ByteArray) × (List S_impl_PlantMark)} (H : impl_PlantTurn.f k a0_0 a0_1 a0_2 a0_3 a1_0 a1_1 a2 a3 = some r) : ACalls Try.prog G 49 [] [.agg [(sv_str a0_0), (sv_S_impl_PlantFoe a0_1), (sv_S_impl_PlantPlace a0_2), (sv_S_impl_PlantValve a0_3)], .agg [(sv_str a1_0), (sv_S_impl_PlantMark a1_1)], .str a2, .bool a3] [.arr 9 1 (r.1.map en_str), .arr 133 2 (r.2.map en_S_impl_PlantMark)] (.agg [.own 0 r.1.length, .own 1 r.2.length]) := by
  refine acalls_of tok hP Try.func49 rfl (by kernel_rfl) [.cell 8 65] rfl (by kernel_rfl) (Nat.le_of_ble_eq_true rfl) (.l .n (.l .n (.c .n (.c .n .n)))) rfl ?_
  unfold impl_PlantTurn.f at H
  conv => whnf
  revert H; refine bind_elim (fun t2978 A H => ?_)
  refine call_mk (impl_without.acO A) (avAL_cons (avA_shut' rfl) (avAL_cons (avA_shut' rfl) (avAL_nil))) (Or.inl rfl) rfl rfl (Nat.le_of_ble_eq_true rfl) ?_
  conv => whnf
  refine br_t H (fun c H => ?_) (fun c H => ?_)
  conv => whnf
  refine nd_ H (fun c H => ?_)
  conv => whnf
  refine cut_ 112 [(4, .bp 0 0), (8, .bp 16 0), (9, .own 96 (t2978.length + 1))] [(0, .box [(sv_str a0_0), (sv_S_impl_PlantFoe a0_1), (sv_S_impl_PlantPlace a0_2), (sv_S_impl_PlantValve a0_3)]), (16, .box [.nil, .nil]), (96, .arr 9 1 ((t2978 ++ ([a2] : List ByteArray)).map en_str))] rfl ⟨.inl rfl, ⟨.inl rfl, ⟨.inl rfl, trivial⟩⟩⟩ ⟨rfl, ⟨rfl, ⟨fm_, trivial⟩⟩⟩ ?_
  conv => whnf
  revert H; refine bind_elim (fun t2981 A H => ?_)
  refine call_mk (impl_PlantIndexOf.acO A) (avAL_cons (avA_agg (avL_cons (av_shut' rfl) (avL_cons (av_shut' rfl) (avL_cons (av_shut' rfl) (avL_cons (av_shut' rfl) (avL_nil)))))) (avAL_cons (avA_ownX rfl rfl lm_ lm_) (avAL_nil))) (Or.inr ⟨rfl, bo_cons (bo_arr bare_en_str) (bo_cons (bo_arr bare_en_S_impl_PlantMark) (bo_nil))⟩) rfl rfl (Nat.le_of_ble_eq_true rfl) ?_
  conv => whnf
  refine cut_ 144 [(8, .bp 16 0)] [(16, .box [.own 128 t2981.1.length, .own 129 t2981.2.length]), (128, .arr 9 1 (t2981.1.map en_str)), (129, .arr 133 2 (t2981.2.map en_S_impl_PlantMark))] rfl ⟨.inl rfl, trivial⟩ ⟨rfl, ⟨rfl, ⟨rfl, trivial⟩⟩⟩ ?_
  conv => whnf
  injection H with H; subst H
  exact ret_gen [some 128, some 129] [] ((rtA_agg (rtL_cons (rfl) (rtL_cons (rfl) (rtL_nil))))) ⟨rfl, ⟨rfl, trivial⟩⟩ rfl
  conv => whnf
  refine cut_ 72 [(4, .bp 0 0), (8, .bp 16 0), (9, .own 48 t2978.length)] [(0, .box [(sv_str a0_0), (sv_S_impl_PlantFoe a0_1), (sv_S_impl_PlantPlace a0_2), (sv_S_impl_PlantValve a0_3)]), (16, .box [.nil, .nil]), (48, .arr 9 1 (t2978.map en_str))] rfl ⟨.inl rfl, ⟨.inl rfl, ⟨.inl rfl, trivial⟩⟩⟩ ⟨rfl, ⟨rfl, ⟨rfl, trivial⟩⟩⟩ ?_
  conv => whnf
  revert H; refine bind_elim (fun t2982 A H => ?_)
  refine call_mk (impl_PlantIndexOf.acO A) (avAL_cons (avA_agg (avL_cons (av_shut' rfl) (avL_cons (av_shut' rfl) (avL_cons (av_shut' rfl) (avL_cons (av_shut' rfl) (avL_nil)))))) (avAL_cons (avA_own rfl rfl) (avAL_nil))) (Or.inr ⟨rfl, bo_cons (bo_arr bare_en_str) (bo_cons (bo_arr bare_en_S_impl_PlantMark) (bo_nil))⟩) rfl rfl (Nat.le_of_ble_eq_true rfl) ?_
  conv => whnf
  refine cut_ 104 [(8, .bp 16 0)] [(16, .box [.own 88 t2982.1.length, .own 89 t2982.2.length]), (88, .arr 9 1 (t2982.1.map en_str)), (89, .arr 133 2 (t2982.2.map en_S_impl_PlantMark))] rfl ⟨.inl rfl, trivial⟩ ⟨rfl, ⟨rfl, ⟨rfl, trivial⟩⟩⟩ ?_
  conv => whnf
  injection H with H; subst H
  exact ret_gen [some 88, some 89] [] ((rtA_agg (rtL_cons (rfl) (rtL_cons (rfl) (rtL_nil))))) ⟨rfl, ⟨rfl, trivial⟩⟩ rfl
theorem laws_eqStringS.l0_lp {F : (Exit → St → Prop) → St → Prop} {hv : List Tmp} {Q : Exit → St → Prop} {σ : St} {r : Bool} {k : Nat} {l0 : List ByteArray} {l1 : List ByteArray} {x5 : Int} (H : laws_eqStringS.l0 k l0 l1 x5 = some r) (rn : List (Option Nat)) (h1 : Fits σ σ [] [(5, .int .i64 x5)] [] [] rn)
    (h2 : ∀ (k0 : Nat) (x5 : Int), k0 < k + 1 → laws_eqStringS.l0 k0 l0 l1 x5 = some r → headN σ hv [] [(5, .int .i64 x5)] [] [] (F (fun e σ' => match e with | .normal => ∃ (y : Nat × Int) (rn : List (Option Nat)), (laws_eqStringS.l0 y.1 l0 l1 y.2 = some r ∧ y.1 < k + 1) ∧ y.1 < k0 ∧ Fits σ σ' [] [(5, .int .i64 y.2)] [] [] rn | e => Q e σ'))) : Lp F hv Q σ := by
  unfold Lp
  refine ⟨Nat × Int, fun x => laws_eqStringS.l0 x.1 l0 l1 x.2 = some r ∧ x.1 < k + 1, fun x => x.1, [], fun x => [(5, .int .i64 x.2)], fun x => [], fun x => [], ⟨(k, x5), rn, ⟨H, Nat.lt_succ_self _⟩, h1⟩, ?_⟩
  rintro ⟨k, x5⟩ ⟨H, hk⟩
  exact h2 k x5 hk H
theorem laws_eqStringS.ac {k : Nat} {l0 : List ByteArray} {l1 : List ByteArray} {r : Bool} (H : laws_eqStringS.f k l0 l1 = some r) : ACalls Try.prog G 18 [] [(sv_str l0), (sv_str l1)] [] (.bool r) := by
  refine acalls_of tok hP Try.func18 rfl (by kernel_rfl) [.tmp 4] rfl (by kernel_rfl) (Nat.le_of_ble_eq_true rfl) (.l .n (.l .n (.l (.l .n (.l (.c .n .n) (.l (.l .n (.l (.c .n .n) .n)) .n))) .n))) rfl ?_
  unfold laws_eqStringS.f at H
  conv => whnf
  refine br_nd H (fun c H => ?_) (fun c H => ?_)
  conv => whnf
  refine laws_eqStringS.l0_lp (l0 := l0) (l1 := l1) (k := k) H [] (fits_of ⟨.inl ⟨rfl, rfl⟩, trivial⟩ trivial fi_ trivial rfl) ?_
  intro k x5 hk H; rcases k with _ | k; exact none_elim H; rw [laws_eqStringS.l0] at H; conv => whnf
  refine cut_ 88 [(0, (sv_str l0)), (1, (sv_str l1)), (5, .int .i64 x5), (14, .bool (decide (x5 < (l0.length : Int))))] [] rfl ⟨.inl rfl, ⟨.inl rfl, ⟨.inl rfl, ⟨.inl rfl, trivial⟩⟩⟩⟩ trivial ?_
  conv => whnf
  refine br_d H (fun c H => ?_) (fun c H => ?_)
  conv => whnf
  refine nd_ H (fun c H => ?_)
  conv => whnf
  refine Nd.mk nf_ ?_
  conv => whnf
  refine El.mk (rdm_en_str _ _ nf_ nf_) ?_
  conv => whnf
  refine Nd.mk nf_ ?_
  conv => whnf
  refine nd_ H (fun c H => ?_)
  conv => whnf
  refine El.mk (rdm_en_str _ _ nf_ nf_) ?_
  conv => whnf
  refine br_nd H (fun c H => ?_) (fun c H => ?_)
  conv => whnf
  exact ⟨(k, wrap64 (x5 + 1)), [], ⟨H, lt_⟩, lt_, (fits_of ⟨.inl ⟨rfl, rfl⟩, trivial⟩ trivial fi_ trivial rfl)⟩
  conv => whnf
  refine cut_ 168 [(4, .bool false)] [] rfl ⟨.inl rfl, trivial⟩ trivial ?_
  conv => whnf
  injection H with H; subst H
  exact ret_fz [] (rtA_eq rfl)
  conv => whnf
  injection H with H; subst H
  exact ret_fz [] (rtA_eq rfl)
  conv => whnf
  injection H with H; subst H
  exact ret_fz [] (rtA_eq rfl)
theorem laws_eqPlantMark.ac {a0_0 : ByteArray} {a0_1 : ByteArray} {a1_0 : ByteArray} {a1_1 : ByteArray} {r : Bool} (H : laws_eqPlantMark.f a0_0 a0_1 a1_0 a1_1 = some r) : ACalls Try.prog G 167 [] [.agg [.str a0_0, .str a0_1], .agg [.str a1_0, .str a1_1]] [] (.bool r) := by
  refine acalls_of tok hP Try.func167 rfl (by kernel_rfl) [.tmp 4] rfl (by kernel_rfl) (Nat.le_of_ble_eq_true rfl) (.l .n (.l .n (.l (.c .n .n) .n))) rfl ?_
  unfold laws_eqPlantMark.f at H
  conv => whnf
  refine br_nd H (fun c H => ?_) (fun c H => ?_)
  conv => whnf
  refine cut_ 104 [(14, .bool (!(decide (a0_1.toList = a1_1.toList))))] [] rfl ⟨.inl rfl, trivial⟩ trivial ?_
  conv => whnf
  refine br_nd H (fun c H => ?_) (fun c H => ?_)
  conv => whnf
  injection H with H; subst H
  exact ret_fz [] (rtA_eq rfl)
  conv => whnf
  injection H with H; subst H
  exact ret_fz [] (rtA_eq rfl)
  conv => whnf
  injection H with H; subst H
  exact ret_fz [] (rtA_eq rfl)
theorem laws_eqPlantMarkS.l0_lp {F : (Exit → St → Prop) → St → Prop} {hv : List Tmp} {Q : Exit → St → Prop} {σ : St} {r : Bool} {k : Nat} {l0 : List S_impl_PlantMark} {l1 : List S_impl_PlantMark} {x5 : Int} (H : laws_eqPlantMarkS.l0 k l0 l1 x5 = some r) (rn : List (Option Nat)) (h1 : Fits σ σ [] [(5, .int .i64 x5)] [] [] rn)
    (h2 : ∀ (k0 : Nat) (x5 : Int), k0 < k + 1 → laws_eqPlantMarkS.l0 k0 l0 l1 x5 = some r → headN σ hv [] [(5, .int .i64 x5)] [] [] (F (fun e σ' => match e with | .normal => ∃ (y : Nat × Int) (rn : List (Option Nat)), (laws_eqPlantMarkS.l0 y.1 l0 l1 y.2 = some r ∧ y.1 < k + 1) ∧ y.1 < k0 ∧ Fits σ σ' [] [(5, .int .i64 y.2)] [] [] rn | e => Q e σ'))) : Lp F hv Q σ := by
  unfold Lp
  refine ⟨Nat × Int, fun x => laws_eqPlantMarkS.l0 x.1 l0 l1 x.2 = some r ∧ x.1 < k + 1, fun x => x.1, [], fun x => [(5, .int .i64 x.2)], fun x => [], fun x => [], ⟨(k, x5), rn, ⟨H, Nat.lt_succ_self _⟩, h1⟩, ?_⟩
  rintro ⟨k, x5⟩ ⟨H, hk⟩
  exact h2 k x5 hk H
theorem laws_eqPlantMarkS.ac {k : Nat} {l0 : List S_impl_PlantMark} {l1 : List S_impl_PlantMark} {r : Bool} (H : laws_eqPlantMarkS.f k l0 l1 = some r) : ACalls Try.prog G 106 [] [(sv_S_impl_PlantMark l0), (sv_S_impl_PlantMark l1)] [] (.bool r) := by
  refine acalls_of tok hP Try.func106 rfl (by kernel_rfl) [.tmp 4] rfl (by kernel_rfl) (Nat.le_of_ble_eq_true rfl) (.l .n (.l .n (.l (.l .n (.l (.c .n .n) (.l (.c .n .n) .n))) .n))) rfl ?_
  unfold laws_eqPlantMarkS.f at H
  conv => whnf
  refine br_nd H (fun c H => ?_) (fun c H => ?_)
  conv => whnf
  refine laws_eqPlantMarkS.l0_lp (l0 := l0) (l1 := l1) (k := k) H [] (fits_of ⟨.inl ⟨rfl, rfl⟩, trivial⟩ trivial fi_ trivial rfl) ?_
  intro k x5 hk H; rcases k with _ | k; exact none_elim H; rw [laws_eqPlantMarkS.l0] at H; conv => whnf
  refine cut_ 88 [(0, (sv_S_impl_PlantMark l0)), (1, (sv_S_impl_PlantMark l1)), (5, .int .i64 x5), (14, .bool (decide (x5 < (l0.length : Int))))] [] rfl ⟨.inl rfl, ⟨.inl rfl, ⟨.inl rfl, ⟨.inl rfl, trivial⟩⟩⟩⟩ trivial ?_
  conv => whnf
  refine br_d H (fun c H => ?_) (fun c H => ?_)
  conv => whnf
  refine nd_ H (fun c H => ?_)
  conv => whnf
  refine Nd.mk nf_ ?_
  conv => whnf
  refine El.mk (rdm_en_S_impl_PlantMark _ _ nf_ nf_) ?_
  conv => whnf
  refine Nd.mk nf_ ?_
  conv => whnf
  refine nd_ H (fun c H => ?_)
  conv => whnf
  refine El.mk (rdm_en_S_impl_PlantMark _ _ nf_ nf_) ?_
  conv => whnf
  revert H; refine bind_elim (fun t1594 A H => ?_)
  refine call_mk (laws_eqPlantMark.ac A) (avAL_cons (avA_agg (avL_cons (av_shut' rfl) (avL_cons (av_shut' rfl) (avL_nil)))) (avAL_cons (avA_agg (avL_cons (av_shut' rfl) (avL_cons (av_shut' rfl) (avL_nil)))) (avAL_nil))) (Or.inl rfl) rfl rfl (Nat.le_of_ble_eq_true rfl) ?_
  conv => whnf
  refine cut_ 168 [(0, (sv_S_impl_PlantMark l0)), (1, (sv_S_impl_PlantMark l1)), (5, .int .i64 x5), (26, .bool (!t1594))] [] rfl ⟨.inl rfl, ⟨.inl rfl, ⟨.inl rfl, ⟨.inl rfl, trivial⟩⟩⟩⟩ trivial ?_
  conv => whnf
  refine br_nt H (fun c H => ?_) (fun c H => ?_)
  conv => whnf
  exact ⟨(k, wrap64 (x5 + 1)), [], ⟨H, lt_⟩, lt_, (fits_of ⟨.inl ⟨rfl, rfl⟩, trivial⟩ trivial fi_ trivial rfl)⟩
  conv => whnf
  injection H with H; subst H
  exact ret_fz [] (rtA_eq rfl)
  conv => whnf
  injection H with H; subst H
  exact ret_fz [] (rtA_eq rfl)
  conv => whnf
  injection H with H; subst H
  exact ret_fz [] (rtA_eq rfl)
theorem laws_eqPlantIndex.ac {k : Nat} {a0_0 : List ByteArray} {a0_1 : List S_impl_PlantMark} {a1_0 : List ByteArray} {a1_1 : List S_impl_PlantMark} {r : Bool} (H : laws_eqPlantIndex.f k a0_0 a0_1 a1_0 a1_1 = some r) : ACalls Try.prog G 43 [] [.agg [(sv_str a0_0), (sv_S_impl_PlantMark a0_1)], .agg [(sv_str a1_0), (sv_S_impl_PlantMark a1_1)]] [] (.bool r) := by
  refine acalls_of tok hP Try.func43 rfl (by kernel_rfl) [.tmp 4] rfl (by kernel_rfl) (Nat.le_of_ble_eq_true rfl) (.l .n (.l (.l .n (.l (.c .n .n) .n)) (.l (.c .n .n) .n))) rfl ?_
  unfold laws_eqPlantIndex.f at H
  conv => whnf
  revert H; refine bind_elim (fun t1597 A H => ?_)
  refine call_mk (laws_eqStringS.ac A) (avAL_cons (avA_shut' rfl) (avAL_cons (avA_shut' rfl) (avAL_nil))) (Or.inl rfl) rfl rfl (Nat.le_of_ble_eq_true rfl) ?_
  conv => whnf
  refine br_nt H (fun c H => ?_) (fun c H => ?_)
  conv => whnf
  revert H; refine bind_elim (fun t1600 A H => ?_)
  refine call_mk (laws_eqPlantMarkS.ac A) (avAL_cons (avA_shut' rfl) (avAL_cons (avA_shut' rfl) (avAL_nil))) (Or.inl rfl) rfl rfl (Nat.le_of_ble_eq_true rfl) ?_
  conv => whnf
  refine cut_ 120 [(16, .bool (!t1600))] [] rfl ⟨.inl rfl, trivial⟩ trivial ?_
  conv => whnf
  refine br_nt H (fun c H => ?_) (fun c H => ?_)
  conv => whnf
  injection H with H; subst H
  exact ret_fz [] (rtA_eq rfl)
  conv => whnf
  injection H with H; subst H
  exact ret_fz [] (rtA_eq rfl)
  conv => whnf
  refine cut_ 80 [(4, .bool false)] [] rfl ⟨.inl rfl, trivial⟩ trivial ?_
  conv => whnf
  injection H with H; subst H
  exact ret_fz [] (rtA_eq rfl)
theorem laws_eqPlantFoe.ac {a0_0 : ByteArray} {a0_1 : ByteArray} {a1_0 : ByteArray} {a1_1 : ByteArray} {r : Bool} (H : laws_eqPlantFoe.f a0_0 a0_1 a1_0 a1_1 = some r) : ACalls Try.prog G 159 [] [.agg [.str a0_0, .str a0_1], .agg [.str a1_0, .str a1_1]] [] (.bool r) := by
  refine acalls_of tok hP Try.func159 rfl (by kernel_rfl) [.tmp 4] rfl (by kernel_rfl) (Nat.le_of_ble_eq_true rfl) (.l .n (.l .n (.l (.c .n .n) .n))) rfl ?_
  unfold laws_eqPlantFoe.f at H
  conv => whnf
  refine br_nd H (fun c H => ?_) (fun c H => ?_)
  conv => whnf
  refine cut_ 104 [(14, .bool (!(decide (a0_1.toList = a1_1.toList))))] [] rfl ⟨.inl rfl, trivial⟩ trivial ?_
  conv => whnf
  refine br_nd H (fun c H => ?_) (fun c H => ?_)
  conv => whnf
  injection H with H; subst H
  exact ret_fz [] (rtA_eq rfl)
  conv => whnf
  injection H with H; subst H
  exact ret_fz [] (rtA_eq rfl)
  conv => whnf
  injection H with H; subst H
  exact ret_fz [] (rtA_eq rfl)
theorem laws_eqPlantFoeS.l0_lp {F : (Exit → St → Prop) → St → Prop} {hv : List Tmp} {Q : Exit → St → Prop} {σ : St} {r : Bool} {k : Nat} {l0 : List S_impl_PlantFoe} {l1 : List S_impl_PlantFoe} {x5 : Int} (H : laws_eqPlantFoeS.l0 k l0 l1 x5 = some r) (rn : List (Option Nat)) (h1 : Fits σ σ [] [(5, .int .i64 x5)] [] [] rn)
    (h2 : ∀ (k0 : Nat) (x5 : Int), k0 < k + 1 → laws_eqPlantFoeS.l0 k0 l0 l1 x5 = some r → headN σ hv [] [(5, .int .i64 x5)] [] [] (F (fun e σ' => match e with | .normal => ∃ (y : Nat × Int) (rn : List (Option Nat)), (laws_eqPlantFoeS.l0 y.1 l0 l1 y.2 = some r ∧ y.1 < k + 1) ∧ y.1 < k0 ∧ Fits σ σ' [] [(5, .int .i64 y.2)] [] [] rn | e => Q e σ'))) : Lp F hv Q σ := by
  unfold Lp
  refine ⟨Nat × Int, fun x => laws_eqPlantFoeS.l0 x.1 l0 l1 x.2 = some r ∧ x.1 < k + 1, fun x => x.1, [], fun x => [(5, .int .i64 x.2)], fun x => [], fun x => [], ⟨(k, x5), rn, ⟨H, Nat.lt_succ_self _⟩, h1⟩, ?_⟩
  rintro ⟨k, x5⟩ ⟨H, hk⟩
  exact h2 k x5 hk H
theorem laws_eqPlantFoeS.ac {k : Nat} {l0 : List S_impl_PlantFoe} {l1 : List S_impl_PlantFoe} {r : Bool} (H : laws_eqPlantFoeS.f k l0 l1 = some r) : ACalls Try.prog G 91 [] [(sv_S_impl_PlantFoe l0), (sv_S_impl_PlantFoe l1)] [] (.bool r) := by
  refine acalls_of tok hP Try.func91 rfl (by kernel_rfl) [.tmp 4] rfl (by kernel_rfl) (Nat.le_of_ble_eq_true rfl) (.l .n (.l .n (.l (.l .n (.l (.c .n .n) (.l (.c .n .n) .n))) .n))) rfl ?_
  unfold laws_eqPlantFoeS.f at H
  conv => whnf
  refine br_nd H (fun c H => ?_) (fun c H => ?_)
  conv => whnf
  refine laws_eqPlantFoeS.l0_lp (l0 := l0) (l1 := l1) (k := k) H [] (fits_of ⟨.inl ⟨rfl, rfl⟩, trivial⟩ trivial fi_ trivial rfl) ?_
  intro k x5 hk H; rcases k with _ | k; exact none_elim H; rw [laws_eqPlantFoeS.l0] at H; conv => whnf
  refine cut_ 88 [(0, (sv_S_impl_PlantFoe l0)), (1, (sv_S_impl_PlantFoe l1)), (5, .int .i64 x5), (14, .bool (decide (x5 < (l0.length : Int))))] [] rfl ⟨.inl rfl, ⟨.inl rfl, ⟨.inl rfl, ⟨.inl rfl, trivial⟩⟩⟩⟩ trivial ?_
  conv => whnf
  refine br_d H (fun c H => ?_) (fun c H => ?_)
  conv => whnf
  refine nd_ H (fun c H => ?_)
  conv => whnf
  refine Nd.mk nf_ ?_
  conv => whnf
  refine El.mk (rdm_en_S_impl_PlantFoe _ _ nf_ nf_) ?_
  conv => whnf
  refine Nd.mk nf_ ?_
  conv => whnf
  refine nd_ H (fun c H => ?_)
  conv => whnf
  refine El.mk (rdm_en_S_impl_PlantFoe _ _ nf_ nf_) ?_
  conv => whnf
  revert H; refine bind_elim (fun t1700 A H => ?_)
  refine call_mk (laws_eqPlantFoe.ac A) (avAL_cons (avA_agg (avL_cons (av_shut' rfl) (avL_cons (av_shut' rfl) (avL_nil)))) (avAL_cons (avA_agg (avL_cons (av_shut' rfl) (avL_cons (av_shut' rfl) (avL_nil)))) (avAL_nil))) (Or.inl rfl) rfl rfl (Nat.le_of_ble_eq_true rfl) ?_
  conv => whnf
  refine cut_ 168 [(0, (sv_S_impl_PlantFoe l0)), (1, (sv_S_impl_PlantFoe l1)), (5, .int .i64 x5), (26, .bool (!t1700))] [] rfl ⟨.inl rfl, ⟨.inl rfl, ⟨.inl rfl, ⟨.inl rfl, trivial⟩⟩⟩⟩ trivial ?_
  conv => whnf
  refine br_nt H (fun c H => ?_) (fun c H => ?_)
  conv => whnf
  exact ⟨(k, wrap64 (x5 + 1)), [], ⟨H, lt_⟩, lt_, (fits_of ⟨.inl ⟨rfl, rfl⟩, trivial⟩ trivial fi_ trivial rfl)⟩
  conv => whnf
  injection H with H; subst H
  exact ret_fz [] (rtA_eq rfl)
  conv => whnf
  injection H with H; subst H
  exact ret_fz [] (rtA_eq rfl)
  conv => whnf
  injection H with H; subst H
  exact ret_fz [] (rtA_eq rfl)
theorem laws_eqPlantPlace.ac {a0_0 : ByteArray} {a0_1 : Int} {a0_2 : ByteArray} {a1_0 : ByteArray} {a1_1 : Int} {a1_2 : ByteArray} {r : Bool} (H : laws_eqPlantPlace.f a0_0 a0_1 a0_2 a1_0 a1_1 a1_2 = some r) : ACalls Try.prog G 160 [] [.agg [.str a0_0, .int .i64 a0_1, .str a0_2], .agg [.str a1_0, .int .i64 a1_1, .str a1_2]] [] (.bool r) := by
  refine acalls_of tok hP Try.func160 rfl (by kernel_rfl) [.tmp 4] rfl (by kernel_rfl) (Nat.le_of_ble_eq_true rfl) (.l .n (.l .n (.l (.c .n .n) .n))) rfl ?_
  unfold laws_eqPlantPlace.f at H
  conv => whnf
  refine br_nd H (fun c H => ?_) (fun c H => ?_)
  conv => whnf
  refine cut_ 104 [(2, .bp 0 0), (3, .bp 8 0), (14, .bool (!(decide (a0_1 = a1_1))))] [(0, .box [.str a0_0, .int .i64 a0_1, .str a0_2]), (8, .box [.str a1_0, .int .i64 a1_1, .str a1_2])] rfl ⟨.inl rfl, ⟨.inl rfl, ⟨.inl rfl, trivial⟩⟩⟩ ⟨rfl, ⟨rfl, trivial⟩⟩ ?_
  conv => whnf
  refine br_nd H (fun c H => ?_) (fun c H => ?_)
  conv => whnf
  refine br_nd H (fun c H => ?_) (fun c H => ?_)
  conv => whnf
  injection H with H; subst H
  exact ret_fz [] (rtA_eq rfl)
  conv => whnf
  injection H with H; subst H
  exact ret_fz [] (rtA_eq rfl)
  conv => whnf
  injection H with H; subst H
  exact ret_fz [] (rtA_eq rfl)
  conv => whnf
  injection H with H; subst H
  exact ret_fz [] (rtA_eq rfl)
theorem laws_eqPlantPlaceS.l0_lp {F : (Exit → St → Prop) → St → Prop} {hv : List Tmp} {Q : Exit → St → Prop} {σ : St} {r : Bool} {k : Nat} {l0 : List S_impl_PlantPlace} {l1 : List S_impl_PlantPlace} {x5 : Int} (H : laws_eqPlantPlaceS.l0 k l0 l1 x5 = some r) (rn : List (Option Nat)) (h1 : Fits σ σ [] [(5, .int .i64 x5)] [] [] rn)
    (h2 : ∀ (k0 : Nat) (x5 : Int), k0 < k + 1 → laws_eqPlantPlaceS.l0 k0 l0 l1 x5 = some r → headN σ hv [] [(5, .int .i64 x5)] [] [] (F (fun e σ' => match e with | .normal => ∃ (y : Nat × Int) (rn : List (Option Nat)), (laws_eqPlantPlaceS.l0 y.1 l0 l1 y.2 = some r ∧ y.1 < k + 1) ∧ y.1 < k0 ∧ Fits σ σ' [] [(5, .int .i64 y.2)] [] [] rn | e => Q e σ'))) : Lp F hv Q σ := by
  unfold Lp
  refine ⟨Nat × Int, fun x => laws_eqPlantPlaceS.l0 x.1 l0 l1 x.2 = some r ∧ x.1 < k + 1, fun x => x.1, [], fun x => [(5, .int .i64 x.2)], fun x => [], fun x => [], ⟨(k, x5), rn, ⟨H, Nat.lt_succ_self _⟩, h1⟩, ?_⟩
  rintro ⟨k, x5⟩ ⟨H, hk⟩
  exact h2 k x5 hk H
theorem laws_eqPlantPlaceS.ac {k : Nat} {l0 : List S_impl_PlantPlace} {l1 : List S_impl_PlantPlace} {r : Bool} (H : laws_eqPlantPlaceS.f k l0 l1 = some r) : ACalls Try.prog G 92 [] [(sv_S_impl_PlantPlace l0), (sv_S_impl_PlantPlace l1)] [] (.bool r) := by
  refine acalls_of tok hP Try.func92 rfl (by kernel_rfl) [.tmp 4] rfl (by kernel_rfl) (Nat.le_of_ble_eq_true rfl) (.l .n (.l .n (.l (.l .n (.l (.c .n .n) (.l (.c .n .n) .n))) .n))) rfl ?_
  unfold laws_eqPlantPlaceS.f at H
  conv => whnf
  refine br_nd H (fun c H => ?_) (fun c H => ?_)
  conv => whnf
  refine laws_eqPlantPlaceS.l0_lp (l0 := l0) (l1 := l1) (k := k) H [] (fits_of ⟨.inl ⟨rfl, rfl⟩, trivial⟩ trivial fi_ trivial rfl) ?_
  intro k x5 hk H; rcases k with _ | k; exact none_elim H; rw [laws_eqPlantPlaceS.l0] at H; conv => whnf
  refine cut_ 88 [(0, (sv_S_impl_PlantPlace l0)), (1, (sv_S_impl_PlantPlace l1)), (5, .int .i64 x5), (14, .bool (decide (x5 < (l0.length : Int))))] [] rfl ⟨.inl rfl, ⟨.inl rfl, ⟨.inl rfl, ⟨.inl rfl, trivial⟩⟩⟩⟩ trivial ?_
  conv => whnf
  refine br_d H (fun c H => ?_) (fun c H => ?_)
  conv => whnf
  refine nd_ H (fun c H => ?_)
  conv => whnf
  refine Nd.mk nf_ ?_
  conv => whnf
  refine El.mk (rdm_en_S_impl_PlantPlace _ _ nf_ nf_) ?_
  conv => whnf
  refine Nd.mk nf_ ?_
  conv => whnf
  refine nd_ H (fun c H => ?_)
  conv => whnf
  refine El.mk (rdm_en_S_impl_PlantPlace _ _ nf_ nf_) ?_
  conv => whnf
  revert H; refine bind_elim (fun t1776 A H => ?_)
  refine call_mk (laws_eqPlantPlace.ac A) (avAL_cons (avA_agg (avL_cons (av_shut' rfl) (avL_cons (av_shut' rfl) (avL_cons (av_shut' rfl) (avL_nil))))) (avAL_cons (avA_agg (avL_cons (av_shut' rfl) (avL_cons (av_shut' rfl) (avL_cons (av_shut' rfl) (avL_nil))))) (avAL_nil))) (Or.inl rfl) rfl rfl (Nat.le_of_ble_eq_true rfl) ?_
  conv => whnf
  refine cut_ 168 [(0, (sv_S_impl_PlantPlace l0)), (1, (sv_S_impl_PlantPlace l1)), (5, .int .i64 x5), (26, .bool (!t1776))] [] rfl ⟨.inl rfl, ⟨.inl rfl, ⟨.inl rfl, ⟨.inl rfl, trivial⟩⟩⟩⟩ trivial ?_
  conv => whnf
  refine br_nt H (fun c H => ?_) (fun c H => ?_)
  conv => whnf
  exact ⟨(k, wrap64 (x5 + 1)), [], ⟨H, lt_⟩, lt_, (fits_of ⟨.inl ⟨rfl, rfl⟩, trivial⟩ trivial fi_ trivial rfl)⟩
  conv => whnf
  injection H with H; subst H
  exact ret_fz [] (rtA_eq rfl)
  conv => whnf
  injection H with H; subst H
  exact ret_fz [] (rtA_eq rfl)
  conv => whnf
  injection H with H; subst H
  exact ret_fz [] (rtA_eq rfl)
theorem laws_eqPlantValve.ac {a0_0 : ByteArray} {a0_1 : ByteArray} {a0_2 : ByteArray} {a0_3 : ByteArray} {a1_0 : ByteArray} {a1_1 : ByteArray} {a1_2 : ByteArray} {a1_3 : ByteArray} {r : Bool} (H : laws_eqPlantValve.f a0_0 a0_1 a0_2 a0_3 a1_0 a1_1 a1_2 a1_3 = some r) : ACalls Try.prog G 161 [] [.agg [.str a0_0, .str a0_1, .str a0_2, .str a0_3], .agg [.str a1_0, .str a1_1, .str a1_2, .str a1_3]] [] (.bool r) := by
  refine acalls_of tok hP Try.func161 rfl (by kernel_rfl) [.tmp 4] rfl (by kernel_rfl) (Nat.le_of_ble_eq_true rfl) (.l .n (.l .n (.l (.c .n .n) (.l .n (.l (.c .n .n) .n))))) rfl ?_
  unfold laws_eqPlantValve.f at H
  conv => whnf
  refine br_nd H (fun c H => ?_) (fun c H => ?_)
  conv => whnf
  refine cut_ 104 [(2, .bp 0 0), (3, .bp 8 0), (14, .bool (!(decide (a0_1.toList = a1_1.toList))))] [(0, .box [.str a0_0, .str a0_1, .str a0_2, .str a0_3]), (8, .box [.str a1_0, .str a1_1, .str a1_2, .str a1_3])] rfl ⟨.inl rfl, ⟨.inl rfl, ⟨.inl rfl, trivial⟩⟩⟩ ⟨rfl, ⟨rfl, trivial⟩⟩ ?_
  conv => whnf
  refine br_nd H (fun c H => ?_) (fun c H => ?_)
  conv => whnf
  refine br_nd H (fun c H => ?_) (fun c H => ?_)
  conv => whnf
  refine cut_ 184 [(24, .bool (!(decide (a0_3.toList = a1_3.toList))))] [] rfl ⟨.inl rfl, trivial⟩ trivial ?_
  conv => whnf
  refine br_nd H (fun c H => ?_) (fun c H => ?_)
  conv => whnf
  injection H with H; subst H
  exact ret_fz [] (rtA_eq rfl)
  conv => whnf
  injection H with H; subst H
  exact ret_fz [] (rtA_eq rfl)
  conv => whnf
  injection H with H; subst H
  exact ret_fz [] (rtA_eq rfl)
  conv => whnf
  injection H with H; subst H
  exact ret_fz [] (rtA_eq rfl)
  conv => whnf
  injection H with H; subst H
  exact ret_fz [] (rtA_eq rfl)
theorem laws_eqPlantValveS.l0_lp {F : (Exit → St → Prop) → St → Prop} {hv : List Tmp} {Q : Exit → St → Prop} {σ : St} {r : Bool} {k : Nat} {l0 : List S_impl_PlantValve} {l1 : List S_impl_PlantValve} {x5 : Int} (H : laws_eqPlantValveS.l0 k l0 l1 x5 = some r) (rn : List (Option Nat)) (h1 : Fits σ σ [] [(5, .int .i64 x5)] [] [] rn)
    (h2 : ∀ (k0 : Nat) (x5 : Int), k0 < k + 1 → laws_eqPlantValveS.l0 k0 l0 l1 x5 = some r → headN σ hv [] [(5, .int .i64 x5)] [] [] (F (fun e σ' => match e with | .normal => ∃ (y : Nat × Int) (rn : List (Option Nat)), (laws_eqPlantValveS.l0 y.1 l0 l1 y.2 = some r ∧ y.1 < k + 1) ∧ y.1 < k0 ∧ Fits σ σ' [] [(5, .int .i64 y.2)] [] [] rn | e => Q e σ'))) : Lp F hv Q σ := by
  unfold Lp
  refine ⟨Nat × Int, fun x => laws_eqPlantValveS.l0 x.1 l0 l1 x.2 = some r ∧ x.1 < k + 1, fun x => x.1, [], fun x => [(5, .int .i64 x.2)], fun x => [], fun x => [], ⟨(k, x5), rn, ⟨H, Nat.lt_succ_self _⟩, h1⟩, ?_⟩
  rintro ⟨k, x5⟩ ⟨H, hk⟩
  exact h2 k x5 hk H
theorem laws_eqPlantValveS.ac {k : Nat} {l0 : List S_impl_PlantValve} {l1 : List S_impl_PlantValve} {r : Bool} (H : laws_eqPlantValveS.f k l0 l1 = some r) : ACalls Try.prog G 93 [] [(sv_S_impl_PlantValve l0), (sv_S_impl_PlantValve l1)] [] (.bool r) := by
  refine acalls_of tok hP Try.func93 rfl (by kernel_rfl) [.tmp 4] rfl (by kernel_rfl) (Nat.le_of_ble_eq_true rfl) (.l .n (.l .n (.l (.l .n (.l (.c .n .n) (.l (.c .n .n) .n))) .n))) rfl ?_
  unfold laws_eqPlantValveS.f at H
  conv => whnf
  refine br_nd H (fun c H => ?_) (fun c H => ?_)
  conv => whnf
  refine laws_eqPlantValveS.l0_lp (l0 := l0) (l1 := l1) (k := k) H [] (fits_of ⟨.inl ⟨rfl, rfl⟩, trivial⟩ trivial fi_ trivial rfl) ?_
  intro k x5 hk H; rcases k with _ | k; exact none_elim H; rw [laws_eqPlantValveS.l0] at H; conv => whnf
  refine cut_ 88 [(0, (sv_S_impl_PlantValve l0)), (1, (sv_S_impl_PlantValve l1)), (5, .int .i64 x5), (14, .bool (decide (x5 < (l0.length : Int))))] [] rfl ⟨.inl rfl, ⟨.inl rfl, ⟨.inl rfl, ⟨.inl rfl, trivial⟩⟩⟩⟩ trivial ?_
  conv => whnf
  refine br_d H (fun c H => ?_) (fun c H => ?_)
  conv => whnf
  refine nd_ H (fun c H => ?_)
  conv => whnf
  refine Nd.mk nf_ ?_
  conv => whnf
  refine El.mk (rdm_en_S_impl_PlantValve _ _ nf_ nf_) ?_
  conv => whnf
  refine Nd.mk nf_ ?_
  conv => whnf
  refine nd_ H (fun c H => ?_)
  conv => whnf
  refine El.mk (rdm_en_S_impl_PlantValve _ _ nf_ nf_) ?_
  conv => whnf
  revert H; refine bind_elim (fun t1858 A H => ?_)
  refine call_mk (laws_eqPlantValve.ac A) (avAL_cons (avA_agg (avL_cons (av_shut' rfl) (avL_cons (av_shut' rfl) (avL_cons (av_shut' rfl) (avL_cons (av_shut' rfl) (avL_nil)))))) (avAL_cons (avA_agg (avL_cons (av_shut' rfl) (avL_cons (av_shut' rfl) (avL_cons (av_shut' rfl) (avL_cons (av_shut' rfl) (avL_nil)))))) (avAL_nil))) (Or.inl rfl) rfl rfl (Nat.le_of_ble_eq_true rfl) ?_
  conv => whnf
  refine cut_ 168 [(0, (sv_S_impl_PlantValve l0)), (1, (sv_S_impl_PlantValve l1)), (5, .int .i64 x5), (26, .bool (!t1858))] [] rfl ⟨.inl rfl, ⟨.inl rfl, ⟨.inl rfl, ⟨.inl rfl, trivial⟩⟩⟩⟩ trivial ?_
  conv => whnf
  refine br_nt H (fun c H => ?_) (fun c H => ?_)
  conv => whnf
  exact ⟨(k, wrap64 (x5 + 1)), [], ⟨H, lt_⟩, lt_, (fits_of ⟨.inl ⟨rfl, rfl⟩, trivial⟩ trivial fi_ trivial rfl)⟩
  conv => whnf
  injection H with H; subst H
  exact ret_fz [] (rtA_eq rfl)
  conv => whnf
  injection H with H; subst H
  exact ret_fz [] (rtA_eq rfl)
  conv => whnf
  injection H with H; subst H
  exact ret_fz [] (rtA_eq rfl)
theorem laws_eqPlant.ac {k : Nat} {a0_0 : List ByteArray} {a0_1 : List S_impl_PlantFoe} {a0_2 : List S_impl_PlantPlace} {a0_3 : List S_impl_PlantValve} {a1_0 : List ByteArray} {a1_1 : List S_impl_PlantFoe} {a1_2 : List S_impl_PlantPlace} {a1_3 : List S_impl_PlantValve} {r : Bool} (H : laws_eqPlant.f k a0_0 a0_1 a0_2 a0_3 a1_0 a1_1 a1_2 a1_3 = some r) : ACalls Try.prog G 29 [] [.agg [(sv_str a0_0), (sv_S_impl_PlantFoe a0_1), (sv_S_impl_PlantPlace a0_2), (sv_S_impl_PlantValve a0_3)], .agg [(sv_str a1_0), (sv_S_impl_PlantFoe a1_1), (sv_S_impl_PlantPlace a1_2), (sv_S_impl_PlantValve a1_3)]] [] (.bool r) := by
  refine acalls_of tok hP Try.func29 rfl (by kernel_rfl) [.tmp 4] rfl (by kernel_rfl) (Nat.le_of_ble_eq_true rfl) (.l .n (.l (.l .n (.l (.c .n .n) .n)) (.l (.c .n .n) (.l .n (.l (.c .n .n) .n))))) rfl ?_
  unfold laws_eqPlant.f at H
  conv => whnf
  revert H; refine bind_elim (fun t1861 A H => ?_)
  refine call_mk (laws_eqStringS.ac A) (avAL_cons (avA_shut' rfl) (avAL_cons (avA_shut' rfl) (avAL_nil))) (Or.inl rfl) rfl rfl (Nat.le_of_ble_eq_true rfl) ?_
  conv => whnf
  refine br_nt H (fun c H => ?_) (fun c H => ?_)
  conv => whnf
  revert H; refine bind_elim (fun t1864 A H => ?_)
  refine call_mk (laws_eqPlantFoeS.ac A) (avAL_cons (avA_shut' rfl) (avAL_cons (avA_shut' rfl) (avAL_nil))) (Or.inl rfl) rfl rfl (Nat.le_of_ble_eq_true rfl) ?_
  conv => whnf
  refine cut_ 120 [(2, .bp 0 0), (3, .bp 8 0), (16, .bool (!t1864))] [(0, .box [(sv_str a0_0), (sv_S_impl_PlantFoe a0_1), (sv_S_impl_PlantPlace a0_2), (sv_S_impl_PlantValve a0_3)]), (8, .box [(sv_str a1_0), (sv_S_impl_PlantFoe a1_1), (sv_S_impl_PlantPlace a1_2), (sv_S_impl_PlantValve a1_3)])] rfl ⟨.inl rfl, ⟨.inl rfl, ⟨.inl rfl, trivial⟩⟩⟩ ⟨rfl, ⟨rfl, trivial⟩⟩ ?_
  conv => whnf
  refine br_nt H (fun c H => ?_) (fun c H => ?_)
  conv => whnf
  revert H; refine bind_elim (fun t1867 A H => ?_)
  refine call_mk (laws_eqPlantPlaceS.ac A) (avAL_cons (avA_shut' rfl) (avAL_cons (avA_shut' rfl) (avAL_nil))) (Or.inl rfl) rfl rfl (Nat.le_of_ble_eq_true rfl) ?_
  conv => whnf
  refine br_nt H (fun c H => ?_) (fun c H => ?_)
  conv => whnf
  revert H; refine bind_elim (fun t1870 A H => ?_)
  refine call_mk (laws_eqPlantValveS.ac A) (avAL_cons (avA_shut' rfl) (avAL_cons (avA_shut' rfl) (avAL_nil))) (Or.inl rfl) rfl rfl (Nat.le_of_ble_eq_true rfl) ?_
  conv => whnf
  refine cut_ 216 [(28, .bool (!t1870))] [] rfl ⟨.inl rfl, trivial⟩ trivial ?_
  conv => whnf
  refine br_nt H (fun c H => ?_) (fun c H => ?_)
  conv => whnf
  injection H with H; subst H
  exact ret_fz [] (rtA_eq rfl)
  conv => whnf
  injection H with H; subst H
  exact ret_fz [] (rtA_eq rfl)
  conv => whnf
  injection H with H; subst H
  exact ret_fz [] (rtA_eq rfl)
  conv => whnf
  injection H with H; subst H
  exact ret_fz [] (rtA_eq rfl)
  conv => whnf
  refine cut_ 80 [(4, .bool false)] [] rfl ⟨.inl rfl, trivial⟩ trivial ?_
  conv => whnf
  injection H with H; subst H
  exact ret_fz [] (rtA_eq rfl)
theorem laws_markText.l0_lp {F : (Exit → St → Prop) → St → Prop} {hv : List Tmp} {Q : Exit → St → Prop} {σ : St} {r : ByteArray} {k : Nat} {x0 : Int} {x3 : ByteArray} (H : laws_markText.l0 k x0 x3 = some r) (rn : List (Option Nat)) (h1 : Fits σ σ [] [(0, .int .i64 x0), (3, .str x3)] [] [] rn)
    (h2 : ∀ (k0 : Nat) (x0 : Int) (x3 : ByteArray), k0 < k + 1 → laws_markText.l0 k0 x0 x3 = some r → headN σ hv [] [(0, .int .i64 x0), (3, .str x3)] [] [] (F (fun e σ' => match e with | .normal => ∃ (y : Nat × Int × ByteArray) (rn : List (Option Nat)), (laws_markText.l0 y.1 y.2.1 y.2.2 = some r ∧ y.1 < k + 1) ∧ y.1 < k0 ∧ Fits σ σ' [] [(0, .int .i64 y.2.1), (3, .str y.2.2)] [] [] rn | e => Q e σ'))) : Lp F hv Q σ := by
  unfold Lp
  refine ⟨Nat × Int × ByteArray, fun x => laws_markText.l0 x.1 x.2.1 x.2.2 = some r ∧ x.1 < k + 1, fun x => x.1, [], fun x => [(0, .int .i64 x.2.1), (3, .str x.2.2)], fun x => [], fun x => [], ⟨(k, x0, x3), rn, ⟨H, Nat.lt_succ_self _⟩, h1⟩, ?_⟩
  rintro ⟨k, x0, x3⟩ ⟨H, hk⟩
  exact h2 k x0 x3 hk H
theorem laws_markText.ac {k : Nat} {a0 : Int} {r : ByteArray} (H : laws_markText.f k a0 = some r) : ACalls Try.prog G 81 [] [.int .i64 a0] [] (.str r) := by
  refine acalls_of tok hP Try.func81 rfl (by kernel_rfl) [.tmp 2] rfl (by kernel_rfl) (Nat.le_of_ble_eq_true rfl) (.l .n (.l .n (.l .n (.l (.l .n (.c .n .n)) .n)))) rfl ?_
  unfold laws_markText.f at H
  conv => whnf
  refine br_d H (fun c H => ?_) (fun c H => ?_)
  conv => whnf
  injection H with H; subst H
  exact ret_fz [] (rtA_eq rfl)
  conv => whnf
  refine laws_markText.l0_lp (k := k) H [] (fits_of ⟨.inl ⟨rfl, rfl⟩, ⟨.inl ⟨rfl, rfl⟩, trivial⟩⟩ trivial fi_ trivial rfl) ?_
  intro k x0 x3 hk H; rcases k with _ | k; exact none_elim H; rw [laws_markText.l0] at H; conv => whnf
  refine br_d H (fun c H => ?_) (fun c H => ?_)
  conv => whnf
  refine Nd.mk (by decide) ?_
  conv => whnf
  refine nd_ H (fun c H => ?_)
  conv => whnf
  refine cut_ 120 [(0, .int .i64 x0), (3, .str ((⟨#[UInt8.ofNat (IntKind.wrap .u8 (wrap64 (48 + (Int.tmod x0 10)))).toNat]⟩ : ByteArray) ++ x3))] [] rfl ⟨.inl rfl, ⟨.inl rfl, trivial⟩⟩ trivial ?_
  conv => whnf
  refine Nd.mk (by decide) ?_
  conv => whnf
  exact ⟨(k, wrap64 (Int.tdiv x0 10), (⟨#[UInt8.ofNat (IntKind.wrap .u8 (wrap64 (48 + (Int.tmod x0 10)))).toNat]⟩ : ByteArray) ++ x3), [], ⟨H, lt_⟩, lt_, (fits_of ⟨.inl ⟨rfl, rfl⟩, ⟨.inl ⟨rfl, rfl⟩, trivial⟩⟩ trivial fi_ trivial rfl)⟩
  conv => whnf
  refine nd_ H (fun c H => ?_)
  conv => whnf
  injection H with H; subst H
  exact ret_fz [] (rtA_eq rfl)
theorem laws_markStringS.l0_lp {F : (Exit → St → Prop) → St → Prop} {hv : List Tmp} {Q : Exit → St → Prop} {σ : St} {r : Int × (List ByteArray)} {k : Nat} {l0 : List ByteArray} {x1 : Int} {x5 : Int} {x1000 : List ByteArray} (H : laws_markStringS.l0 k l0 x1 x5 x1000 = some r) (rn : List (Option Nat)) (h1 : Fits σ σ [0] [(1, .int .i64 x1), (5, .int .i64 x5)] [(0, .arr 9 1 (x1000.map en_str))] [] rn)
    (h2 : ∀ (k0 : Nat) (x1 : Int) (x5 : Int) (x1000 : List ByteArray), k0 < k + 1 → laws_markStringS.l0 k0 l0 x1 x5 x1000 = some r → headN σ hv [0] [(1, .int .i64 x1), (5, .int .i64 x5)] [(0, .arr 9 1 (x1000.map en_str))] [] (F (fun e σ' => match e with | .normal => ∃ (y : Nat × Int × Int × (List ByteArray)) (rn : List (Option Nat)), (laws_markStringS.l0 y.1 l0 y.2.1 y.2.2.1 y.2.2.2 = some r ∧ y.1 < k + 1) ∧ y.1 < k0 ∧ Fits σ σ' [0] [(1, .int .i64 y.2.1), (5, .int .i64 y.2.2.1)] [(0, .arr 9 1 (y.2.2.2.map en_str))] [] rn | e => Q e σ'))) : Lp F hv Q σ := by
  unfold Lp
  refine ⟨Nat × Int × Int × (List ByteArray), fun x => laws_markStringS.l0 x.1 l0 x.2.1 x.2.2.1 x.2.2.2 = some r ∧ x.1 < k + 1, fun x => x.1, [0], fun x => [(1, .int .i64 x.2.1), (5, .int .i64 x.2.2.1)], fun x => [(0, .arr 9 1 (x.2.2.2.map en_str))], fun x => [], ⟨(k, x1, x5, x1000), rn, ⟨H, Nat.lt_succ_self _⟩, h1⟩, ?_⟩
  rintro ⟨k, x1, x5, x1000⟩ ⟨H, hk⟩
  exact h2 k x1 x5 x1000 hk H
theorem laws_markStringS.ac {k : Nat} {l0 : List ByteArray} {a1 : Int} {r : Int × (List ByteArray)} (H : laws_markStringS.f k l0 a1 = some r) : ACalls Try.prog G 21 [.arr 9 1 (l0.map en_str)] [.own 0 l0.length, .int .i64 a1] [.arr 9 1 (r.2.map en_str)] (.int .i64 r.1) := by
  refine acalls_of tok hP Try.func21 rfl (by kernel_rfl) [.tmp 4] rfl (by kernel_rfl) (Nat.le_of_ble_eq_true rfl) (.l .n (.l (.l .n (.l .n (.l (.c .n .n) .n))) .n)) rfl ?_
  unfold laws_markStringS.f at H
  conv => whnf
  refine laws_markStringS.l0_lp (l0 := l0) (k := k) H [] (fits_of ⟨.inl ⟨rfl, rfl⟩, ⟨.inl ⟨rfl, rfl⟩, trivial⟩⟩ trivial fi_ ⟨⟨_, rfl⟩, rfl, trivial⟩ rfl) ?_
  intro k x1 x5 x1000 hk H; rcases k with _ | k; exact none_elim H; rw [laws_markStringS.l0] at H; conv => whnf
  refine chk_ H (fun c H => ?_)
  refine br_d H (fun c H => ?_) (fun c H => ?_)
  conv => whnf
  revert H; refine bind_elim (fun t2041 A H => ?_)
  refine call_mk (laws_markText.ac A) (avAL_cons (avA_shut' rfl) (avAL_nil)) (Or.inl rfl) rfl rfl (Nat.le_of_ble_eq_true rfl) ?_
  conv => whnf
  refine nd_ H (fun c H => ?_)
  conv => whnf
  refine Nd.mk nf_ ?_
  conv => whnf
  refine El.mk (rdm_en_str _ _ nf_ nf_) ?_
  conv => whnf
  refine cut_ 97 [(0, .own 0 l0.length), (1, .int .i64 x1), (5, .int .i64 x5)] [(0, .arr 9 1 ((x1000.set (x5).toNat t2041).map en_str))] rfl ⟨.inl rfl, ⟨.inl rfl, ⟨.inl rfl, trivial⟩⟩⟩ ⟨fm_, trivial⟩ ?_
  conv => whnf
  exact ⟨(k, wrap64 (x1 + 1), wrap64 (x5 + 1), (x1000.set (x5).toNat t2041)), [], ⟨H, lt_⟩, lt_, (fits_of ⟨.inl ⟨rfl, rfl⟩, ⟨.inl ⟨rfl, rfl⟩, trivial⟩⟩ trivial fi_ ⟨⟨_, rfl⟩, rfl, trivial⟩ rfl)⟩
  conv => whnf
  injection H with H; subst H
  exact ret_gen [some 0] [] ((rtA_eq rfl)) ⟨rfl, trivial⟩ rfl
theorem laws_markPlantFoeS.l0_lp {F : (Exit → St → Prop) → St → Prop} {hv : List Tmp} {Q : Exit → St → Prop} {σ : St} {r : Int × (List S_impl_PlantFoe)} {k : Nat} {l0 : List S_impl_PlantFoe} {x1 : Int} {x5 : Int} {x1000 : List S_impl_PlantFoe} (H : laws_markPlantFoeS.l0 k l0 x1 x5 x1000 = some r) (rn : List (Option Nat)) (h1 : Fits σ σ [0] [(1, .int .i64 x1), (5, .int .i64 x5)] [(0, .arr 168 2 (x1000.map en_S_impl_PlantFoe))] [] rn)
    (h2 : ∀ (k0 : Nat) (x1 : Int) (x5 : Int) (x1000 : List S_impl_PlantFoe), k0 < k + 1 → laws_markPlantFoeS.l0 k0 l0 x1 x5 x1000 = some r → headN σ hv [0] [(1, .int .i64 x1), (5, .int .i64 x5)] [(0, .arr 168 2 (x1000.map en_S_impl_PlantFoe))] [] (F (fun e σ' => match e with | .normal => ∃ (y : Nat × Int × Int × (List S_impl_PlantFoe)) (rn : List (Option Nat)), (laws_markPlantFoeS.l0 y.1 l0 y.2.1 y.2.2.1 y.2.2.2 = some r ∧ y.1 < k + 1) ∧ y.1 < k0 ∧ Fits σ σ' [0] [(1, .int .i64 y.2.1), (5, .int .i64 y.2.2.1)] [(0, .arr 168 2 (y.2.2.2.map en_S_impl_PlantFoe))] [] rn | e => Q e σ'))) : Lp F hv Q σ := by
  unfold Lp
  refine ⟨Nat × Int × Int × (List S_impl_PlantFoe), fun x => laws_markPlantFoeS.l0 x.1 l0 x.2.1 x.2.2.1 x.2.2.2 = some r ∧ x.1 < k + 1, fun x => x.1, [0], fun x => [(1, .int .i64 x.2.1), (5, .int .i64 x.2.2.1)], fun x => [(0, .arr 168 2 (x.2.2.2.map en_S_impl_PlantFoe))], fun x => [], ⟨(k, x1, x5, x1000), rn, ⟨H, Nat.lt_succ_self _⟩, h1⟩, ?_⟩
  rintro ⟨k, x1, x5, x1000⟩ ⟨H, hk⟩
  exact h2 k x1 x5 x1000 hk H
theorem laws_markPlantFoeS.ac {k : Nat} {l0 : List S_impl_PlantFoe} {a1 : Int} {r : Int × (List S_impl_PlantFoe)} (H : laws_markPlantFoeS.f k l0 a1 = some r) : ACalls Try.prog G 94 [.arr 168 2 (l0.map en_S_impl_PlantFoe)] [.own 0 l0.length, .int .i64 a1] [.arr 168 2 (r.2.map en_S_impl_PlantFoe)] (.int .i64 r.1) := by
  refine acalls_of tok hP Try.func94 rfl (by kernel_rfl) [.tmp 4] rfl (by kernel_rfl) (Nat.le_of_ble_eq_true rfl) (.l .n (.l (.l .n (.l .n (.c (.c .n .n) .n))) .n)) rfl ?_
  unfold laws_markPlantFoeS.f at H
  conv => whnf
  refine laws_markPlantFoeS.l0_lp (l0 := l0) (k := k) H [] (fits_of ⟨.inl ⟨rfl, rfl⟩, ⟨.inl ⟨rfl, rfl⟩, trivial⟩⟩ trivial fi_ ⟨⟨_, rfl⟩, rfl, trivial⟩ rfl) ?_
  intro k x1 x5 x1000 hk H; rcases k with _ | k; exact none_elim H; rw [laws_markPlantFoeS.l0] at H; conv => whnf
  refine chk_ H (fun c H => ?_)
  refine br_d H (fun c H => ?_) (fun c H => ?_)
  conv => whnf
  revert H; refine bind_elim (fun t2180 A H => ?_)
  refine call_mk (laws_markText.ac A) (avAL_cons (avA_shut' rfl) (avAL_nil)) (Or.inl rfl) rfl rfl (Nat.le_of_ble_eq_true rfl) ?_
  conv => whnf
  refine nd_ H (fun c H => ?_)
  conv => whnf
  refine Nd.mk nf_ ?_
  conv => whnf
  refine El.mk (rdm_en_S_impl_PlantFoe _ _ nf_ nf_) ?_
  conv => whnf
  refine cut_ 105 [(0, .own 0 l0.length), (1, .int .i64 x1), (5, .int .i64 x5)] [(0, .arr 168 2 ((x1000.set (x5).toNat (⟨t2180, (rd_impl_PlantFoe x1000 x5).f1⟩ : S_impl_PlantFoe)).map en_S_impl_PlantFoe))] rfl ⟨.inl rfl, ⟨.inl rfl, ⟨.inl rfl, trivial⟩⟩⟩ ⟨fm_, trivial⟩ ?_
  conv => whnf
  revert H; refine bind_elim (fun t2181 A H => ?_)
  refine call_mk (laws_markText.ac A) (avAL_cons (avA_shut' rfl) (avAL_nil)) (Or.inl rfl) rfl rfl (Nat.le_of_ble_eq_true rfl) ?_
  conv => whnf
  refine Nd.mk nf_ ?_
  conv => whnf
  refine Nd.mk nf_ ?_
  conv => whnf
  refine El.mk (el_of (ys := (x1000.set (x5).toNat (⟨t2180, (rd_impl_PlantFoe x1000 x5).f1⟩ : S_impl_PlantFoe)).map en_S_impl_PlantFoe) lm_ (rdms en_S_impl_PlantFoe _ _ _ nf_ nf_)) ?_
  conv => whnf
  refine cut_ 209 [(0, .own 0 l0.length), (1, .int .i64 (wrap64 ((wrap64 (x1 + 1)) + 1))), (5, .int .i64 x5)] [(0, .arr 168 2 ((x1000.set (x5).toNat (⟨t2180, t2181⟩ : S_impl_PlantFoe)).map en_S_impl_PlantFoe))] rfl ⟨.inl rfl, ⟨.inl rfl, ⟨.inl rfl, trivial⟩⟩⟩ ⟨fm_, trivial⟩ ?_
  conv => whnf
  exact ⟨(k, wrap64 ((wrap64 (x1 + 1)) + 1), wrap64 (x5 + 1), (x1000.set (x5).toNat (⟨t2180, t2181⟩ : S_impl_PlantFoe))), [], ⟨H, lt_⟩, lt_, (fits_of ⟨.inl ⟨rfl, rfl⟩, ⟨.inl ⟨rfl, rfl⟩, trivial⟩⟩ trivial fi_ ⟨⟨_, rfl⟩, rfl, trivial⟩ rfl)⟩
  conv => whnf
  injection H with H; subst H
  exact ret_gen [some 0] [] ((rtA_eq rfl)) ⟨rfl, trivial⟩ rfl
theorem laws_markPlantPlaceS.l0_lp {F : (Exit → St → Prop) → St → Prop} {hv : List Tmp} {Q : Exit → St → Prop} {σ : St} {r : Int × (List S_impl_PlantPlace)} {k : Nat} {l0 : List S_impl_PlantPlace} {x1 : Int} {x5 : Int} {x1000 : List S_impl_PlantPlace} (H : laws_markPlantPlaceS.l0 k l0 x1 x5 x1000 = some r) (rn : List (Option Nat)) (h1 : Fits σ σ [0] [(1, .int .i64 x1), (5, .int .i64 x5)] [(0, .arr 109 3 (x1000.map en_S_impl_PlantPlace))] [] rn)
    (h2 : ∀ (k0 : Nat) (x1 : Int) (x5 : Int) (x1000 : List S_impl_PlantPlace), k0 < k + 1 → laws_markPlantPlaceS.l0 k0 l0 x1 x5 x1000 = some r → headN σ hv [0] [(1, .int .i64 x1), (5, .int .i64 x5)] [(0, .arr 109 3 (x1000.map en_S_impl_PlantPlace))] [] (F (fun e σ' => match e with | .normal => ∃ (y : Nat × Int × Int × (List S_impl_PlantPlace)) (rn : List (Option Nat)), (laws_markPlantPlaceS.l0 y.1 l0 y.2.1 y.2.2.1 y.2.2.2 = some r ∧ y.1 < k + 1) ∧ y.1 < k0 ∧ Fits σ σ' [0] [(1, .int .i64 y.2.1), (5, .int .i64 y.2.2.1)] [(0, .arr 109 3 (y.2.2.2.map en_S_impl_PlantPlace))] [] rn | e => Q e σ'))) : Lp F hv Q σ := by
  unfold Lp
  refine ⟨Nat × Int × Int × (List S_impl_PlantPlace), fun x => laws_markPlantPlaceS.l0 x.1 l0 x.2.1 x.2.2.1 x.2.2.2 = some r ∧ x.1 < k + 1, fun x => x.1, [0], fun x => [(1, .int .i64 x.2.1), (5, .int .i64 x.2.2.1)], fun x => [(0, .arr 109 3 (x.2.2.2.map en_S_impl_PlantPlace))], fun x => [], ⟨(k, x1, x5, x1000), rn, ⟨H, Nat.lt_succ_self _⟩, h1⟩, ?_⟩
  rintro ⟨k, x1, x5, x1000⟩ ⟨H, hk⟩
  exact h2 k x1 x5 x1000 hk H
theorem laws_markPlantPlaceS.ac {k : Nat} {l0 : List S_impl_PlantPlace} {a1 : Int} {r : Int × (List S_impl_PlantPlace)} (H : laws_markPlantPlaceS.f k l0 a1 = some r) : ACalls Try.prog G 95 [.arr 109 3 (l0.map en_S_impl_PlantPlace)] [.own 0 l0.length, .int .i64 a1] [.arr 109 3 (r.2.map en_S_impl_PlantPlace)] (.int .i64 r.1) := by
  refine acalls_of tok hP Try.func95 rfl (by kernel_rfl) [.tmp 4] rfl (by kernel_rfl) (Nat.le_of_ble_eq_true rfl) (.l .n (.l (.l .n (.l .n (.l (.c .n (.l .n (.l .n (.c .n .n)))) .n))) .n)) rfl ?_
  unfold laws_markPlantPlaceS.f at H
  conv => whnf
  refine laws_markPlantPlaceS.l0_lp (l0 := l0) (k := k) H [] (fits_of ⟨.inl ⟨rfl, rfl⟩, ⟨.inl ⟨rfl, rfl⟩, trivial⟩⟩ trivial fi_ ⟨⟨_, rfl⟩, rfl, trivial⟩ rfl) ?_
  intro k x1 x5 x1000 hk H; rcases k with _ | k; exact none_elim H; rw [laws_markPlantPlaceS.l0] at H; conv => whnf
  refine chk_ H (fun c H => ?_)
  refine br_d H (fun c H => ?_) (fun c H => ?_)
  conv => whnf
  revert H; refine bind_elim (fun t2326 A H => ?_)
  refine call_mk (laws_markText.ac A) (avAL_cons (avA_shut' rfl) (avAL_nil)) (Or.inl rfl) rfl rfl (Nat.le_of_ble_eq_true rfl) ?_
  conv => whnf
  refine nd_ H (fun c H => ?_)
  conv => whnf
  refine Nd.mk nf_ ?_
  conv => whnf
  refine El.mk (rdm_en_S_impl_PlantPlace _ _ nf_ nf_) ?_
  conv => whnf
  refine cut_ 105 [(0, .own 0 l0.length), (1, .int .i64 x1), (5, .int .i64 x5)] [(0, .arr 109 3 ((x1000.set (x5).toNat (⟨t2326, (rd_impl_PlantPlace x1000 x5).f1, (rd_impl_PlantPlace x1000 x5).f2⟩ : S_impl_PlantPlace)).map en_S_impl_PlantPlace))] rfl ⟨.inl rfl, ⟨.inl rfl, ⟨.inl rfl, trivial⟩⟩⟩ ⟨fm_, trivial⟩ ?_
  conv => whnf
  refine Nd.mk nf_ ?_
  conv => whnf
  refine Nd.mk nf_ ?_
  conv => whnf
  refine El.mk (el_of (ys := (x1000.set (x5).toNat (⟨t2326, (rd_impl_PlantPlace x1000 x5).f1, (rd_impl_PlantPlace x1000 x5).f2⟩ : S_impl_PlantPlace)).map en_S_impl_PlantPlace) lm_ (rdms en_S_impl_PlantPlace _ _ _ nf_ nf_)) ?_
  conv => whnf
  refine cut_ 201 [(0, .own 0 l0.length), (1, .int .i64 (wrap64 ((wrap64 (x1 + 1)) + 1))), (5, .int .i64 x5)] [(0, .arr 109 3 ((x1000.set (x5).toNat (⟨t2326, wrap64 (x1 + 1), (rd_impl_PlantPlace x1000 x5).f2⟩ : S_impl_PlantPlace)).map en_S_impl_PlantPlace))] rfl ⟨.inl rfl, ⟨.inl rfl, ⟨.inl rfl, trivial⟩⟩⟩ ⟨fm_, trivial⟩ ?_
  conv => whnf
  revert H; refine bind_elim (fun t2327 A H => ?_)
  refine call_mk (laws_markText.ac A) (avAL_cons (avA_shut' rfl) (avAL_nil)) (Or.inl rfl) rfl rfl (Nat.le_of_ble_eq_true rfl) ?_
  conv => whnf
  refine Nd.mk nf_ ?_
  conv => whnf
  refine Nd.mk nf_ ?_
  conv => whnf
  refine El.mk (el_of (ys := (x1000.set (x5).toNat (⟨t2326, wrap64 (x1 + 1), (rd_impl_PlantPlace x1000 x5).f2⟩ : S_impl_PlantPlace)).map en_S_impl_PlantPlace) lm_ (rdms en_S_impl_PlantPlace _ _ _ nf_ nf_)) ?_
  conv => whnf
  exact ⟨(k, wrap64 ((wrap64 ((wrap64 (x1 + 1)) + 1)) + 1), wrap64 (x5 + 1), (x1000.set (x5).toNat (⟨t2326, wrap64 (x1 + 1), t2327⟩ : S_impl_PlantPlace))), [], ⟨H, lt_⟩, lt_, (fits_of ⟨.inl ⟨rfl, rfl⟩, ⟨.inl ⟨rfl, rfl⟩, trivial⟩⟩ trivial fi_ ⟨⟨_, rfl⟩, fm_, trivial⟩ rfl)⟩
  conv => whnf
  injection H with H; subst H
  exact ret_gen [some 0] [] ((rtA_eq rfl)) ⟨rfl, trivial⟩ rfl
theorem laws_markPlantValveS.l0_lp {F : (Exit → St → Prop) → St → Prop} {hv : List Tmp} {Q : Exit → St → Prop} {σ : St} {r : Int × (List S_impl_PlantValve)} {k : Nat} {l0 : List S_impl_PlantValve} {x1 : Int} {x5 : Int} {x1000 : List S_impl_PlantValve} (H : laws_markPlantValveS.l0 k l0 x1 x5 x1000 = some r) (rn : List (Option Nat)) (h1 : Fits σ σ [0] [(1, .int .i64 x1), (5, .int .i64 x5)] [(0, .arr 135 4 (x1000.map en_S_impl_PlantValve))] [] rn)
    (h2 : ∀ (k0 : Nat) (x1 : Int) (x5 : Int) (x1000 : List S_impl_PlantValve), k0 < k + 1 → laws_markPlantValveS.l0 k0 l0 x1 x5 x1000 = some r → headN σ hv [0] [(1, .int .i64 x1), (5, .int .i64 x5)] [(0, .arr 135 4 (x1000.map en_S_impl_PlantValve))] [] (F (fun e σ' => match e with | .normal => ∃ (y : Nat × Int × Int × (List S_impl_PlantValve)) (rn : List (Option Nat)), (laws_markPlantValveS.l0 y.1 l0 y.2.1 y.2.2.1 y.2.2.2 = some r ∧ y.1 < k + 1) ∧ y.1 < k0 ∧ Fits σ σ' [0] [(1, .int .i64 y.2.1), (5, .int .i64 y.2.2.1)] [(0, .arr 135 4 (y.2.2.2.map en_S_impl_PlantValve))] [] rn | e => Q e σ'))) : Lp F hv Q σ := by
  unfold Lp
  refine ⟨Nat × Int × Int × (List S_impl_PlantValve), fun x => laws_markPlantValveS.l0 x.1 l0 x.2.1 x.2.2.1 x.2.2.2 = some r ∧ x.1 < k + 1, fun x => x.1, [0], fun x => [(1, .int .i64 x.2.1), (5, .int .i64 x.2.2.1)], fun x => [(0, .arr 135 4 (x.2.2.2.map en_S_impl_PlantValve))], fun x => [], ⟨(k, x1, x5, x1000), rn, ⟨H, Nat.lt_succ_self _⟩, h1⟩, ?_⟩
  rintro ⟨k, x1, x5, x1000⟩ ⟨H, hk⟩
  exact h2 k x1 x5 x1000 hk H
theorem laws_markPlantValveS.ac {k : Nat} {l0 : List S_impl_PlantValve} {a1 : Int} {r : Int × (List S_impl_PlantValve)} (H : laws_markPlantValveS.f k l0 a1 = some r) : ACalls Try.prog G 96 [.arr 135 4 (l0.map en_S_impl_PlantValve)] [.own 0 l0.length, .int .i64 a1] [.arr 135 4 (r.2.map en_S_impl_PlantValve)] (.int .i64 r.1) := by
  refine acalls_of tok hP Try.func96 rfl (by kernel_rfl) [.tmp 4] rfl (by kernel_rfl) (Nat.le_of_ble_eq_true rfl) (.l .n (.l (.l .n (.l .n (.l (.c .n (.l .n (.l .n (.c .n (.l .n (.l .n (.c .n .n))))))) .n))) .n)) rfl ?_
  unfold laws_markPlantValveS.f at H
  conv => whnf
  refine laws_markPlantValveS.l0_lp (l0 := l0) (k := k) H [] (fits_of ⟨.inl ⟨rfl, rfl⟩, ⟨.inl ⟨rfl, rfl⟩, trivial⟩⟩ trivial fi_ ⟨⟨_, rfl⟩, rfl, trivial⟩ rfl) ?_
  intro k x1 x5 x1000 hk H; rcases k with _ | k; exact none_elim H; rw [laws_markPlantValveS.l0] at H; conv => whnf
  refine chk_ H (fun c H => ?_)
  refine br_d H (fun c H => ?_) (fun c H => ?_)
  conv => whnf
  revert H; refine bind_elim (fun t2488 A H => ?_)
  refine call_mk (laws_markText.ac A) (avAL_cons (avA_shut' rfl) (avAL_nil)) (Or.inl rfl) rfl rfl (Nat.le_of_ble_eq_true rfl) ?_
  conv => whnf
  refine nd_ H (fun c H => ?_)
  conv => whnf
  refine Nd.mk nf_ ?_
  conv => whnf
  refine El.mk (rdm_en_S_impl_PlantValve _ _ nf_ nf_) ?_
  conv => whnf
  refine cut_ 105 [(0, .own 0 l0.length), (1, .int .i64 x1), (5, .int .i64 x5)] [(0, .arr 135 4 ((x1000.set (x5).toNat (⟨t2488, (rd_impl_PlantValve x1000 x5).f1, (rd_impl_PlantValve x1000 x5).f2, (rd_impl_PlantValve x1000 x5).f3⟩ : S_impl_PlantValve)).map en_S_impl_PlantValve))] rfl ⟨.inl rfl, ⟨.inl rfl, ⟨.inl rfl, trivial⟩⟩⟩ ⟨fm_, trivial⟩ ?_
  conv => whnf
  revert H; refine bind_elim (fun t2489 A H => ?_)
  refine call_mk (laws_markText.ac A) (avAL_cons (avA_shut' rfl) (avAL_nil)) (Or.inl rfl) rfl rfl (Nat.le_of_ble_eq_true rfl) ?_
  conv => whnf
  refine Nd.mk nf_ ?_
  conv => whnf
  refine Nd.mk nf_ ?_
  conv => whnf
  refine El.mk (el_of (ys := (x1000.set (x5).toNat (⟨t2488, (rd_impl_PlantValve x1000 x5).f1, (rd_impl_PlantValve x1000 x5).f2, (rd_impl_PlantValve x1000 x5).f3⟩ : S_impl_PlantValve)).map en_S_impl_PlantValve) lm_ (rdms en_S_impl_PlantValve _ _ _ nf_ nf_)) ?_
  conv => whnf
  refine cut_ 209 [(0, .own 0 l0.length), (1, .int .i64 (wrap64 ((wrap64 (x1 + 1)) + 1))), (5, .int .i64 x5)] [(0, .arr 135 4 ((x1000.set (x5).toNat (⟨t2488, t2489, (rd_impl_PlantValve x1000 x5).f2, (rd_impl_PlantValve x1000 x5).f3⟩ : S_impl_PlantValve)).map en_S_impl_PlantValve))] rfl ⟨.inl rfl, ⟨.inl rfl, ⟨.inl rfl, trivial⟩⟩⟩ ⟨fm_, trivial⟩ ?_
  conv => whnf
  revert H; refine bind_elim (fun t2490 A H => ?_)
  refine call_mk (laws_markText.ac A) (avAL_cons (avA_shut' rfl) (avAL_nil)) (Or.inl rfl) rfl rfl (Nat.le_of_ble_eq_true rfl) ?_
  conv => whnf
  refine Nd.mk nf_ ?_
  conv => whnf
  refine Nd.mk nf_ ?_
  conv => whnf
  refine El.mk (el_of (ys := (x1000.set (x5).toNat (⟨t2488, t2489, (rd_impl_PlantValve x1000 x5).f2, (rd_impl_PlantValve x1000 x5).f3⟩ : S_impl_PlantValve)).map en_S_impl_PlantValve) lm_ (rdms en_S_impl_PlantValve _ _ _ nf_ nf_)) ?_
  conv => whnf
  revert H; refine bind_elim (fun t2491 A H => ?_)
  refine call_mk (laws_markText.ac A) (avAL_cons (avA_shut' rfl) (avAL_nil)) (Or.inl rfl) rfl rfl (Nat.le_of_ble_eq_true rfl) ?_
  conv => whnf
  refine Nd.mk nf_ ?_
  conv => whnf
  refine Nd.mk nf_ ?_
  conv => whnf
  refine El.mk (el_of (ys := (x1000.set (x5).toNat (⟨t2488, t2489, t2490, (rd_impl_PlantValve x1000 x5).f3⟩ : S_impl_PlantValve)).map en_S_impl_PlantValve) lm_ (rdms en_S_impl_PlantValve _ _ _ nf_ nf_)) ?_
  conv => whnf
  refine cut_ 345 [(0, .own 0 l0.length), (1, .int .i64 (wrap64 ((wrap64 ((wrap64 (x1 + 1)) + 1)) + 1))), (5, .int .i64 x5)] [(0, .arr 135 4 ((x1000.set (x5).toNat (⟨t2488, t2489, t2490, t2491⟩ : S_impl_PlantValve)).map en_S_impl_PlantValve))] rfl ⟨.inl rfl, ⟨.inl rfl, ⟨.inl rfl, trivial⟩⟩⟩ ⟨fm_, trivial⟩ ?_
  conv => whnf
  exact ⟨(k, wrap64 ((wrap64 ((wrap64 ((wrap64 (x1 + 1)) + 1)) + 1)) + 1), wrap64 (x5 + 1), (x1000.set (x5).toNat (⟨t2488, t2489, t2490, t2491⟩ : S_impl_PlantValve))), [], ⟨H, lt_⟩, lt_, (fits_of ⟨.inl ⟨rfl, rfl⟩, ⟨.inl ⟨rfl, rfl⟩, trivial⟩⟩ trivial fi_ ⟨⟨_, rfl⟩, rfl, trivial⟩ rfl)⟩
  conv => whnf
  injection H with H; subst H
  exact ret_gen [some 0] [] ((rtA_eq rfl)) ⟨rfl, trivial⟩ rfl
theorem laws_markPlant.ac {k : Nat} {a0_0 : List ByteArray} {a0_1 : List S_impl_PlantFoe} {a0_2 : List S_impl_PlantPlace} {a0_3 : List S_impl_PlantValve} {a1 : Int} {r : Int × (List ByteArray) × (List S_impl_PlantFoe) × (List S_impl_PlantPlace) × (List S_impl_PlantValve)} (H : laws_markPlant.f k a0_0 a0_1 a0_2 a0_3 a1 = some r) : ACalls Try.prog G 30 [.arr 9 1 (a0_0.map en_str), .arr 168 2 (a0_1.map en_S_impl_PlantFoe), .arr 109 3 (a0_2.map en_S_impl_PlantPlace), .arr 135 4 (a0_3.map en_S_impl_PlantValve)] [.agg [.own 0 a0_0.length, .own 1 a0_1.length, .own 2 a0_2.length, .own 3 a0_3.length], .int .i64 a1] [.arr 9 1 (r.2.1.map en_str), .arr 168 2 (r.2.2.1.map en_S_impl_PlantFoe), .arr 109 3 (r.2.2.2.1.map en_S_impl_PlantPlace), .arr 135 4 (r.2.2.2.2.map en_S_impl_PlantValve)] (.int .i64 r.1) := by
  refine acalls_of tok hP Try.func30 rfl (by kernel_rfl) [.tmp 4] rfl (by kernel_rfl) (Nat.le_of_ble_eq_true rfl) (.l .n (.l .n (.c .n (.l .n (.c .n .n))))) rfl ?_
  unfold laws_markPlant.f at H
  conv => whnf
  revert H; refine bind_elim (fun t2540 A H => ?_)
  refine call_mk2 [0] (laws_markStringS.ac A) ⟨rfl, trivial⟩ rfl rfl rfl rfl rfl rfl rfl rfl ?_
  conv => whnf
  revert H; refine bind_elim (fun t2542 A H => ?_)
  refine call_mk2 [1] (laws_markPlantFoeS.ac A) ⟨rfl, trivial⟩ rfl rfl rfl rfl rfl rfl rfl rfl ?_
  conv => whnf
  refine cut_ 100 [(1, .int .i64 t2542.1), (2, .bp 4 0)] [(0, .arr 9 1 (t2540.2.map en_str)), (1, .arr 168 2 (t2542.2.map en_S_impl_PlantFoe)), (2, .arr 109 3 (a0_2.map en_S_impl_PlantPlace)), (3, .arr 135 4 (a0_3.map en_S_impl_PlantValve)), (4, .box [.own 0 a0_0.length, .own 1 a0_1.length, .own 2 a0_2.length, .own 3 a0_3.length])] rfl ⟨.inl rfl, ⟨.inl rfl, trivial⟩⟩ ⟨rfl, ⟨rfl, ⟨rfl, ⟨rfl, ⟨rfl, trivial⟩⟩⟩⟩⟩ ?_
  conv => whnf
  revert H; refine bind_elim (fun t2544 A H => ?_)
  refine call_mk2 [2] (laws_markPlantPlaceS.ac A) ⟨rfl, trivial⟩ rfl rfl rfl rfl rfl rfl rfl rfl ?_
  conv => whnf
  revert H; refine bind_elim (fun t2546 A H => ?_)
  refine call_mk2 [3] (laws_markPlantValveS.ac A) ⟨rfl, trivial⟩ rfl rfl rfl rfl rfl rfl rfl rfl ?_
  conv => whnf
  refine cut_ 180 [(1, .int .i64 t2546.1)] [(0, .arr 9 1 (t2540.2.map en_str)), (1, .arr 168 2 (t2542.2.map en_S_impl_PlantFoe)), (2, .arr 109 3 (t2544.2.map en_S_impl_PlantPlace)), (3, .arr 135 4 (t2546.2.map en_S_impl_PlantValve))] rfl ⟨.inl rfl, trivial⟩ ⟨rfl, ⟨rfl, ⟨rfl, ⟨rfl, trivial⟩⟩⟩⟩ ?_
  conv => whnf
  injection H with H; subst H
  exact ret_gen [some 0, some 1, some 2, some 3] [] ((rtA_eq rfl)) ⟨rfl, ⟨rfl, ⟨rfl, ⟨rfl, trivial⟩⟩⟩⟩ rfl
theorem laws_markPlantMarkS.l0_lp {F : (Exit → St → Prop) → St → Prop} {hv : List Tmp} {Q : Exit → St → Prop} {σ : St} {r : Int × (List S_impl_PlantMark)} {k : Nat} {l0 : List S_impl_PlantMark} {x1 : Int} {x5 : Int} {x1000 : List S_impl_PlantMark} (H : laws_markPlantMarkS.l0 k l0 x1 x5 x1000 = some r) (rn : List (Option Nat)) (h1 : Fits σ σ [0] [(1, .int .i64 x1), (5, .int .i64 x5)] [(0, .arr 133 2 (x1000.map en_S_impl_PlantMark))] [] rn)
    (h2 : ∀ (k0 : Nat) (x1 : Int) (x5 : Int) (x1000 : List S_impl_PlantMark), k0 < k + 1 → laws_markPlantMarkS.l0 k0 l0 x1 x5 x1000 = some r → headN σ hv [0] [(1, .int .i64 x1), (5, .int .i64 x5)] [(0, .arr 133 2 (x1000.map en_S_impl_PlantMark))] [] (F (fun e σ' => match e with | .normal => ∃ (y : Nat × Int × Int × (List S_impl_PlantMark)) (rn : List (Option Nat)), (laws_markPlantMarkS.l0 y.1 l0 y.2.1 y.2.2.1 y.2.2.2 = some r ∧ y.1 < k + 1) ∧ y.1 < k0 ∧ Fits σ σ' [0] [(1, .int .i64 y.2.1), (5, .int .i64 y.2.2.1)] [(0, .arr 133 2 (y.2.2.2.map en_S_impl_PlantMark))] [] rn | e => Q e σ'))) : Lp F hv Q σ := by
  unfold Lp
  refine ⟨Nat × Int × Int × (List S_impl_PlantMark), fun x => laws_markPlantMarkS.l0 x.1 l0 x.2.1 x.2.2.1 x.2.2.2 = some r ∧ x.1 < k + 1, fun x => x.1, [0], fun x => [(1, .int .i64 x.2.1), (5, .int .i64 x.2.2.1)], fun x => [(0, .arr 133 2 (x.2.2.2.map en_S_impl_PlantMark))], fun x => [], ⟨(k, x1, x5, x1000), rn, ⟨H, Nat.lt_succ_self _⟩, h1⟩, ?_⟩
  rintro ⟨k, x1, x5, x1000⟩ ⟨H, hk⟩
  exact h2 k x1 x5 x1000 hk H
theorem laws_markPlantMarkS.ac {k : Nat} {l0 : List S_impl_PlantMark} {a1 : Int} {r : Int × (List S_impl_PlantMark)} (H : laws_markPlantMarkS.f k l0 a1 = some r) : ACalls Try.prog G 107 [.arr 133 2 (l0.map en_S_impl_PlantMark)] [.own 0 l0.length, .int .i64 a1] [.arr 133 2 (r.2.map en_S_impl_PlantMark)] (.int .i64 r.1) := by
  refine acalls_of tok hP Try.func107 rfl (by kernel_rfl) [.tmp 4] rfl (by kernel_rfl) (Nat.le_of_ble_eq_true rfl) (.l .n (.l (.l .n (.l .n (.c (.c .n .n) .n))) .n)) rfl ?_
  unfold laws_markPlantMarkS.f at H
  conv => whnf
  refine laws_markPlantMarkS.l0_lp (l0 := l0) (k := k) H [] (fits_of ⟨.inl ⟨rfl, rfl⟩, ⟨.inl ⟨rfl, rfl⟩, trivial⟩⟩ trivial fi_ ⟨⟨_, rfl⟩, rfl, trivial⟩ rfl) ?_
  intro k x1 x5 x1000 hk H; rcases k with _ | k; exact none_elim H; rw [laws_markPlantMarkS.l0] at H; conv => whnf
  refine chk_ H (fun c H => ?_)
  refine br_d H (fun c H => ?_) (fun c H => ?_)
  conv => whnf
  revert H; refine bind_elim (fun t3170 A H => ?_)
  refine call_mk (laws_markText.ac A) (avAL_cons (avA_shut' rfl) (avAL_nil)) (Or.inl rfl) rfl rfl (Nat.le_of_ble_eq_true rfl) ?_
  conv => whnf
  refine nd_ H (fun c H => ?_)
  conv => whnf
  refine Nd.mk nf_ ?_
  conv => whnf
  refine El.mk (rdm_en_S_impl_PlantMark _ _ nf_ nf_) ?_
  conv => whnf
  refine cut_ 105 [(0, .own 0 l0.length), (1, .int .i64 x1), (5, .int .i64 x5)] [(0, .arr 133 2 ((x1000.set (x5).toNat (⟨t3170, (rd_impl_PlantMark x1000 x5).f1⟩ : S_impl_PlantMark)).map en_S_impl_PlantMark))] rfl ⟨.inl rfl, ⟨.inl rfl, ⟨.inl rfl, trivial⟩⟩⟩ ⟨fm_, trivial⟩ ?_
  conv => whnf
  revert H; refine bind_elim (fun t3171 A H => ?_)
  refine call_mk (laws_markText.ac A) (avAL_cons (avA_shut' rfl) (avAL_nil)) (Or.inl rfl) rfl rfl (Nat.le_of_ble_eq_true rfl) ?_
  conv => whnf
  refine Nd.mk nf_ ?_
  conv => whnf
  refine Nd.mk nf_ ?_
  conv => whnf
  refine El.mk (el_of (ys := (x1000.set (x5).toNat (⟨t3170, (rd_impl_PlantMark x1000 x5).f1⟩ : S_impl_PlantMark)).map en_S_impl_PlantMark) lm_ (rdms en_S_impl_PlantMark _ _ _ nf_ nf_)) ?_
  conv => whnf
  refine cut_ 209 [(0, .own 0 l0.length), (1, .int .i64 (wrap64 ((wrap64 (x1 + 1)) + 1))), (5, .int .i64 x5)] [(0, .arr 133 2 ((x1000.set (x5).toNat (⟨t3170, t3171⟩ : S_impl_PlantMark)).map en_S_impl_PlantMark))] rfl ⟨.inl rfl, ⟨.inl rfl, ⟨.inl rfl, trivial⟩⟩⟩ ⟨fm_, trivial⟩ ?_
  conv => whnf
  exact ⟨(k, wrap64 ((wrap64 (x1 + 1)) + 1), wrap64 (x5 + 1), (x1000.set (x5).toNat (⟨t3170, t3171⟩ : S_impl_PlantMark))), [], ⟨H, lt_⟩, lt_, (fits_of ⟨.inl ⟨rfl, rfl⟩, ⟨.inl ⟨rfl, rfl⟩, trivial⟩⟩ trivial fi_ ⟨⟨_, rfl⟩, rfl, trivial⟩ rfl)⟩
  conv => whnf
  injection H with H; subst H
  exact ret_gen [some 0] [] ((rtA_eq rfl)) ⟨rfl, trivial⟩ rfl
theorem laws_markPlantIndex.ac {k : Nat} {a0_0 : List ByteArray} {a0_1 : List S_impl_PlantMark} {a1 : Int} {r : Int × (List ByteArray) × (List S_impl_PlantMark)} (H : laws_markPlantIndex.f k a0_0 a0_1 a1 = some r) : ACalls Try.prog G 44 [.arr 9 1 (a0_0.map en_str), .arr 133 2 (a0_1.map en_S_impl_PlantMark)] [.agg [.own 0 a0_0.length, .own 1 a0_1.length], .int .i64 a1] [.arr 9 1 (r.2.1.map en_str), .arr 133 2 (r.2.2.map en_S_impl_PlantMark)] (.int .i64 r.1) := by
  refine acalls_of tok hP Try.func44 rfl (by kernel_rfl) [.tmp 4] rfl (by kernel_rfl) (Nat.le_of_ble_eq_true rfl) (.l .n (.l .n (.c .n .n))) rfl ?_
  unfold laws_markPlantIndex.f at H
  conv => whnf
  revert H; refine bind_elim (fun t3218 A H => ?_)
  refine call_mk2 [0] (laws_markStringS.ac A) ⟨rfl, trivial⟩ rfl rfl rfl rfl rfl rfl rfl rfl ?_
  conv => whnf
  revert H; refine bind_elim (fun t3220 A H => ?_)
  refine call_mk2 [1] (laws_markPlantMarkS.ac A) ⟨rfl, trivial⟩ rfl rfl rfl rfl rfl rfl rfl rfl ?_
  conv => whnf
  refine cut_ 98 [(1, .int .i64 t3220.1)] [(0, .arr 9 1 (t3218.2.map en_str)), (1, .arr 133 2 (t3220.2.map en_S_impl_PlantMark))] rfl ⟨.inl rfl, trivial⟩ ⟨rfl, ⟨rfl, trivial⟩⟩ ?_
  conv => whnf
  injection H with H; subst H
  exact ret_gen [some 0, some 1] [] ((rtA_eq rfl)) ⟨rfl, ⟨rfl, trivial⟩⟩ rfl
theorem laws_heldStringS.l0_lp {F : (Exit → St → Prop) → St → Prop} {hv : List Tmp} {Q : Exit → St → Prop} {σ : St} {r : Int} {k : Nat} {l0 : List ByteArray} {x1 : Int} {x5 : Int} (H : laws_heldStringS.l0 k l0 x1 x5 = some r) (rn : List (Option Nat)) (h1 : Fits σ σ [] [(1, .int .i64 x1), (5, .int .i64 x5)] [] [] rn)
    (h2 : ∀ (k0 : Nat) (x1 : Int) (x5 : Int), k0 < k + 1 → laws_heldStringS.l0 k0 l0 x1 x5 = some r → headN σ hv [] [(1, .int .i64 x1), (5, .int .i64 x5)] [] [] (F (fun e σ' => match e with | .normal => ∃ (y : Nat × Int × Int) (rn : List (Option Nat)), (laws_heldStringS.l0 y.1 l0 y.2.1 y.2.2 = some r ∧ y.1 < k + 1) ∧ y.1 < k0 ∧ Fits σ σ' [] [(1, .int .i64 y.2.1), (5, .int .i64 y.2.2)] [] [] rn | e => Q e σ'))) : Lp F hv Q σ := by
  unfold Lp
  refine ⟨Nat × Int × Int, fun x => laws_heldStringS.l0 x.1 l0 x.2.1 x.2.2 = some r ∧ x.1 < k + 1, fun x => x.1, [], fun x => [(1, .int .i64 x.2.1), (5, .int .i64 x.2.2)], fun x => [], fun x => [], ⟨(k, x1, x5), rn, ⟨H, Nat.lt_succ_self _⟩, h1⟩, ?_⟩
  rintro ⟨k, x1, x5⟩ ⟨H, hk⟩
  exact h2 k x1 x5 hk H
theorem laws_heldStringS.ac {k : Nat} {l0 : List ByteArray} {a1 : Int} {r : Int} (H : laws_heldStringS.f k l0 a1 = some r) : ACalls Try.prog G 22 [] [(sv_str l0), .int .i64 a1] [] (.int .i64 r) := by
  refine acalls_of tok hP Try.func22 rfl (by kernel_rfl) [.tmp 4] rfl (by kernel_rfl) (Nat.le_of_ble_eq_true rfl) (.l .n (.l (.l .n (.l .n (.l (.l (.c .n .n) .n) .n))) .n)) rfl ?_
  unfold laws_heldStringS.f at H
  conv => whnf
  refine laws_heldStringS.l0_lp (l0 := l0) (k := k) H [] (fits_of ⟨.inl ⟨rfl, rfl⟩, ⟨.inl ⟨rfl, rfl⟩, trivial⟩⟩ trivial fi_ trivial rfl) ?_
  intro k x1 x5 hk H; rcases k with _ | k; exact none_elim H; rw [laws_heldStringS.l0] at H; conv => whnf
  refine br_d H (fun c H => ?_) (fun c H => ?_)
  conv => whnf
  refine nd_ H (fun c H => ?_)
  conv => whnf
  refine Nd.mk nf_ ?_
  conv => whnf
  refine El.mk (rdm_en_str _ _ nf_ nf_) ?_
  conv => whnf
  revert H; refine bind_elim (fun t3479 A H => ?_)
  refine call_mk (laws_markText.ac A) (avAL_cons (avA_shut' rfl) (avAL_nil)) (Or.inl rfl) rfl rfl (Nat.le_of_ble_eq_true rfl) ?_
  conv => whnf
  refine cut_ 104 [(0, (sv_str l0)), (1, .int .i64 x1), (5, .int .i64 x5), (18, .bool (!(decide ((rdOf ByteArray.empty l0 x5).toList = t3479.toList))))] [] rfl ⟨.inl rfl, ⟨.inl rfl, ⟨.inl rfl, ⟨.inl rfl, trivial⟩⟩⟩⟩ trivial ?_
  conv => whnf
  refine br_nd H (fun c H => ?_) (fun c H => ?_)
  conv => whnf
  exact ⟨(k, wrap64 (x1 + 1), wrap64 (x5 + 1)), [], ⟨H, lt_⟩, lt_, (fits_of ⟨.inl ⟨rfl, rfl⟩, ⟨.inl ⟨rfl, rfl⟩, trivial⟩⟩ trivial fi_ trivial rfl)⟩
  conv => whnf
  injection H with H; subst H
  exact ret_fz [] (rtA_eq rfl)
  conv => whnf
  injection H with H; subst H
  exact ret_fz [] (rtA_eq rfl)
theorem laws_heldPlantMarkS.l0_lp {F : (Exit → St → Prop) → St → Prop} {hv : List Tmp} {Q : Exit → St → Prop} {σ : St} {r : Int} {k : Nat} {l0 : List S_impl_PlantMark} {x1 : Int} {x5 : Int} (H : laws_heldPlantMarkS.l0 k l0 x1 x5 = some r) (rn : List (Option Nat)) (h1 : Fits σ σ [] [(1, .int .i64 x1), (5, .int .i64 x5)] [] [] rn)
    (h2 : ∀ (k0 : Nat) (x1 : Int) (x5 : Int), k0 < k + 1 → laws_heldPlantMarkS.l0 k0 l0 x1 x5 = some r → headN σ hv [] [(1, .int .i64 x1), (5, .int .i64 x5)] [] [] (F (fun e σ' => match e with | .normal => ∃ (y : Nat × Int × Int) (rn : List (Option Nat)), (laws_heldPlantMarkS.l0 y.1 l0 y.2.1 y.2.2 = some r ∧ y.1 < k + 1) ∧ y.1 < k0 ∧ Fits σ σ' [] [(1, .int .i64 y.2.1), (5, .int .i64 y.2.2)] [] [] rn | e => Q e σ'))) : Lp F hv Q σ := by
  unfold Lp
  refine ⟨Nat × Int × Int, fun x => laws_heldPlantMarkS.l0 x.1 l0 x.2.1 x.2.2 = some r ∧ x.1 < k + 1, fun x => x.1, [], fun x => [(1, .int .i64 x.2.1), (5, .int .i64 x.2.2)], fun x => [], fun x => [], ⟨(k, x1, x5), rn, ⟨H, Nat.lt_succ_self _⟩, h1⟩, ?_⟩
  rintro ⟨k, x1, x5⟩ ⟨H, hk⟩
  exact h2 k x1 x5 hk H
theorem laws_heldPlantMarkS.ac {k : Nat} {l0 : List S_impl_PlantMark} {a1 : Int} {r : Int} (H : laws_heldPlantMarkS.f k l0 a1 = some r) : ACalls Try.prog G 108 [] [(sv_S_impl_PlantMark l0), .int .i64 a1] [] (.int .i64 r) := by
  refine acalls_of tok hP Try.func108 rfl (by kernel_rfl) [.tmp 4] rfl (by kernel_rfl) (Nat.le_of_ble_eq_true rfl) (.l .n (.l (.l .n (.l .n (.l (.l (.c .n .n) (.l .n (.l (.c .n .n) .n))) .n))) .n)) rfl ?_
  unfold laws_heldPlantMarkS.f at H
  conv => whnf
  refine laws_heldPlantMarkS.l0_lp (l0 := l0) (k := k) H [] (fits_of ⟨.inl ⟨rfl, rfl⟩, ⟨.inl ⟨rfl, rfl⟩, trivial⟩⟩ trivial fi_ trivial rfl) ?_
  intro k x1 x5 hk H; rcases k with _ | k; exact none_elim H; rw [laws_heldPlantMarkS.l0] at H; conv => whnf
  refine br_d H (fun c H => ?_) (fun c H => ?_)
  conv => whnf
  refine nd_ H (fun c H => ?_)
  conv => whnf
  refine Nd.mk nf_ ?_
  conv => whnf
  refine El.mk (rdm_en_S_impl_PlantMark _ _ nf_ nf_) ?_
  conv => whnf
  revert H; refine bind_elim (fun t3540 A H => ?_)
  refine call_mk (laws_markText.ac A) (avAL_cons (avA_shut' rfl) (avAL_nil)) (Or.inl rfl) rfl rfl (Nat.le_of_ble_eq_true rfl) ?_
  conv => whnf
  refine cut_ 112 [(0, (sv_S_impl_PlantMark l0)), (1, .int .i64 x1), (5, .int .i64 x5), (19, .bool (!(decide (((rd_impl_PlantMark l0 x5).f0).toList = t3540.toList))))] [] rfl ⟨.inl rfl, ⟨.inl rfl, ⟨.inl rfl, ⟨.inl rfl, trivial⟩⟩⟩⟩ trivial ?_
  conv => whnf
  refine br_nd H (fun c H => ?_) (fun c H => ?_)
  conv => whnf
  refine Nd.mk nf_ ?_
  conv => whnf
  refine Nd.mk nf_ ?_
  conv => whnf
  refine El.mk (rdm_en_S_impl_PlantMark _ _ nf_ nf_) ?_
  conv => whnf
  revert H; refine bind_elim (fun t3541 A H => ?_)
  refine call_mk (laws_markText.ac A) (avAL_cons (avA_shut' rfl) (avAL_nil)) (Or.inl rfl) rfl rfl (Nat.le_of_ble_eq_true rfl) ?_
  conv => whnf
  refine cut_ 200 [(0, (sv_S_impl_PlantMark l0)), (1, .int .i64 (wrap64 (x1 + 1))), (5, .int .i64 x5), (29, .bool (!(decide (((rd_impl_PlantMark l0 x5).f1).toList = t3541.toList))))] [] rfl ⟨.inl rfl, ⟨.inl rfl, ⟨.inl rfl, ⟨.inl rfl, trivial⟩⟩⟩⟩ trivial ?_
  conv => whnf
  refine br_nd H (fun c H => ?_) (fun c H => ?_)
  conv => whnf
  exact ⟨(k, wrap64 ((wrap64 (x1 + 1)) + 1), wrap64 (x5 + 1)), [], ⟨H, lt_⟩, lt_, (fits_of ⟨.inl ⟨rfl, rfl⟩, ⟨.inl ⟨rfl, rfl⟩, trivial⟩⟩ trivial fi_ trivial rfl)⟩
  conv => whnf
  injection H with H; subst H
  exact ret_fz [] (rtA_eq rfl)
  conv => whnf
  injection H with H; subst H
  exact ret_fz [] (rtA_eq rfl)
  conv => whnf
  injection H with H; subst H
  exact ret_fz [] (rtA_eq rfl)
theorem laws_heldPlantIndex.ac {k : Nat} {a0_0 : List ByteArray} {a0_1 : List S_impl_PlantMark} {a1 : Int} {r : Int} (H : laws_heldPlantIndex.f k a0_0 a0_1 a1 = some r) : ACalls Try.prog G 45 [] [.agg [(sv_str a0_0), (sv_S_impl_PlantMark a0_1)], .int .i64 a1] [] (.int .i64 r) := by
  refine acalls_of tok hP Try.func45 rfl (by kernel_rfl) [.tmp 4] rfl (by kernel_rfl) (Nat.le_of_ble_eq_true rfl) (.l .n (.l .n (.l (.l .n (.l (.c .n .n) .n)) (.c .n .n)))) rfl ?_
  unfold laws_heldPlantIndex.f at H
  conv => whnf
  revert H; refine bind_elim (fun t3543 A H => ?_)
  refine call_mk (laws_heldStringS.ac A) (avAL_cons (avA_shut' rfl) (avAL_cons (avA_shut' rfl) (avAL_nil))) (Or.inl rfl) rfl rfl (Nat.le_of_ble_eq_true rfl) ?_
  conv => whnf
  refine br_d H (fun c H => ?_) (fun c H => ?_)
  conv => whnf
  refine cut_ 80 [(4, .int .i64 (-1))] [] rfl ⟨.inl rfl, trivial⟩ trivial ?_
  conv => whnf
  injection H with H; subst H
  exact ret_fz [] (rtA_eq rfl)
  conv => whnf
  revert H; refine bind_elim (fun t3545 A H => ?_)
  refine call_mk (laws_heldPlantMarkS.ac A) (avAL_cons (avA_shut' rfl) (avAL_cons (avA_shut' rfl) (avAL_nil))) (Or.inl rfl) rfl rfl (Nat.le_of_ble_eq_true rfl) ?_
  conv => whnf
  refine cut_ 112 [(1, .int .i64 t3545)] [] rfl ⟨.inl rfl, trivial⟩ trivial ?_
  conv => whnf
  refine br_d H (fun c H => ?_) (fun c H => ?_)
  conv => whnf
  injection H with H; subst H
  exact ret_fz [] (rtA_eq rfl)
  conv => whnf
  injection H with H; subst H
  exact ret_fz [] (rtA_eq rfl)
theorem laws_FnExactPlantTurn.ac {k : Nat} {a0_0 : List ByteArray} {a0_1 : List S_laws_PlantFoe} {a0_2 : List S_laws_PlantPlace} {a0_3 : List S_laws_PlantValve} {a1_0 : List ByteArray} {a1_1 : List S_laws_PlantMark} {a2 : ByteArray} {a3 : Bool} {r : Bool} (H : laws_FnExactPlantTurn.f k a0_0 a0_1 a0_2 a0_3 a1_0 a1_1 a2 a3 = some r) : ACalls Try.prog G 8 [] [.agg [(sv_str a0_0), (sv_S_laws_PlantFoe a0_1), (sv_S_laws_PlantPlace a0_2), (sv_S_laws_PlantValve a0_3)], .agg [(sv_str a1_0), (sv_S_laws_PlantMark a1_1)], .str a2, .bool a3] [] (.bool r) := by
  refine acalls_of tok hP Try.func8 rfl (by kernel_rfl) [.tmp 8] rfl (by kernel_rfl) (Nat.le_of_ble_eq_true rfl) (.l .n (.l .n (.l .n (.c .n (.l .n (.l .n (.l .n (.c .n (.l .n (.l .n (.c .n (.l .n (.l (.l .n (.l (.c .n .n) .n)) (.l (.c .n .n) (.l .n (.l .n (.l .n (.l (.c .n (.l (.c .n .n) .n)) (.l .n (.l .n (.l .n (.c .n (.l .n (.l .n (.c .n (.l .n (.l .n (.l .n (.l (.c .n .n) .n))))))))))))))))))))))))))))) rfl ?_
  unfold laws_FnExactPlantTurn.f at H
  conv => whnf
  refine br_d H (fun c H => ?_) (fun c H => ?_)
  conv => whnf
  injection H with H; subst H
  exact ret_fz [] (rtA_eq rfl)
  conv => whnf
  revert H; refine bind_elim (fun t3547 A H => ?_)
  refine call_mk (laws_szPlant.ac A) (avAL_cons (avA_agg (avL_cons (av_shut' rfl) (avL_cons (av_shut' rfl) (avL_cons (av_shut' rfl) (avL_cons (av_shut' rfl) (avL_nil)))))) (avAL_cons (avA_shut' rfl) (avAL_nil))) (Or.inl rfl) rfl rfl (Nat.le_of_ble_eq_true rfl) ?_
  conv => whnf
  refine cut_ 88 [(2, .str a2), (3, .bool a3), (4, .bp 0 0), (5, .bp 8 0), (9, .int .i64 t3547)] [(0, .box [(sv_str a0_0), (sv_S_laws_PlantFoe a0_1), (sv_S_laws_PlantPlace a0_2), (sv_S_laws_PlantValve a0_3)]), (8, .box [(sv_str a1_0), (sv_S_laws_PlantMark a1_1)])] rfl ⟨.inl rfl, ⟨.inl rfl, ⟨.inl rfl, ⟨.inl rfl, ⟨.inl rfl, trivial⟩⟩⟩⟩⟩ ⟨rfl, ⟨rfl, trivial⟩⟩ ?_
  conv => whnf
  refine br_d H (fun c H => ?_) (fun c H => ?_)
  conv => whnf
  injection H with H; subst H
  exact ret_fz [] (rtA_eq rfl)
  conv => whnf
  revert H; refine bind_elim (fun t3549 A H => ?_)
  refine call_mk (laws_szPlantIndex.ac A) (avAL_cons (avA_agg (avL_cons (av_shut' rfl) (avL_cons (av_shut' rfl) (avL_nil)))) (avAL_cons (avA_shut' rfl) (avAL_nil))) (Or.inl rfl) rfl rfl (Nat.le_of_ble_eq_true rfl) ?_
  conv => whnf
  refine br_d H (fun c H => ?_) (fun c H => ?_)
  conv => whnf
  injection H with H; subst H
  exact ret_fz [] (rtA_eq rfl)
  conv => whnf
  revert H; refine bind_elim (fun t3553 A H => ?_)
  refine call_mk (laws_toPlant.ac A) (avAL_cons (avA_agg (avL_cons (av_shut' rfl) (avL_cons (av_shut' rfl) (avL_cons (av_shut' rfl) (avL_cons (av_shut' rfl) (avL_nil)))))) (avAL_nil)) (Or.inl rfl) rfl rfl (Nat.le_of_ble_eq_true rfl) ?_
  conv => whnf
  revert H; refine bind_elim (fun t3554 A H => ?_)
  refine call_mk (laws_toPlantIndex.ac A) (avAL_cons (avA_agg (avL_cons (av_shut' rfl) (avL_cons (av_shut' rfl) (avL_nil)))) (avAL_nil)) (Or.inl rfl) rfl rfl (Nat.le_of_ble_eq_true rfl) ?_
  conv => whnf
  revert H; refine bind_elim (fun t3555 A H => ?_)
  refine call_mk (spec_PlantTurn.ac A) (avAL_cons (avA_agg (avL_cons (av_shut' rfl) (avL_cons (av_shut' rfl) (avL_cons (av_shut' rfl) (avL_cons (av_shut' rfl) (avL_nil)))))) (avAL_cons (avA_agg (avL_cons (av_shut' rfl) (avL_cons (av_shut' rfl) (avL_nil)))) (avAL_cons (avA_shut' rfl) (avAL_cons (avA_shut' rfl) (avAL_nil))))) (Or.inl rfl) rfl rfl (Nat.le_of_ble_eq_true rfl) ?_
  conv => whnf
  refine cut_ 224 [(2, .str a2), (3, .bool a3), (4, .bp 0 0), (5, .bp 8 0), (10, .bp 208 0)] [(0, .box [(sv_str a0_0), (sv_S_laws_PlantFoe a0_1), (sv_S_laws_PlantPlace a0_2), (sv_S_laws_PlantValve a0_3)]), (8, .box [(sv_str a1_0), (sv_S_laws_PlantMark a1_1)]), (208, .box [(sv_str t3555.1), (sv_S_impl_PlantMark t3555.2)])] rfl ⟨.inl rfl, ⟨.inl rfl, ⟨.inl rfl, ⟨.inl rfl, ⟨.inl rfl, trivial⟩⟩⟩⟩⟩ ⟨rfl, ⟨rfl, ⟨rfl, trivial⟩⟩⟩ ?_
  conv => whnf
  revert H; refine bind_elim (fun t3557 A H => ?_)
  refine call_mk (laws_toPlant.acO A) (avAL_cons (avA_agg (avL_cons (av_shut' rfl) (avL_cons (av_shut' rfl) (avL_cons (av_shut' rfl) (avL_cons (av_shut' rfl) (avL_nil)))))) (avAL_nil)) (Or.inl rfl) rfl rfl (Nat.le_of_ble_eq_true rfl) ?_
  conv => whnf
  revert H; refine bind_elim (fun t3559 A H => ?_)
  refine call_mk (laws_toPlantIndex.acO A) (avAL_cons (avA_agg (avL_cons (av_shut' rfl) (avL_cons (av_shut' rfl) (avL_nil)))) (avAL_nil)) (Or.inl rfl) rfl rfl (Nat.le_of_ble_eq_true rfl) ?_
  conv => whnf
  revert H; refine bind_elim (fun t3561 A H => ?_)
  refine call_mk (impl_PlantTurn.acO A) (avAL_cons (avA_agg (avL_cons (av_own rfl rfl) (avL_cons (av_own rfl rfl) (avL_cons (av_own rfl rfl) (avL_cons (av_own rfl rfl) (avL_nil)))))) (avAL_cons (avA_agg (avL_cons (av_own rfl rfl) (avL_cons (av_own rfl rfl) (avL_nil)))) (avAL_cons (avA_shut' rfl) (avAL_cons (avA_shut' rfl) (avAL_nil))))) (Or.inr ⟨rfl, bo_cons (bo_arr bare_en_str) (bo_cons (bo_arr bare_en_S_impl_PlantMark) (bo_nil))⟩) rfl rfl (Nat.le_of_ble_eq_true rfl) ?_
  conv => whnf
  refine cut_ 344 [(2, .str a2), (3, .bool a3), (4, .bp 0 0), (5, .bp 8 0), (10, .bp 208 0), (11, .bp 240 0), (12, .bp 272 0), (13, .bp 328 0)] [(0, .box [(sv_str a0_0), (sv_S_laws_PlantFoe a0_1), (sv_S_laws_PlantPlace a0_2), (sv_S_laws_PlantValve a0_3)]), (8, .box [(sv_str a1_0), (sv_S_laws_PlantMark a1_1)]), (208, .box [(sv_str t3555.1), (sv_S_impl_PlantMark t3555.2)]), (232, .arr 9 1 (t3557.1.map en_str)), (233, .arr 168 2 (t3557.2.1.map en_S_impl_PlantFoe)), (234, .arr 109 3 (t3557.2.2.1.map en_S_impl_PlantPlace)), (235, .arr 135 4 (t3557.2.2.2.map en_S_impl_PlantValve)), (240, .box [.own 232 t3557.1.length, .own 233 t3557.2.1.length, .own 234 t3557.2.2.1.length, .own 235 t3557.2.2.2.length]), (264, .arr 9 1 (t3559.1.map en_str)), (265, .arr 133 2 (t3559.2.map en_S_impl_PlantMark)), (272, .box [.own 264 t3559.1.length, .own 265 t3559.2.length]), (320, .arr 9 1 (t3561.1.map en_str)), (321, .arr 133 2 (t3561.2.map en_S_impl_PlantMark)), (328, .box [.own 320 t3561.1.length, .own 321 t3561.2.length])] rfl ⟨.inl rfl, ⟨.inl rfl, ⟨.inl rfl, ⟨.inl rfl, ⟨.inl rfl, ⟨.inl rfl, ⟨.inl rfl, ⟨.inl rfl, trivial⟩⟩⟩⟩⟩⟩⟩⟩ ⟨rfl, ⟨rfl, ⟨rfl, ⟨rfl, ⟨rfl, ⟨rfl, ⟨rfl, ⟨rfl, ⟨rfl, ⟨rfl, ⟨rfl, ⟨rfl, ⟨rfl, ⟨rfl, trivial⟩⟩⟩⟩⟩⟩⟩⟩⟩⟩⟩⟩⟩⟩ ?_
  conv => whnf
  revert H; refine bind_elim (fun t3564 A H => ?_)
  refine call_mk (laws_eqPlantIndex.ac A) (avAL_cons (avA_agg (avL_cons (av_own rfl rfl) (avL_cons (av_own rfl rfl) (avL_nil)))) (avAL_cons (avA_agg (avL_cons (av_shut' rfl) (avL_cons (av_shut' rfl) (avL_nil)))) (avAL_nil))) (Or.inr ⟨rfl, bo_nil⟩) rfl rfl (Nat.le_of_ble_eq_true rfl) ?_
  conv => whnf
  refine br_nt H (fun c H => ?_) (fun c H => ?_)
  conv => whnf
  revert H; refine bind_elim (fun t3569 A H => ?_)
  refine call_mk (laws_toPlant.ac A) (avAL_cons (avA_agg (avL_cons (av_shut' rfl) (avL_cons (av_shut' rfl) (avL_cons (av_shut' rfl) (avL_cons (av_shut' rfl) (avL_nil)))))) (avAL_nil)) (Or.inl rfl) rfl rfl (Nat.le_of_ble_eq_true rfl) ?_
  conv => whnf
  revert H; refine bind_elim (fun t3570 A H => ?_)
  refine call_mk (laws_eqPlant.ac A) (avAL_cons (avA_agg (avL_cons (av_own rfl rfl) (avL_cons (av_own rfl rfl) (avL_cons (av_own rfl rfl) (avL_cons (av_own rfl rfl) (avL_nil)))))) (avAL_cons (avA_agg (avL_cons (av_shut' rfl) (avL_cons (av_shut' rfl) (avL_cons (av_shut' rfl) (avL_cons (av_shut' rfl) (avL_nil)))))) (avAL_nil))) (Or.inr ⟨rfl, bo_nil⟩) rfl rfl (Nat.le_of_ble_eq_true rfl) ?_
  conv => whnf
  refine br_nt H (fun c H => ?_) (fun c H => ?_)
  conv => whnf
  revert H; refine bind_elim (fun t3575 A H => ?_)
  refine call_mk (laws_toPlantIndex.ac A) (avAL_cons (avA_agg (avL_cons (av_shut' rfl) (avL_cons (av_shut' rfl) (avL_nil)))) (avAL_nil)) (Or.inl rfl) rfl rfl (Nat.le_of_ble_eq_true rfl) ?_
  conv => whnf
  revert H; refine bind_elim (fun t3576 A H => ?_)
  refine call_mk (laws_eqPlantIndex.ac A) (avAL_cons (avA_agg (avL_cons (av_own rfl rfl) (avL_cons (av_own rfl rfl) (avL_nil)))) (avAL_cons (avA_agg (avL_cons (av_shut' rfl) (avL_cons (av_shut' rfl) (avL_nil)))) (avAL_nil))) (Or.inr ⟨rfl, bo_nil⟩) rfl rfl (Nat.le_of_ble_eq_true rfl) ?_
  conv => whnf
  refine cut_ 456 [(2, .str a2), (3, .bool a3), (4, .bp 0 0), (5, .bp 8 0), (10, .bp 208 0), (11, .bp 240 0), (12, .bp 272 0), (13, .bp 328 0), (60, .bool (!t3576))] [(0, .box [(sv_str a0_0), (sv_S_laws_PlantFoe a0_1), (sv_S_laws_PlantPlace a0_2), (sv_S_laws_PlantValve a0_3)]), (8, .box [(sv_str a1_0), (sv_S_laws_PlantMark a1_1)]), (208, .box [(sv_str t3555.1), (sv_S_impl_PlantMark t3555.2)]), (232, .arr 9 1 (t3557.1.map en_str)), (233, .arr 168 2 (t3557.2.1.map en_S_impl_PlantFoe)), (234, .arr 109 3 (t3557.2.2.1.map en_S_impl_PlantPlace)), (235, .arr 135 4 (t3557.2.2.2.map en_S_impl_PlantValve)), (240, .box [.own 232 t3557.1.length, .own 233 t3557.2.1.length, .own 234 t3557.2.2.1.length, .own 235 t3557.2.2.2.length]), (264, .arr 9 1 (t3559.1.map en_str)), (265, .arr 133 2 (t3559.2.map en_S_impl_PlantMark)), (272, .box [.own 264 t3559.1.length, .own 265 t3559.2.length]), (320, .arr 9 1 (t3561.1.map en_str)), (321, .arr 133 2 (t3561.2.map en_S_impl_PlantMark)), (328, .box [.own 320 t3561.1.length, .own 321 t3561.2.length])] rfl ⟨.inl rfl, ⟨.inl rfl, ⟨.inl rfl, ⟨.inl rfl, ⟨.inl rfl, ⟨.inl rfl, ⟨.inl rfl, ⟨.inl rfl, ⟨.inl rfl, trivial⟩⟩⟩⟩⟩⟩⟩⟩⟩ ⟨rfl, ⟨rfl, ⟨rfl, ⟨rfl, ⟨rfl, ⟨rfl, ⟨rfl, ⟨rfl, ⟨rfl, ⟨rfl, ⟨rfl, ⟨rfl, ⟨rfl, ⟨rfl, trivial⟩⟩⟩⟩⟩⟩⟩⟩⟩⟩⟩⟩⟩⟩ ?_
  conv => whnf
  refine br_nt H (fun c H => ?_) (fun c H => ?_)
  conv => whnf
  revert H; refine bind_elim (fun t3578 A H => ?_)
  refine call_mk2 [232, 233, 234, 235] (laws_markPlant.ac A) ⟨rfl, ⟨rfl, ⟨rfl, ⟨rfl, trivial⟩⟩⟩⟩ rfl rfl rfl rfl rfl rfl rfl rfl ?_
  conv => whnf
  revert H; refine bind_elim (fun t3580 A H => ?_)
  refine call_mk2 [264, 265] (laws_markPlantIndex.ac A) ⟨rfl, ⟨rfl, trivial⟩⟩ rfl rfl rfl rfl rfl rfl rfl rfl ?_
  conv => whnf
  refine br_d H (fun c H => ?_) (fun c H => ?_)
  conv => whnf
  refine Br.t ft_ ?_
  conv => whnf
  refine Br.t ft_ ?_
  conv => whnf
  refine Br.t ft_ ?_
  conv => whnf
  refine Br.t ft_ ?_
  conv => whnf
  refine cut_ 592 [(2, .str a2), (3, .bool a3), (4, .bp 0 0), (5, .bp 8 0), (10, .bp 208 0), (13, .bp 328 0), (74, .bool true)] [(0, .box [(sv_str a0_0), (sv_S_laws_PlantFoe a0_1), (sv_S_laws_PlantPlace a0_2), (sv_S_laws_PlantValve a0_3)]), (8, .box [(sv_str a1_0), (sv_S_laws_PlantMark a1_1)]), (208, .box [(sv_str t3555.1), (sv_S_impl_PlantMark t3555.2)]), (320, .arr 9 1 (t3561.1.map en_str)), (321, .arr 133 2 (t3561.2.map en_S_impl_PlantMark)), (328, .box [.own 320 t3561.1.length, .own 321 t3561.2.length])] rfl ⟨.inl rfl, ⟨.inl rfl, ⟨.inl rfl, ⟨.inl rfl, ⟨.inl rfl, ⟨.inl rfl, ⟨.inl rfl, trivial⟩⟩⟩⟩⟩⟩⟩ ⟨rfl, ⟨rfl, ⟨rfl, ⟨rfl, ⟨rfl, ⟨rfl, trivial⟩⟩⟩⟩⟩⟩ ?_
  conv => whnf
  refine Br.t rfl ?_
  conv => whnf
  refine cut_ 600 [(8, .bool false)] [] rfl ⟨.inl rfl, trivial⟩ trivial ?_
  conv => whnf
  injection H with H; subst H
  exact ret_fz [] (rtA_eq rfl)
  conv => whnf
  refine Br.f ff_ ?_
  conv => whnf
  refine Br.f ff_ ?_
  conv => whnf
  revert H; refine bind_elim (fun t3583 A H => ?_)
  refine call_mk (laws_eqPlantIndex.ac A) (avAL_cons (avA_agg (avL_cons (av_own rfl rfl) (avL_cons (av_own rfl rfl) (avL_nil)))) (avAL_cons (avA_agg (avL_cons (av_shut' rfl) (avL_cons (av_shut' rfl) (avL_nil)))) (avAL_nil))) (Or.inr ⟨rfl, bo_nil⟩) rfl rfl (Nat.le_of_ble_eq_true rfl) ?_
  conv => whnf
  refine Br.f ff_ ?_
  conv => whnf
  refine Br.f ff_ ?_
  conv => whnf
  refine cut_ 592 [(2, .str a2), (3, .bool a3), (4, .bp 0 0), (5, .bp 8 0), (10, .bp 208 0), (13, .bp 328 0), (74, .bool (!t3583))] [(0, .box [(sv_str a0_0), (sv_S_laws_PlantFoe a0_1), (sv_S_laws_PlantPlace a0_2), (sv_S_laws_PlantValve a0_3)]), (8, .box [(sv_str a1_0), (sv_S_laws_PlantMark a1_1)]), (208, .box [(sv_str t3555.1), (sv_S_impl_PlantMark t3555.2)]), (320, .arr 9 1 (t3561.1.map en_str)), (321, .arr 133 2 (t3561.2.map en_S_impl_PlantMark)), (328, .box [.own 320 t3561.1.length, .own 321 t3561.2.length])] rfl ⟨.inl rfl, ⟨.inl rfl, ⟨.inl rfl, ⟨.inl rfl, ⟨.inl rfl, ⟨.inl rfl, ⟨.inl rfl, trivial⟩⟩⟩⟩⟩⟩⟩ ⟨rfl, ⟨rfl, ⟨rfl, ⟨rfl, ⟨rfl, ⟨rfl, trivial⟩⟩⟩⟩⟩⟩ ?_
  conv => whnf
  refine br_nt H (fun c H => ?_) (fun c H => ?_)
  conv => whnf
  revert H; refine bind_elim (fun t3585 A H => ?_)
  refine call_mk2 [320, 321] (laws_markPlantIndex.ac A) ⟨rfl, ⟨rfl, trivial⟩⟩ rfl rfl rfl rfl rfl rfl rfl rfl ?_
  conv => whnf
  revert H; refine bind_elim (fun t3587 A H => ?_)
  refine call_mk (laws_heldPlantIndex.ac A) (avAL_cons (avA_agg (avL_cons (av_ownX rfl rfl lm_ lm_) (avL_cons (av_ownX rfl rfl lm_ lm_) (avL_nil)))) (avAL_cons (avA_shut' rfl) (avAL_nil))) (Or.inr ⟨rfl, bo_nil⟩) rfl rfl (Nat.le_of_ble_eq_true rfl) ?_
  conv => whnf
  refine cut_ 672 [(2, .str a2), (3, .bool a3), (4, .bp 0 0), (5, .bp 8 0), (10, .bp 208 0), (13, .bp 328 0), (15, .int .i64 t3585.1), (16, .int .i64 t3587)] [(0, .box [(sv_str a0_0), (sv_S_laws_PlantFoe a0_1), (sv_S_laws_PlantPlace a0_2), (sv_S_laws_PlantValve a0_3)]), (8, .box [(sv_str a1_0), (sv_S_laws_PlantMark a1_1)]), (208, .box [(sv_str t3555.1), (sv_S_impl_PlantMark t3555.2)]), (320, .arr 9 1 (t3585.2.1.map en_str)), (321, .arr 133 2 (t3585.2.2.map en_S_impl_PlantMark)), (328, .box [.own 320 t3561.1.length, .own 321 t3561.2.length])] rfl ⟨.inl rfl, ⟨.inl rfl, ⟨.inl rfl, ⟨.inl rfl, ⟨.inl rfl, ⟨.inl rfl, ⟨.inl rfl, ⟨.inl rfl, trivial⟩⟩⟩⟩⟩⟩⟩⟩ ⟨rfl, ⟨rfl, ⟨rfl, ⟨rfl, ⟨rfl, ⟨rfl, trivial⟩⟩⟩⟩⟩⟩ ?_
  conv => whnf
  refine br_d H (fun c H => ?_) (fun c H => ?_)
  conv => whnf
  injection H with H; subst H
  exact ret_fz [] (rtA_eq rfl)
  conv => whnf
  refine br_nd H (fun c H => ?_) (fun c H => ?_)
  conv => whnf
  revert H; refine bind_elim (fun t3591 A H => ?_)
  refine call_mk (laws_toPlant.ac A) (avAL_cons (avA_agg (avL_cons (av_shut' rfl) (avL_cons (av_shut' rfl) (avL_cons (av_shut' rfl) (avL_cons (av_shut' rfl) (avL_nil)))))) (avAL_nil)) (Or.inl rfl) rfl rfl (Nat.le_of_ble_eq_true rfl) ?_
  conv => whnf
  revert H; refine bind_elim (fun t3592 A H => ?_)
  refine call_mk (laws_toPlantIndex.ac A) (avAL_cons (avA_agg (avL_cons (av_shut' rfl) (avL_cons (av_shut' rfl) (avL_nil)))) (avAL_nil)) (Or.inl rfl) rfl rfl (Nat.le_of_ble_eq_true rfl) ?_
  conv => whnf
  revert H; refine bind_elim (fun t3593 A H => ?_)
  refine call_mk (impl_PlantTurn.ac A) (avAL_cons (avA_agg (avL_cons (av_shut' rfl) (avL_cons (av_shut' rfl) (avL_cons (av_shut' rfl) (avL_cons (av_shut' rfl) (avL_nil)))))) (avAL_cons (avA_agg (avL_cons (av_shut' rfl) (avL_cons (av_shut' rfl) (avL_nil)))) (avAL_cons (avA_shut' rfl) (avAL_cons (avA_shut' rfl) (avAL_nil))))) (Or.inl rfl) rfl rfl (Nat.le_of_ble_eq_true rfl) ?_
  conv => whnf
  refine cut_ 784 [(10, .bp 208 0), (13, .bp 328 0), (15, .int .i64 t3585.1), (17, .bp 768 0)] [(208, .box [(sv_str t3555.1), (sv_S_impl_PlantMark t3555.2)]), (320, .arr 9 1 (t3585.2.1.map en_str)), (321, .arr 133 2 (t3585.2.2.map en_S_impl_PlantMark)), (328, .box [.own 320 t3561.1.length, .own 321 t3561.2.length]), (768, .box [(sv_str t3593.1), (sv_S_impl_PlantMark t3593.2)])] rfl ⟨.inl rfl, ⟨.inl rfl, ⟨.inl rfl, ⟨.inl rfl, trivial⟩⟩⟩⟩ ⟨rfl, ⟨rfl, ⟨rfl, ⟨rfl, ⟨rfl, trivial⟩⟩⟩⟩⟩ ?_
  conv => whnf
  revert H; refine bind_elim (fun t3596 A H => ?_)
  refine call_mk (laws_eqPlantIndex.ac A) (avAL_cons (avA_agg (avL_cons (av_shut' rfl) (avL_cons (av_shut' rfl) (avL_nil)))) (avAL_cons (avA_agg (avL_cons (av_shut' rfl) (avL_cons (av_shut' rfl) (avL_nil)))) (avAL_nil))) (Or.inl rfl) rfl rfl (Nat.le_of_ble_eq_true rfl) ?_
  conv => whnf
  refine br_nt H (fun c H => ?_) (fun c H => ?_)
  conv => whnf
  revert H; refine bind_elim (fun t3598 A H => ?_)
  refine call_mk (laws_heldPlantIndex.ac A) (avAL_cons (avA_agg (avL_cons (av_ownX rfl rfl lm_ lm_) (avL_cons (av_ownX rfl rfl lm_ lm_) (avL_nil)))) (avAL_cons (avA_shut' rfl) (avAL_nil))) (Or.inr ⟨rfl, bo_nil⟩) rfl rfl (Nat.le_of_ble_eq_true rfl) ?_
  conv => whnf
  refine cut_ 872 [(15, .int .i64 t3585.1), (16, .int .i64 t3598), (101, .bool (decide (t3598 < 0)))] [] rfl ⟨.inl rfl, ⟨.inl rfl, ⟨.inl rfl, trivial⟩⟩⟩ trivial ?_
  conv => whnf
  refine br_d H (fun c H => ?_) (fun c H => ?_)
  conv => whnf
  injection H with H; subst H
  exact ret_fz [] (rtA_eq rfl)
  conv => whnf
  refine br_nd H (fun c H => ?_) (fun c H => ?_)
  conv => whnf
  injection H with H; subst H
  exact ret_fz [] (rtA_eq rfl)
  conv => whnf
  injection H with H; subst H
  exact ret_fz [] (rtA_eq rfl)
  conv => whnf
  injection H with H; subst H
  exact ret_fz [] (rtA_eq rfl)
  conv => whnf
  injection H with H; subst H
  exact ret_fz [] (rtA_eq rfl)
  conv => whnf
  refine cut_ 600 [(8, .bool false)] [] rfl ⟨.inl rfl, trivial⟩ trivial ?_
  conv => whnf
  injection H with H; subst H
  exact ret_fz [] (rtA_eq rfl)
  conv => whnf
  injection H with H; subst H
  exact ret_fz [] (rtA_eq rfl)
  conv => whnf
  refine cut_ 424 [(8, .bool false)] [] rfl ⟨.inl rfl, trivial⟩ trivial ?_
  conv => whnf
  injection H with H; subst H
  exact ret_fz [] (rtA_eq rfl)
  conv => whnf
  injection H with H; subst H
  exact ret_fz [] (rtA_eq rfl)

end Go.Proofs.Ytodeegjblililaa.PT

