import Derived.Test.YtodeegjblililaaZFnPlantTop2
import Derived.Shelf.Lay
import Derived.Shelf.Sort.AssemblyIn
import Derived.Ground.SoProg
import Derived.Test.YtodeegjblililaaProg
import Derived.KernelRfl
set_option linter.unusedVariables false
set_option linter.unusedSimpArgs false
namespace Go.Proofs.Ytodeegjblililaa.QU
open Go Go.Aw Go.RowKit Go.Proofs
set_option maxRecDepth 100000
set_option maxHeartbeats 40000000
variable {G : Nat → Option Obj}
attribute [local irreducible] callE Lp Sq Cut RetOk Fits
theorem spec_l2Spoil.ac {k : Nat} {a0_0 : List Int} {a0_1 : Int} {a1_0 : List ByteArray} {a1_1 : List S_impl_PlantFoe} {a1_2 : List S_impl_PlantPlace} {a1_3 : List S_impl_PlantValve} {r : (List ByteArray) × (List S_impl_PlantFoe) × (List S_impl_PlantPlace) × (List S_impl_PlantValve) × (List Int) × Int} (H : spec_l2Spoil.f k a0_0 a0_1 a1_0 a1_1 a1_2 a1_3 = some r) : ACalls Try.prog G 178 [.box [(sv_u8 a0_0), .int .i64 a0_1]] [.bp 0 0, .agg [(sv_str a1_0), (sv_S_impl_PlantFoe a1_1), (sv_S_impl_PlantPlace a1_2), (sv_S_impl_PlantValve a1_3)]] [.box [(sv_u8 r.2.2.2.2.1), .int .i64 r.2.2.2.2.2]] (.agg [(sv_str r.1), (sv_S_impl_PlantFoe r.2.1), (sv_S_impl_PlantPlace r.2.2.1), (sv_S_impl_PlantValve r.2.2.2.1)]) := by
  refine acalls_of tok hP Try.func178 rfl (by kernel_rfl) [.cell 4 44] rfl (by kernel_rfl) (Nat.le_of_ble_eq_true rfl) (.l .n (.l .n (.j (.l .n (.l .n (.l .n (.c .n (.l .n (.l .n (.l (.l .n (.l (.c .n .n) .n)) (.l .n (.l (.l .n (.l (.c .n .n) .n)) (.l .n (.l (.c .n .n) (.j .n (.l (.c .n (.l (.l .n (.l .n (.c .n .n))) .n)) (.l .n (.l (.c .n (.l .n (.l .n (.c .n .n)))) (.c .n (.l (.l .n (.l .n (.l (.c .n .n) (.c .n .n)))) (.l .n (.l .n (.l (.c .n .n) (.c .n .n))))))))))))))))))))) (.c .n .n)))) rfl ?_
  unfold spec_l2Spoil.f at H
  conv => whnf
  revert H; refine bind_elim (fun t8586 A H => ?_)
  refine call_mk (spec_l2Copy.acO A) (avAL_cons (avA_agg (avL_cons (av_shut' rfl) (avL_cons (av_shut' rfl) (avL_cons (av_shut' rfl) (avL_cons (av_shut' rfl) (avL_nil)))))) (avAL_nil)) (Or.inl rfl) rfl rfl (Nat.le_of_ble_eq_true rfl) ?_
  conv => whnf
  refine spec_l2Spoil.j0_sq (KK := k + 1) (r := r) ?_ ?_
  conv => whnf
  revert H; refine bind_elim (fun t8651 A H => ?_)
  refine call_mk2 [0] (spec_l1Rd_pick.ac A) ⟨rfl, trivial⟩ rfl rfl rfl rfl rfl rfl rfl rfl ?_
  conv => whnf
  refine br_d H (fun c H => ?_) (fun c H => ?_)
  conv => whnf
  refine Or.inr ?_
  conv => whnf
  revert H; refine bind_elim (fun t8652 A H => ?_)
  refine call_mk2 [0] (spec_l1Rd_of.ac A) ⟨rfl, trivial⟩ rfl rfl rfl rfl rfl (le_eq ⟨rfl, ⟨sl_e rfl lm_ lm_, trivial⟩⟩) rfl rfl ?_
  conv => whnf
  refine Or.inl ?_
  conv => whnf
  refine nd_ H (fun c H => ?_)
  conv => whnf
  exact ⟨(k, (t8586.1 ++ ([t8652.1] : List ByteArray)), t8586.2.1, t8586.2.2.1, t8586.2.2.2, t8652.2.1, t8652.2.2), [some 129, some 26, some 27, some 28], ⟨H, lt_⟩, (fits_of trivial ⟨fm_, ⟨rfl, ⟨rfl, ⟨rfl, trivial⟩⟩⟩⟩ fi_ ⟨⟨_, rfl⟩, ⟨_, rfl, ⟨mt_own lm_, ⟨rfl, ⟨rfl, ⟨rfl, trivial⟩⟩⟩⟩⟩, ⟨⟨_, rfl⟩, ⟨_, rfl, ⟨.inl ⟨rfl, rfl⟩, ⟨.inl ⟨rfl, rfl⟩, trivial⟩⟩⟩, trivial⟩⟩ rfl)⟩
  conv => whnf
  refine cut_ 97 [(0, .bp 0 0), (4, .bp 9 0), (5, .bp 33 0), (18, .int .i64 t8651.1), (65, .bool (decide (t8651.1 = 1)))] [(0, .box [(sv_u8 t8651.2.1), .int .i64 t8651.2.2]), (9, .box [.nil, .nil, .nil, .nil]), (25, .arr 9 1 (t8586.1.map en_str)), (26, .arr 168 2 (t8586.2.1.map en_S_impl_PlantFoe)), (27, .arr 109 3 (t8586.2.2.1.map en_S_impl_PlantPlace)), (28, .arr 135 4 (t8586.2.2.2.map en_S_impl_PlantValve)), (33, .box [.own 25 t8586.1.length, .own 26 t8586.2.1.length, .own 27 t8586.2.2.1.length, .own 28 t8586.2.2.2.length])] rfl ⟨.inl rfl, ⟨.inl rfl, ⟨.inl rfl, ⟨.inl rfl, ⟨.inl rfl, trivial⟩⟩⟩⟩⟩ ⟨rfl, ⟨rfl, ⟨rfl, ⟨rfl, ⟨rfl, ⟨rfl, ⟨rfl, trivial⟩⟩⟩⟩⟩⟩⟩ ?_
  conv => whnf
  refine br_d H (fun c H => ?_) (fun c H => ?_)
  conv => whnf
  refine Or.inr ?_
  conv => whnf
  revert H; refine bind_elim (fun t8653 A H => ?_)
  refine call_mk2 [0] (spec_l1Rd_of.ac A) ⟨rfl, trivial⟩ rfl rfl rfl rfl rfl (le_eq ⟨rfl, ⟨sl_e rfl lm_ lm_, trivial⟩⟩) rfl rfl ?_
  conv => whnf
  refine Or.inr ?_
  conv => whnf
  revert H; refine bind_elim (fun t8654 A H => ?_)
  refine call_mk2 [0] (spec_l1Rd_of.ac A) ⟨rfl, trivial⟩ rfl rfl rfl rfl rfl (le_eq ⟨rfl, ⟨sl_e rfl lm_ lm_, trivial⟩⟩) rfl rfl ?_
  conv => whnf
  refine Or.inl ?_
  conv => whnf
  refine nd_ H (fun c H => ?_)
  conv => whnf
  exact ⟨(k, t8586.1, (t8586.2.1 ++ ([(⟨t8653.1, t8654.1⟩ : S_impl_PlantFoe)] : List S_impl_PlantFoe)), t8586.2.2.1, t8586.2.2.2, t8654.2.1, t8654.2.2), [some 25, some 177, some 27, some 28], ⟨H, lt_⟩, (fits_of trivial ⟨rfl, ⟨fm_, ⟨rfl, ⟨rfl, trivial⟩⟩⟩⟩ fi_ ⟨⟨_, rfl⟩, ⟨_, rfl, ⟨rfl, ⟨mt_own lm_, ⟨rfl, ⟨rfl, trivial⟩⟩⟩⟩⟩, ⟨⟨_, rfl⟩, ⟨_, rfl, ⟨.inl ⟨rfl, rfl⟩, ⟨.inl ⟨rfl, rfl⟩, trivial⟩⟩⟩, trivial⟩⟩ rfl)⟩
  conv => whnf
  refine br_d H (fun c H => ?_) (fun c H => ?_)
  conv => whnf
  refine br_d H (fun c H => ?_) (fun c H => ?_)
  conv => whnf
  revert H; refine bind_elim (fun t8655 A H => ?_)
  refine call_mk2 [0] (spec_l1Rd_pick.ac A) ⟨rfl, trivial⟩ rfl rfl rfl rfl rfl rfl rfl rfl ?_
  conv => whnf
  refine cut_ 193 [(0, .bp 0 0), (4, .bp 9 0), (5, .bp 33 0), (6, .int .i64 t8655.1)] [(0, .box [(sv_u8 t8655.2.1), .int .i64 t8655.2.2]), (9, .box [.nil, .nil, .nil, .nil]), (25, .arr 9 1 (t8586.1.map en_str)), (26, .arr 168 2 (t8586.2.1.map en_S_impl_PlantFoe)), (27, .arr 109 3 (t8586.2.2.1.map en_S_impl_PlantPlace)), (28, .arr 135 4 (t8586.2.2.2.map en_S_impl_PlantValve)), (33, .box [.own 25 t8586.1.length, .own 26 t8586.2.1.length, .own 27 t8586.2.2.1.length, .own 28 t8586.2.2.2.length])] rfl ⟨.inl rfl, ⟨.inl rfl, ⟨.inl rfl, ⟨.inl rfl, trivial⟩⟩⟩⟩ ⟨rfl, ⟨rfl, ⟨rfl, ⟨rfl, ⟨rfl, ⟨rfl, ⟨rfl, trivial⟩⟩⟩⟩⟩⟩⟩ ?_
  conv => whnf
  refine Or.inr ?_
  conv => whnf
  revert H; refine bind_elim (fun t8656 A H => ?_)
  refine call_mk2 [0] (spec_l1Rd_of.ac A) ⟨rfl, trivial⟩ rfl rfl rfl rfl rfl (le_eq ⟨rfl, ⟨sl_e rfl lm_ lm_, trivial⟩⟩) rfl rfl ?_
  conv => whnf
  refine nd_ H (fun c H => ?_)
  conv => whnf
  refine nd_ H (fun c H => ?_)
  conv => whnf
  refine El.mk (rdm_en_S_impl_PlantPlace _ _ nf_ nf_) ?_
  conv => whnf
  exact ⟨(k, t8586.1, t8586.2.1, (t8586.2.2.1.set (t8655.1).toNat (⟨t8656.1, (rd_impl_PlantPlace t8586.2.2.1 t8655.1).f1, (rd_impl_PlantPlace t8586.2.2.1 t8655.1).f2⟩ : S_impl_PlantPlace)), t8586.2.2.2, t8656.2.1, t8656.2.2), [some 25, some 26, some 27, some 28], ⟨H, lt_⟩, (fits_of trivial ⟨rfl, ⟨rfl, ⟨fm_, ⟨rfl, trivial⟩⟩⟩⟩ fi_ ⟨⟨_, rfl⟩, ⟨_, rfl, ⟨rfl, ⟨rfl, ⟨mt_own lm_, ⟨rfl, trivial⟩⟩⟩⟩⟩, ⟨⟨_, rfl⟩, ⟨_, rfl, ⟨.inl ⟨rfl, rfl⟩, ⟨.inl ⟨rfl, rfl⟩, trivial⟩⟩⟩, trivial⟩⟩ rfl)⟩
  conv => whnf
  exact ⟨(k, t8586.1, t8586.2.1, t8586.2.2.1, t8586.2.2.2, t8651.2.1, t8651.2.2), [some 25, some 26, some 27, some 28], ⟨H, lt_⟩, (fits_of trivial ⟨rfl, ⟨rfl, ⟨rfl, ⟨rfl, trivial⟩⟩⟩⟩ fi_ ⟨⟨_, rfl⟩, ⟨_, rfl, ⟨rfl, ⟨rfl, ⟨rfl, ⟨rfl, trivial⟩⟩⟩⟩⟩, ⟨⟨_, rfl⟩, ⟨_, rfl, ⟨.inl ⟨rfl, rfl⟩, ⟨.inl ⟨rfl, rfl⟩, trivial⟩⟩⟩, trivial⟩⟩ rfl)⟩
  conv => whnf
  refine br_d H (fun c H => ?_) (fun c H => ?_)
  conv => whnf
  refine br_d H (fun c H => ?_) (fun c H => ?_)
  conv => whnf
  revert H; refine bind_elim (fun t8657 A H => ?_)
  refine call_mk2 [0] (spec_l1Rd_pick.ac A) ⟨rfl, trivial⟩ rfl rfl rfl rfl rfl rfl rfl rfl ?_
  conv => whnf
  refine cut_ 209 [(0, .bp 0 0), (4, .bp 9 0), (5, .bp 33 0), (7, .int .i64 t8657.1)] [(0, .box [(sv_u8 t8657.2.1), .int .i64 t8657.2.2]), (9, .box [.nil, .nil, .nil, .nil]), (25, .arr 9 1 (t8586.1.map en_str)), (26, .arr 168 2 (t8586.2.1.map en_S_impl_PlantFoe)), (27, .arr 109 3 (t8586.2.2.1.map en_S_impl_PlantPlace)), (28, .arr 135 4 (t8586.2.2.2.map en_S_impl_PlantValve)), (33, .box [.own 25 t8586.1.length, .own 26 t8586.2.1.length, .own 27 t8586.2.2.1.length, .own 28 t8586.2.2.2.length])] rfl ⟨.inl rfl, ⟨.inl rfl, ⟨.inl rfl, ⟨.inl rfl, trivial⟩⟩⟩⟩ ⟨rfl, ⟨rfl, ⟨rfl, ⟨rfl, ⟨rfl, ⟨rfl, ⟨rfl, trivial⟩⟩⟩⟩⟩⟩⟩ ?_
  conv => whnf
  refine Or.inl ?_
  conv => whnf
  revert H; refine bind_elim (fun t8658 A H => ?_)
  refine call_mk2 [0] (spec_l1Rd_pick.ac A) ⟨rfl, trivial⟩ rfl rfl rfl rfl rfl rfl rfl rfl ?_
  conv => whnf
  refine nd_ H (fun c H => ?_)
  conv => whnf
  refine nd_ H (fun c H => ?_)
  conv => whnf
  refine El.mk (el_of (ys := ([(-1), 0, 1000, 1001] : List Int).map en_i64) lm_ (rdm_en_i64 _ _ nf_ nf_)) ?_
  conv => whnf
  refine nd_ H (fun c H => ?_)
  conv => whnf
  refine nd_ H (fun c H => ?_)
  conv => whnf
  refine El.mk (rdm_en_S_impl_PlantPlace _ _ nf_ nf_) ?_
  conv => whnf
  exact ⟨(k, t8586.1, t8586.2.1, (t8586.2.2.1.set (t8657.1).toNat (⟨(rd_impl_PlantPlace t8586.2.2.1 t8657.1).f0, rd ([(-1), 0, 1000, 1001] : List Int) t8658.1, (rd_impl_PlantPlace t8586.2.2.1 t8657.1).f2⟩ : S_impl_PlantPlace)), t8586.2.2.2, t8658.2.1, t8658.2.2), [some 25, some 26, some 27, some 28], ⟨H, lt_⟩, (fits_of trivial ⟨rfl, ⟨rfl, ⟨fm_, ⟨rfl, trivial⟩⟩⟩⟩ fi_ ⟨⟨_, rfl⟩, ⟨_, rfl, ⟨rfl, ⟨rfl, ⟨mt_own lm_, ⟨rfl, trivial⟩⟩⟩⟩⟩, ⟨⟨_, rfl⟩, ⟨_, rfl, ⟨.inl ⟨rfl, rfl⟩, ⟨.inl ⟨rfl, rfl⟩, trivial⟩⟩⟩, trivial⟩⟩ rfl)⟩
  conv => whnf
  exact ⟨(k, t8586.1, t8586.2.1, t8586.2.2.1, t8586.2.2.2, t8651.2.1, t8651.2.2), [some 25, some 26, some 27, some 28], ⟨H, lt_⟩, (fits_of trivial ⟨rfl, ⟨rfl, ⟨rfl, ⟨rfl, trivial⟩⟩⟩⟩ fi_ ⟨⟨_, rfl⟩, ⟨_, rfl, ⟨rfl, ⟨rfl, ⟨rfl, ⟨rfl, trivial⟩⟩⟩⟩⟩, ⟨⟨_, rfl⟩, ⟨_, rfl, ⟨.inl ⟨rfl, rfl⟩, ⟨.inl ⟨rfl, rfl⟩, trivial⟩⟩⟩, trivial⟩⟩ rfl)⟩
  conv => whnf
  refine br_d H (fun c H => ?_) (fun c H => ?_)
  conv => whnf
  refine cut_ 177 [(0, .bp 0 0), (4, .bp 9 0), (5, .bp 33 0), (124, .bool (decide ((t8586.2.2.1.length : Int) > 0)))] [(0, .box [(sv_u8 t8651.2.1), .int .i64 t8651.2.2]), (9, .box [.nil, .nil, .nil, .nil]), (25, .arr 9 1 (t8586.1.map en_str)), (26, .arr 168 2 (t8586.2.1.map en_S_impl_PlantFoe)), (27, .arr 109 3 (t8586.2.2.1.map en_S_impl_PlantPlace)), (28, .arr 135 4 (t8586.2.2.2.map en_S_impl_PlantValve)), (33, .box [.own 25 t8586.1.length, .own 26 t8586.2.1.length, .own 27 t8586.2.2.1.length, .own 28 t8586.2.2.2.length])] rfl ⟨.inl rfl, ⟨.inl rfl, ⟨.inl rfl, ⟨.inl rfl, trivial⟩⟩⟩⟩ ⟨rfl, ⟨rfl, ⟨rfl, ⟨rfl, ⟨rfl, ⟨rfl, ⟨rfl, trivial⟩⟩⟩⟩⟩⟩⟩ ?_
  conv => whnf
  refine br_d H (fun c H => ?_) (fun c H => ?_)
  conv => whnf
  revert H; refine bind_elim (fun t8659 A H => ?_)
  refine call_mk2 [0] (spec_l1Rd_pick.ac A) ⟨rfl, trivial⟩ rfl rfl rfl rfl rfl rfl rfl rfl ?_
  conv => whnf
  refine Or.inr ?_
  conv => whnf
  revert H; refine bind_elim (fun t8660 A H => ?_)
  refine call_mk2 [0] (spec_l1Rd_of.ac A) ⟨rfl, trivial⟩ rfl rfl rfl rfl rfl (le_eq ⟨rfl, ⟨sl_e rfl lm_ lm_, trivial⟩⟩) rfl rfl ?_
  conv => whnf
  refine nd_ H (fun c H => ?_)
  conv => whnf
  refine nd_ H (fun c H => ?_)
  conv => whnf
  refine El.mk (rdm_en_S_impl_PlantPlace _ _ nf_ nf_) ?_
  conv => whnf
  exact ⟨(k, t8586.1, t8586.2.1, (t8586.2.2.1.set (t8659.1).toNat (⟨(rd_impl_PlantPlace t8586.2.2.1 t8659.1).f0, (rd_impl_PlantPlace t8586.2.2.1 t8659.1).f1, t8660.1⟩ : S_impl_PlantPlace)), t8586.2.2.2, t8660.2.1, t8660.2.2), [some 25, some 26, some 27, some 28], ⟨H, lt_⟩, (fits_of trivial ⟨rfl, ⟨rfl, ⟨fm_, ⟨rfl, trivial⟩⟩⟩⟩ fi_ ⟨⟨_, rfl⟩, ⟨_, rfl, ⟨rfl, ⟨rfl, ⟨mt_own lm_, ⟨rfl, trivial⟩⟩⟩⟩⟩, ⟨⟨_, rfl⟩, ⟨_, rfl, ⟨.inl ⟨rfl, rfl⟩, ⟨.inl ⟨rfl, rfl⟩, trivial⟩⟩⟩, trivial⟩⟩ rfl)⟩
  conv => whnf
  exact ⟨(k, t8586.1, t8586.2.1, t8586.2.2.1, t8586.2.2.2, t8651.2.1, t8651.2.2), [some 25, some 26, some 27, some 28], ⟨H, lt_⟩, (fits_of trivial ⟨rfl, ⟨rfl, ⟨rfl, ⟨rfl, trivial⟩⟩⟩⟩ fi_ ⟨⟨_, rfl⟩, ⟨_, rfl, ⟨rfl, ⟨rfl, ⟨rfl, ⟨rfl, trivial⟩⟩⟩⟩⟩, ⟨⟨_, rfl⟩, ⟨_, rfl, ⟨.inl ⟨rfl, rfl⟩, ⟨.inl ⟨rfl, rfl⟩, trivial⟩⟩⟩, trivial⟩⟩ rfl)⟩
  conv => whnf
  refine spec_l2Spoil.j1_sq (t8586 := t8586) (t8651 := t8651) (KK := k + 1) (r := r) ?_ ?_
  conv => whnf
  refine br_d H (fun c H => ?_) (fun c H => ?_)
  conv => whnf
  exact ⟨(k, decide (t8651.1 = 5)), [], ⟨H, lt_⟩, (fits_of ⟨.inl ⟨rfl, rfl⟩, trivial⟩ trivial fi_ trivial rfl)⟩
  conv => whnf
  exact ⟨(k, decide (t8651.1 = 6)), [], ⟨H, lt_⟩, (fits_of ⟨.inl ⟨rfl, rfl⟩, trivial⟩ trivial fi_ trivial rfl)⟩
  intro k x137 hk H; rcases k with _ | k; exact none_elim H; rw [spec_l2Spoil.j1] at H; conv => whnf
  refine br_t H (fun c H => ?_) (fun c H => ?_)
  conv => whnf
  refine cut_ 177 [(0, .bp 0 0), (4, .bp 9 0), (5, .bp 33 0), (143, .bool (decide ((t8586.2.2.2.length : Int) > 0)))] [(0, .box [(sv_u8 t8651.2.1), .int .i64 t8651.2.2]), (9, .box [.nil, .nil, .nil, .nil]), (25, .arr 9 1 (t8586.1.map en_str)), (26, .arr 168 2 (t8586.2.1.map en_S_impl_PlantFoe)), (27, .arr 109 3 (t8586.2.2.1.map en_S_impl_PlantPlace)), (28, .arr 135 4 (t8586.2.2.2.map en_S_impl_PlantValve)), (33, .box [.own 25 t8586.1.length, .own 26 t8586.2.1.length, .own 27 t8586.2.2.1.length, .own 28 t8586.2.2.2.length])] rfl ⟨.inl rfl, ⟨.inl rfl, ⟨.inl rfl, ⟨.inl rfl, trivial⟩⟩⟩⟩ ⟨rfl, ⟨rfl, ⟨rfl, ⟨rfl, ⟨rfl, ⟨rfl, ⟨rfl, trivial⟩⟩⟩⟩⟩⟩⟩ ?_
  conv => whnf
  refine br_d H (fun c H => ?_) (fun c H => ?_)
  conv => whnf
  revert H; refine bind_elim (fun t8661 A H => ?_)
  refine call_mk2 [0] (spec_l1Rd_pick.ac A) ⟨rfl, trivial⟩ rfl rfl rfl rfl rfl rfl rfl rfl ?_
  conv => whnf
  revert H; refine bind_elim (fun t8662 A H => ?_)
  refine call_mk2 [0] (spec_l1Rd_pick.ac A) ⟨rfl, trivial⟩ rfl rfl rfl rfl rfl rfl rfl rfl ?_
  conv => whnf
  refine cut_ 257 [(0, .bp 0 0), (4, .bp 9 0), (5, .bp 33 0), (8, .int .i64 t8661.1), (150, .int .i64 t8662.1), (156, .bool (decide (t8662.1 = 0)))] [(0, .box [(sv_u8 t8662.2.1), .int .i64 t8662.2.2]), (9, .box [.nil, .nil, .nil, .nil]), (25, .arr 9 1 (t8586.1.map en_str)), (26, .arr 168 2 (t8586.2.1.map en_S_impl_PlantFoe)), (27, .arr 109 3 (t8586.2.2.1.map en_S_impl_PlantPlace)), (28, .arr 135 4 (t8586.2.2.2.map en_S_impl_PlantValve)), (33, .box [.own 25 t8586.1.length, .own 26 t8586.2.1.length, .own 27 t8586.2.2.1.length, .own 28 t8586.2.2.2.length])] rfl ⟨.inl rfl, ⟨.inl rfl, ⟨.inl rfl, ⟨.inl rfl, ⟨.inl rfl, ⟨.inl rfl, trivial⟩⟩⟩⟩⟩⟩ ⟨rfl, ⟨rfl, ⟨rfl, ⟨rfl, ⟨rfl, ⟨rfl, ⟨rfl, trivial⟩⟩⟩⟩⟩⟩⟩ ?_
  conv => whnf
  refine br_d H (fun c H => ?_) (fun c H => ?_)
  conv => whnf
  refine Or.inr ?_
  conv => whnf
  revert H; refine bind_elim (fun t8663 A H => ?_)
  refine call_mk2 [0] (spec_l1Rd_of.ac A) ⟨rfl, trivial⟩ rfl rfl rfl rfl rfl (le_eq ⟨rfl, ⟨sl_e rfl lm_ lm_, trivial⟩⟩) rfl rfl ?_
  conv => whnf
  refine nd_ H (fun c H => ?_)
  conv => whnf
  refine nd_ H (fun c H => ?_)
  conv => whnf
  refine El.mk (rdm_en_S_impl_PlantValve _ _ nf_ nf_) ?_
  conv => whnf
  exact ⟨(k, t8586.1, t8586.2.1, t8586.2.2.1, (t8586.2.2.2.set (t8661.1).toNat (⟨t8663.1, (rd_impl_PlantValve t8586.2.2.2 t8661.1).f1, (rd_impl_PlantValve t8586.2.2.2 t8661.1).f2, (rd_impl_PlantValve t8586.2.2.2 t8661.1).f3⟩ : S_impl_PlantValve)), t8663.2.1, t8663.2.2), [some 25, some 26, some 27, some 28], ⟨H, lt_⟩, (fits_of trivial ⟨rfl, ⟨rfl, ⟨rfl, ⟨fm_, trivial⟩⟩⟩⟩ fi_ ⟨⟨_, rfl⟩, ⟨_, rfl, ⟨rfl, ⟨rfl, ⟨rfl, ⟨mt_own lm_, trivial⟩⟩⟩⟩⟩, ⟨⟨_, rfl⟩, ⟨_, rfl, ⟨.inl ⟨rfl, rfl⟩, ⟨.inl ⟨rfl, rfl⟩, trivial⟩⟩⟩, trivial⟩⟩ rfl)⟩
  conv => whnf
  refine br_d H (fun c H => ?_) (fun c H => ?_)
  conv => whnf
  refine nd_ H (fun c H => ?_)
  conv => whnf
  refine nd_ H (fun c H => ?_)
  conv => whnf
  refine El.mk (rdm_en_S_impl_PlantValve _ _ nf_ nf_) ?_
  conv => whnf
  refine Or.inr ?_
  conv => whnf
  revert H; refine bind_elim (fun t8664 A H => ?_)
  refine call_mk2 [0] (spec_l1Rd_of.ac A) ⟨rfl, trivial⟩ rfl rfl rfl rfl rfl (le_eq ⟨rfl, ⟨sl_e rfl lm_ lm_, trivial⟩⟩) rfl rfl ?_
  conv => whnf
  refine Nd.mk nf_ ?_
  conv => whnf
  refine Nd.mk nf_ ?_
  conv => whnf
  refine El.mk (rdm_en_S_impl_PlantValve _ _ nf_ nf_) ?_
  conv => whnf
  exact ⟨(k, t8586.1, t8586.2.1, t8586.2.2.1, (t8586.2.2.2.set (t8661.1).toNat (⟨(rd_impl_PlantValve t8586.2.2.2 t8661.1).f0, t8664.1, (rd_impl_PlantValve t8586.2.2.2 t8661.1).f2, (rd_impl_PlantValve t8586.2.2.2 t8661.1).f3⟩ : S_impl_PlantValve)), t8664.2.1, t8664.2.2), [some 25, some 26, some 27, some 28], ⟨H, lt_⟩, (fits_of trivial ⟨rfl, ⟨rfl, ⟨rfl, ⟨fm_, trivial⟩⟩⟩⟩ fi_ ⟨⟨_, rfl⟩, ⟨_, rfl, ⟨rfl, ⟨rfl, ⟨rfl, ⟨mt_own lm_, trivial⟩⟩⟩⟩⟩, ⟨⟨_, rfl⟩, ⟨_, rfl, ⟨.inl ⟨rfl, rfl⟩, ⟨.inl ⟨rfl, rfl⟩, trivial⟩⟩⟩, trivial⟩⟩ rfl)⟩
  conv => whnf
  refine br_d H (fun c H => ?_) (fun c H => ?_)
  conv => whnf
  refine Or.inr ?_
  conv => whnf
  revert H; refine bind_elim (fun t8665 A H => ?_)
  refine call_mk2 [0] (spec_l1Rd_of.ac A) ⟨rfl, trivial⟩ rfl rfl rfl rfl rfl (le_eq ⟨rfl, ⟨sl_e rfl lm_ lm_, trivial⟩⟩) rfl rfl ?_
  conv => whnf
  refine nd_ H (fun c H => ?_)
  conv => whnf
  refine nd_ H (fun c H => ?_)
  conv => whnf
  refine El.mk (rdm_en_S_impl_PlantValve _ _ nf_ nf_) ?_
  conv => whnf
  exact ⟨(k, t8586.1, t8586.2.1, t8586.2.2.1, (t8586.2.2.2.set (t8661.1).toNat (⟨(rd_impl_PlantValve t8586.2.2.2 t8661.1).f0, (rd_impl_PlantValve t8586.2.2.2 t8661.1).f1, t8665.1, (rd_impl_PlantValve t8586.2.2.2 t8661.1).f3⟩ : S_impl_PlantValve)), t8665.2.1, t8665.2.2), [some 25, some 26, some 27, some 28], ⟨H, lt_⟩, (fits_of trivial ⟨rfl, ⟨rfl, ⟨rfl, ⟨fm_, trivial⟩⟩⟩⟩ fi_ ⟨⟨_, rfl⟩, ⟨_, rfl, ⟨rfl, ⟨rfl, ⟨rfl, ⟨mt_own lm_, trivial⟩⟩⟩⟩⟩, ⟨⟨_, rfl⟩, ⟨_, rfl, ⟨.inl ⟨rfl, rfl⟩, ⟨.inl ⟨rfl, rfl⟩, trivial⟩⟩⟩, trivial⟩⟩ rfl)⟩
  conv => whnf
  refine nd_ H (fun c H => ?_)
  conv => whnf
  refine nd_ H (fun c H => ?_)
  conv => whnf
  refine El.mk (rdm_en_S_impl_PlantValve _ _ nf_ nf_) ?_
  conv => whnf
  exact ⟨(k, t8586.1, t8586.2.1, t8586.2.2.1, (t8586.2.2.2.set (t8661.1).toNat (⟨(rd_impl_PlantValve t8586.2.2.2 t8661.1).f0, (rd_impl_PlantValve t8586.2.2.2 t8661.1).f1, (rd_impl_PlantValve t8586.2.2.2 t8661.1).f2, (⟨#[]⟩ : ByteArray)⟩ : S_impl_PlantValve)), t8662.2.1, t8662.2.2), [some 25, some 26, some 27, some 28], ⟨H, lt_⟩, (fits_of trivial ⟨rfl, ⟨rfl, ⟨rfl, ⟨fm_, trivial⟩⟩⟩⟩ fi_ ⟨⟨_, rfl⟩, ⟨_, rfl, ⟨rfl, ⟨rfl, ⟨rfl, ⟨mt_own lm_, trivial⟩⟩⟩⟩⟩, ⟨⟨_, rfl⟩, ⟨_, rfl, ⟨.inl ⟨rfl, rfl⟩, ⟨.inl ⟨rfl, rfl⟩, trivial⟩⟩⟩, trivial⟩⟩ rfl)⟩
  conv => whnf
  exact ⟨(k, t8586.1, t8586.2.1, t8586.2.2.1, t8586.2.2.2, t8651.2.1, t8651.2.2), [some 25, some 26, some 27, some 28], ⟨H, lt_⟩, (fits_of trivial ⟨rfl, ⟨rfl, ⟨rfl, ⟨rfl, trivial⟩⟩⟩⟩ fi_ ⟨⟨_, rfl⟩, ⟨_, rfl, ⟨rfl, ⟨rfl, ⟨rfl, ⟨rfl, trivial⟩⟩⟩⟩⟩, ⟨⟨_, rfl⟩, ⟨_, rfl, ⟨.inl ⟨rfl, rfl⟩, ⟨.inl ⟨rfl, rfl⟩, trivial⟩⟩⟩, trivial⟩⟩ rfl)⟩
  conv => whnf
  refine br_d H (fun c H => ?_) (fun c H => ?_)
  conv => whnf
  revert H; refine bind_elim (fun t8666 A H => ?_)
  refine call_mk2 [0] (spec_l1Rd_pick.ac A) ⟨rfl, trivial⟩ rfl rfl rfl rfl rfl rfl rfl rfl ?_
  conv => whnf
  refine cut_ 193 [(4, .bp 9 0), (5, .bp 33 0), (9, .int .i64 (wrap64 (8 + t8666.1)))] [(0, .box [(sv_u8 t8666.2.1), .int .i64 t8666.2.2]), (9, .box [.nil, .nil, .nil, .nil]), (25, .arr 9 1 (t8586.1.map en_str)), (26, .arr 168 2 (t8586.2.1.map en_S_impl_PlantFoe)), (27, .arr 109 3 (t8586.2.2.1.map en_S_impl_PlantPlace)), (28, .arr 135 4 (t8586.2.2.2.map en_S_impl_PlantValve)), (33, .box [.own 25 t8586.1.length, .own 26 t8586.2.1.length, .own 27 t8586.2.2.1.length, .own 28 t8586.2.2.2.length])] rfl ⟨.inl rfl, ⟨.inl rfl, ⟨.inl rfl, trivial⟩⟩⟩ ⟨rfl, ⟨rfl, ⟨rfl, ⟨rfl, ⟨rfl, ⟨rfl, ⟨rfl, trivial⟩⟩⟩⟩⟩⟩⟩ ?_
  conv => whnf
  refine spec_l2Spoil.l0_lp (t8666 := t8666) (k := k) H [some 25, some 26, some 27, some 28] (fits_of ⟨.inl ⟨rfl, rfl⟩, trivial⟩ ⟨rfl, ⟨rfl, ⟨rfl, ⟨rfl, trivial⟩⟩⟩⟩ fi_ ⟨⟨_, rfl⟩, ⟨_, rfl, ⟨rfl, ⟨rfl, ⟨rfl, ⟨rfl, trivial⟩⟩⟩⟩⟩, trivial⟩ rfl) ?_
  intro k x10 x1033000_1 x1033001_1 x1033002_1 x1033003_1 hk H; rcases k with _ | k; exact none_elim H; rw [spec_l2Spoil.l0] at H; conv => whnf
  refine br_d H (fun c H => ?_) (fun c H => ?_)
  conv => whnf
  revert H; refine bind_elim (fun t8668 A H => ?_)
  refine call_mk (spec_l3Dec.ac A) (avAL_cons (avA_shut' rfl) (avAL_nil)) (Or.inl rfl) rfl rfl (Nat.le_of_ble_eq_true rfl) ?_
  conv => whnf
  refine nd_ H (fun c H => ?_)
  conv => whnf
  refine Or.inl ?_
  conv => whnf
  refine nd_ H (fun c H => ?_)
  conv => whnf
  refine cut_ 325 [(4, .bp 9 0), (5, .bp 33 0), (9, .int .i64 (wrap64 (8 + t8666.1))), (10, .int .i64 x10)] [(0, .box [(sv_u8 t8666.2.1), .int .i64 t8666.2.2]), (9, .box [.nil, .nil, .nil, .nil]), (33, .box [.own 301 (x1033000_1.length + 1), .own 202 x1033001_1.length, .own 203 x1033002_1.length, .own 204 x1033003_1.length]), (202, .arr 168 2 (x1033001_1.map en_S_impl_PlantFoe)), (203, .arr 109 3 (x1033002_1.map en_S_impl_PlantPlace)), (204, .arr 135 4 (x1033003_1.map en_S_impl_PlantValve)), (301, .arr 9 1 ((x1033000_1 ++ ([(⟨#[122]⟩ : ByteArray) ++ t8668] : List ByteArray)).map en_str))] rfl ⟨.inl rfl, ⟨.inl rfl, ⟨.inl rfl, ⟨.inl rfl, trivial⟩⟩⟩⟩ ⟨rfl, ⟨rfl, ⟨rfl, ⟨rfl, ⟨rfl, ⟨rfl, ⟨fm_, trivial⟩⟩⟩⟩⟩⟩⟩ ?_
  conv => whnf
  exact ⟨(k, wrap64 (x10 + 1), (x1033000_1 ++ ([(⟨#[122]⟩ : ByteArray) ++ t8668] : List ByteArray)), x1033001_1, x1033002_1, x1033003_1), [some 301, some 202, some 203, some 204], ⟨H, lt_⟩, lt_, (fits_of ⟨.inl ⟨rfl, rfl⟩, trivial⟩ ⟨rfl, ⟨rfl, ⟨rfl, ⟨rfl, trivial⟩⟩⟩⟩ fi_ ⟨⟨_, rfl⟩, ⟨_, rfl, ⟨mt_own lm_, ⟨rfl, ⟨rfl, ⟨rfl, trivial⟩⟩⟩⟩⟩, trivial⟩ rfl)⟩
  conv => whnf
  exact ⟨(k, x1033000_1, x1033001_1, x1033002_1, x1033003_1, t8666.2.1, t8666.2.2), [some 201, some 202, some 203, some 204], ⟨H, lt_⟩, (fits_of trivial ⟨rfl, ⟨rfl, ⟨rfl, ⟨rfl, trivial⟩⟩⟩⟩ fi_ ⟨⟨_, rfl⟩, ⟨_, rfl, ⟨rfl, ⟨rfl, ⟨rfl, ⟨rfl, trivial⟩⟩⟩⟩⟩, ⟨⟨_, rfl⟩, ⟨_, rfl, ⟨.inl ⟨rfl, rfl⟩, ⟨.inl ⟨rfl, rfl⟩, trivial⟩⟩⟩, trivial⟩⟩ rfl)⟩
  conv => whnf
  refine cut_ 177 [(0, .bp 0 0), (4, .bp 9 0), (5, .bp 33 0), (213, .bool (decide (t8651.1 = 8)))] [(0, .box [(sv_u8 t8651.2.1), .int .i64 t8651.2.2]), (9, .box [.nil, .nil, .nil, .nil]), (25, .arr 9 1 (t8586.1.map en_str)), (26, .arr 168 2 (t8586.2.1.map en_S_impl_PlantFoe)), (27, .arr 109 3 (t8586.2.2.1.map en_S_impl_PlantPlace)), (28, .arr 135 4 (t8586.2.2.2.map en_S_impl_PlantValve)), (33, .box [.own 25 t8586.1.length, .own 26 t8586.2.1.length, .own 27 t8586.2.2.1.length, .own 28 t8586.2.2.2.length])] rfl ⟨.inl rfl, ⟨.inl rfl, ⟨.inl rfl, ⟨.inl rfl, trivial⟩⟩⟩⟩ ⟨rfl, ⟨rfl, ⟨rfl, ⟨rfl, ⟨rfl, ⟨rfl, ⟨rfl, trivial⟩⟩⟩⟩⟩⟩⟩ ?_
  conv => whnf
  refine br_d H (fun c H => ?_) (fun c H => ?_)
  conv => whnf
  revert H; refine bind_elim (fun t8669 A H => ?_)
  refine call_mk2 [0] (spec_l1Rd_pick.ac A) ⟨rfl, trivial⟩ rfl rfl rfl rfl rfl rfl rfl rfl ?_
  conv => whnf
  refine spec_l2Spoil.l1_lp (t8669 := t8669) (k := k) H [some 25, some 26, some 27, some 28] (fits_of ⟨.inl ⟨rfl, rfl⟩, trivial⟩ ⟨rfl, ⟨rfl, ⟨rfl, ⟨rfl, trivial⟩⟩⟩⟩ fi_ ⟨⟨_, rfl⟩, ⟨_, rfl, ⟨rfl, ⟨rfl, ⟨rfl, ⟨rfl, trivial⟩⟩⟩⟩⟩, trivial⟩ rfl) ?_
  intro k x12 x1033000_2 x1033001_2 x1033002_2 x1033003_2 hk H; rcases k with _ | k; exact none_elim H; rw [spec_l2Spoil.l1] at H; conv => whnf
  refine cut_ 261 [(4, .bp 9 0), (5, .bp 33 0), (11, .int .i64 (wrap64 (14 + t8669.1))), (12, .int .i64 x12), (222, .bool (decide ((x1033002_2.length : Int) < (wrap64 (14 + t8669.1)))))] [(0, .box [(sv_u8 t8669.2.1), .int .i64 t8669.2.2]), (9, .box [.nil, .nil, .nil, .nil]), (33, .box [.own 217 x1033000_2.length, .own 218 x1033001_2.length, .own 219 x1033002_2.length, .own 220 x1033003_2.length]), (217, .arr 9 1 (x1033000_2.map en_str)), (218, .arr 168 2 (x1033001_2.map en_S_impl_PlantFoe)), (219, .arr 109 3 (x1033002_2.map en_S_impl_PlantPlace)), (220, .arr 135 4 (x1033003_2.map en_S_impl_PlantValve))] rfl ⟨.inl rfl, ⟨.inl rfl, ⟨.inl rfl, ⟨.inl rfl, ⟨.inl rfl, trivial⟩⟩⟩⟩⟩ ⟨rfl, ⟨rfl, ⟨rfl, ⟨rfl, ⟨rfl, ⟨rfl, ⟨rfl, trivial⟩⟩⟩⟩⟩⟩⟩ ?_
  conv => whnf
  refine br_d H (fun c H => ?_) (fun c H => ?_)
  conv => whnf
  revert H; refine bind_elim (fun t8671 A H => ?_)
  refine call_mk (spec_l3Dec.ac A) (avAL_cons (avA_shut' rfl) (avAL_nil)) (Or.inl rfl) rfl rfl (Nat.le_of_ble_eq_true rfl) ?_
  conv => whnf
  refine nd_ H (fun c H => ?_)
  conv => whnf
  refine Or.inl ?_
  conv => whnf
  refine nd_ H (fun c H => ?_)
  conv => whnf
  refine cut_ 349 [(4, .bp 9 0), (5, .bp 33 0), (11, .int .i64 (wrap64 (14 + t8669.1))), (12, .int .i64 x12)] [(0, .box [(sv_u8 t8669.2.1), .int .i64 t8669.2.2]), (9, .box [.nil, .nil, .nil, .nil]), (33, .box [.own 217 x1033000_2.length, .own 218 x1033001_2.length, .own 325 (x1033002_2.length + 1), .own 220 x1033003_2.length]), (217, .arr 9 1 (x1033000_2.map en_str)), (218, .arr 168 2 (x1033001_2.map en_S_impl_PlantFoe)), (220, .arr 135 4 (x1033003_2.map en_S_impl_PlantValve)), (325, .arr 109 3 ((x1033002_2 ++ ([(⟨(⟨#[122, 122]⟩ : ByteArray) ++ t8671, 0, (⟨#[115]⟩ : ByteArray)⟩ : S_impl_PlantPlace)] : List S_impl_PlantPlace)).map en_S_impl_PlantPlace))] rfl ⟨.inl rfl, ⟨.inl rfl, ⟨.inl rfl, ⟨.inl rfl, trivial⟩⟩⟩⟩ ⟨rfl, ⟨rfl, ⟨rfl, ⟨rfl, ⟨rfl, ⟨rfl, ⟨fm_, trivial⟩⟩⟩⟩⟩⟩⟩ ?_
  conv => whnf
  exact ⟨(k, wrap64 (x12 + 1), x1033000_2, x1033001_2, (x1033002_2 ++ ([(⟨(⟨#[122, 122]⟩ : ByteArray) ++ t8671, 0, (⟨#[115]⟩ : ByteArray)⟩ : S_impl_PlantPlace)] : List S_impl_PlantPlace)), x1033003_2), [some 217, some 218, some 325, some 220], ⟨H, lt_⟩, lt_, (fits_of ⟨.inl ⟨rfl, rfl⟩, trivial⟩ ⟨rfl, ⟨rfl, ⟨rfl, ⟨rfl, trivial⟩⟩⟩⟩ fi_ ⟨⟨_, rfl⟩, ⟨_, rfl, ⟨rfl, ⟨rfl, ⟨mt_own lm_, ⟨rfl, trivial⟩⟩⟩⟩⟩, trivial⟩ rfl)⟩
  conv => whnf
  exact ⟨(k, x1033000_2, x1033001_2, x1033002_2, x1033003_2, t8669.2.1, t8669.2.2), [some 217, some 218, some 219, some 220], ⟨H, lt_⟩, (fits_of trivial ⟨rfl, ⟨rfl, ⟨rfl, ⟨rfl, trivial⟩⟩⟩⟩ fi_ ⟨⟨_, rfl⟩, ⟨_, rfl, ⟨rfl, ⟨rfl, ⟨rfl, ⟨rfl, trivial⟩⟩⟩⟩⟩, ⟨⟨_, rfl⟩, ⟨_, rfl, ⟨.inl ⟨rfl, rfl⟩, ⟨.inl ⟨rfl, rfl⟩, trivial⟩⟩⟩, trivial⟩⟩ rfl)⟩
  conv => whnf
  revert H; refine bind_elim (fun t8672 A H => ?_)
  refine call_mk2 [0] (spec_l1Rd_pick.ac A) ⟨rfl, trivial⟩ rfl rfl rfl rfl rfl rfl rfl rfl ?_
  conv => whnf
  refine spec_l2Spoil.l2_lp (t8672 := t8672) (k := k) H [some 25, some 26, some 27, some 28] (fits_of ⟨.inl ⟨rfl, rfl⟩, trivial⟩ ⟨rfl, ⟨rfl, ⟨rfl, ⟨rfl, trivial⟩⟩⟩⟩ fi_ ⟨⟨_, rfl⟩, ⟨_, rfl, ⟨rfl, ⟨rfl, ⟨rfl, ⟨rfl, trivial⟩⟩⟩⟩⟩, trivial⟩ rfl) ?_
  intro k x14 x1033000_3 x1033001_3 x1033002_3 x1033003_3 hk H; rcases k with _ | k; exact none_elim H; rw [spec_l2Spoil.l2] at H; conv => whnf
  refine br_d H (fun c H => ?_) (fun c H => ?_)
  conv => whnf
  refine Br.t ft_ ?_
  conv => whnf
  refine Br.t ft_ ?_
  conv => whnf
  refine Br.t ft_ ?_
  conv => whnf
  refine Br.t ft_ ?_
  conv => whnf
  refine cut_ 309 [(4, .bp 9 0), (5, .bp 33 0), (13, .int .i64 (wrap64 (18 + t8672.1))), (14, .int .i64 x14), (32, .bool (decide ((x1033002_3.length : Int) > 1)))] [(0, .box [(sv_u8 t8672.2.1), .int .i64 t8672.2.2]), (9, .box [.nil, .nil, .nil, .nil]), (33, .box [.own 217 x1033000_3.length, .own 218 x1033001_3.length, .own 219 x1033002_3.length, .own 220 x1033003_3.length]), (217, .arr 9 1 (x1033000_3.map en_str)), (218, .arr 168 2 (x1033001_3.map en_S_impl_PlantFoe)), (219, .arr 109 3 (x1033002_3.map en_S_impl_PlantPlace)), (220, .arr 135 4 (x1033003_3.map en_S_impl_PlantValve))] rfl ⟨.inl rfl, ⟨.inl rfl, ⟨.inl rfl, ⟨.inl rfl, ⟨.inl rfl, trivial⟩⟩⟩⟩⟩ ⟨rfl, ⟨rfl, ⟨rfl, ⟨rfl, ⟨rfl, ⟨rfl, ⟨rfl, trivial⟩⟩⟩⟩⟩⟩⟩ ?_
  conv => whnf
  refine br_d H (fun c H => ?_) (fun c H => ?_)
  conv => whnf
  revert H; refine bind_elim (fun t8674 A H => ?_)
  refine call_mk (spec_l3Dec.ac A) (avAL_cons (avA_shut' rfl) (avAL_nil)) (Or.inl rfl) rfl rfl (Nat.le_of_ble_eq_true rfl) ?_
  conv => whnf
  refine nd_ H (fun c H => ?_)
  conv => whnf
  refine Nd.mk (by decide) ?_
  conv => whnf
  refine nd_ H (fun c H => ?_)
  conv => whnf
  refine El.mk (rdm_en_S_impl_PlantPlace _ _ nf_ nf_) ?_
  conv => whnf
  refine Nd.mk (by decide) ?_
  conv => whnf
  refine nd_ H (fun c H => ?_)
  conv => whnf
  refine El.mk (rdm_en_S_impl_PlantPlace _ _ nf_ nf_) ?_
  conv => whnf
  refine Or.inl ?_
  conv => whnf
  refine nd_ H (fun c H => ?_)
  conv => whnf
  refine cut_ 477 [(4, .bp 9 0), (5, .bp 33 0), (13, .int .i64 (wrap64 (18 + t8672.1))), (14, .int .i64 x14)] [(0, .box [(sv_u8 t8672.2.1), .int .i64 t8672.2.2]), (9, .box [.nil, .nil, .nil, .nil]), (33, .box [.own 217 x1033000_3.length, .own 218 x1033001_3.length, .own 219 x1033002_3.length, .own 453 (x1033003_3.length + 1)]), (217, .arr 9 1 (x1033000_3.map en_str)), (218, .arr 168 2 (x1033001_3.map en_S_impl_PlantFoe)), (219, .arr 109 3 (x1033002_3.map en_S_impl_PlantPlace)), (453, .arr 135 4 ((x1033003_3 ++ ([(⟨(⟨#[122, 122]⟩ : ByteArray) ++ t8674, (rd_impl_PlantPlace x1033002_3 0).f0, (rd_impl_PlantPlace x1033002_3 1).f0, (⟨#[115]⟩ : ByteArray)⟩ : S_impl_PlantValve)] : List S_impl_PlantValve)).map en_S_impl_PlantValve))] rfl ⟨.inl rfl, ⟨.inl rfl, ⟨.inl rfl, ⟨.inl rfl, trivial⟩⟩⟩⟩ ⟨rfl, ⟨rfl, ⟨rfl, ⟨rfl, ⟨rfl, ⟨rfl, ⟨fm_, trivial⟩⟩⟩⟩⟩⟩⟩ ?_
  conv => whnf
  exact ⟨(k, wrap64 (x14 + 1), x1033000_3, x1033001_3, x1033002_3, (x1033003_3 ++ ([(⟨(⟨#[122, 122]⟩ : ByteArray) ++ t8674, (rd_impl_PlantPlace x1033002_3 0).f0, (rd_impl_PlantPlace x1033002_3 1).f0, (⟨#[115]⟩ : ByteArray)⟩ : S_impl_PlantValve)] : List S_impl_PlantValve))), [some 217, some 218, some 219, some 453], ⟨H, lt_⟩, lt_, (fits_of ⟨.inl ⟨rfl, rfl⟩, trivial⟩ ⟨rfl, ⟨rfl, ⟨rfl, ⟨rfl, trivial⟩⟩⟩⟩ fi_ ⟨⟨_, rfl⟩, ⟨_, rfl, ⟨rfl, ⟨rfl, ⟨rfl, ⟨mt_own lm_, trivial⟩⟩⟩⟩⟩, trivial⟩ rfl)⟩
  conv => whnf
  exact ⟨(k, x1033000_3, x1033001_3, x1033002_3, x1033003_3, t8672.2.1, t8672.2.2), [some 217, some 218, some 219, some 220], ⟨H, lt_⟩, (fits_of trivial ⟨rfl, ⟨rfl, ⟨rfl, ⟨rfl, trivial⟩⟩⟩⟩ fi_ ⟨⟨_, rfl⟩, ⟨_, rfl, ⟨rfl, ⟨rfl, ⟨rfl, ⟨rfl, trivial⟩⟩⟩⟩⟩, ⟨⟨_, rfl⟩, ⟨_, rfl, ⟨.inl ⟨rfl, rfl⟩, ⟨.inl ⟨rfl, rfl⟩, trivial⟩⟩⟩, trivial⟩⟩ rfl)⟩
  conv => whnf
  refine Br.f ff_ ?_
  conv => whnf
  refine Br.f ff_ ?_
  conv => whnf
  refine Br.f ff_ ?_
  conv => whnf
  refine Br.f ff_ ?_
  conv => whnf
  refine cut_ 309 [(4, .bp 9 0), (5, .bp 33 0), (13, .int .i64 (wrap64 (18 + t8672.1))), (14, .int .i64 x14), (32, .bool false)] [(0, .box [(sv_u8 t8672.2.1), .int .i64 t8672.2.2]), (9, .box [.nil, .nil, .nil, .nil]), (33, .box [.own 217 x1033000_3.length, .own 218 x1033001_3.length, .own 219 x1033002_3.length, .own 220 x1033003_3.length]), (217, .arr 9 1 (x1033000_3.map en_str)), (218, .arr 168 2 (x1033001_3.map en_S_impl_PlantFoe)), (219, .arr 109 3 (x1033002_3.map en_S_impl_PlantPlace)), (220, .arr 135 4 (x1033003_3.map en_S_impl_PlantValve))] rfl ⟨.inl rfl, ⟨.inl rfl, ⟨.inl rfl, ⟨.inl rfl, ⟨.inl rfl, trivial⟩⟩⟩⟩⟩ ⟨rfl, ⟨rfl, ⟨rfl, ⟨rfl, ⟨rfl, ⟨rfl, ⟨rfl, trivial⟩⟩⟩⟩⟩⟩⟩ ?_
  conv => whnf
  refine Br.f rfl ?_
  conv => whnf
  exact ⟨(k, x1033000_3, x1033001_3, x1033002_3, x1033003_3, t8672.2.1, t8672.2.2), [some 217, some 218, some 219, some 220], ⟨H, lt_⟩, (fits_of trivial ⟨rfl, ⟨rfl, ⟨rfl, ⟨rfl, trivial⟩⟩⟩⟩ fi_ ⟨⟨_, rfl⟩, ⟨_, rfl, ⟨rfl, ⟨rfl, ⟨rfl, ⟨rfl, trivial⟩⟩⟩⟩⟩, ⟨⟨_, rfl⟩, ⟨_, rfl, ⟨.inl ⟨rfl, rfl⟩, ⟨.inl ⟨rfl, rfl⟩, trivial⟩⟩⟩, trivial⟩⟩ rfl)⟩
  intro k x1033000 x1033001 x1033002 x1033003 x1000000 x1000001 hk H; rcases k with _ | k; exact none_elim H; rw [spec_l2Spoil.j0] at H; conv => whnf
  refine cut_ 69 [(4, .bp 9 0)] [(0, .box [(sv_u8 x1000000), .int .i64 x1000001]), (9, .box [.own 49 x1033000.length, .own 50 x1033001.length, .own 51 x1033002.length, .own 52 x1033003.length]), (49, .arr 9 1 (x1033000.map en_str)), (50, .arr 168 2 (x1033001.map en_S_impl_PlantFoe)), (51, .arr 109 3 (x1033002.map en_S_impl_PlantPlace)), (52, .arr 135 4 (x1033003.map en_S_impl_PlantValve))] rfl ⟨.inl rfl, trivial⟩ ⟨rfl, ⟨rfl, ⟨rfl, ⟨rfl, ⟨rfl, ⟨rfl, trivial⟩⟩⟩⟩⟩⟩ ?_
  conv => whnf
  injection H with H; subst H
  exact ret_gen [some 0] [49, 50, 51, 52] ((rtA_agg (rtL_cons (rt_fz' rfl rfl) (rtL_cons (rt_fz' rfl rfl) (rtL_cons (rt_fz' rfl rfl) (rtL_cons (rt_fz' rfl rfl) (rtL_nil))))))) ⟨rfl, trivial⟩ rfl
theorem spec_l2Any.ac {k : Nat} {a0_0 : List Int} {a0_1 : Int} {r : (List ByteArray) × (List S_impl_PlantFoe) × (List S_impl_PlantPlace) × (List S_impl_PlantValve) × (List Int) × Int} (H : spec_l2Any.f k a0_0 a0_1 = some r) : ACalls Try.prog G 131 [.box [(sv_u8 a0_0), .int .i64 a0_1]] [.bp 0 0] [.box [(sv_u8 r.2.2.2.2.1), .int .i64 r.2.2.2.2.2]] (.agg [(sv_str r.1), (sv_S_impl_PlantFoe r.2.1), (sv_S_impl_PlantPlace r.2.2.1), (sv_S_impl_PlantValve r.2.2.2.1)]) := by
  refine acalls_of tok hP Try.func131 rfl (by kernel_rfl) [.cell 2 44] rfl (by kernel_rfl) (Nat.le_of_ble_eq_true rfl) (.l .n (.l .n (.l (.l .n (.l (.c .n .n) .n)) .n))) rfl ?_
  unfold spec_l2Any.f at H
  conv => whnf
  revert H; refine bind_elim (fun t8676 A H => ?_)
  refine call_mk2 [0] (spec_l2Draw.ac A) ⟨rfl, trivial⟩ rfl rfl rfl rfl rfl rfl rfl rfl ?_
  conv => whnf
  revert H; refine bind_elim (fun t8681 A H => ?_)
  refine call_mk2 [0] (spec_l1Rd_pick.ac A) ⟨rfl, trivial⟩ rfl rfl rfl rfl rfl rfl rfl rfl ?_
  conv => whnf
  refine br_d H (fun c H => ?_) (fun c H => ?_)
  conv => whnf
  revert H; refine bind_elim (fun t8682 A H => ?_)
  refine call_mk2 [0] (spec_l2Spoil.ac A) ⟨rfl, trivial⟩ rfl rfl rfl rfl rfl rfl rfl rfl ?_
  conv => whnf
  refine cut_ 97 [(2, .bp 1 0)] [(0, .box [(sv_u8 t8682.2.2.2.2.1), .int .i64 t8682.2.2.2.2.2]), (1, .box [(sv_str t8682.1), (sv_S_impl_PlantFoe t8682.2.1), (sv_S_impl_PlantPlace t8682.2.2.1), (sv_S_impl_PlantValve t8682.2.2.2.1)])] rfl ⟨.inl rfl, trivial⟩ ⟨rfl, ⟨rfl, trivial⟩⟩ ?_
  conv => whnf
  injection H with H; subst H
  exact ret_gen [some 0] [] ((rtA_agg (rtL_cons (rt_eq rfl) (rtL_cons (rt_eq rfl) (rtL_cons (rt_eq rfl) (rtL_cons (rt_eq rfl) (rtL_nil))))))) ⟨rfl, trivial⟩ rfl
  conv => whnf
  injection H with H; subst H
  exact ret_gen [some 0] [] ((rtA_agg (rtL_cons (rt_eq rfl) (rtL_cons (rt_eq rfl) (rtL_cons (rt_eq rfl) (rtL_cons (rt_eq rfl) (rtL_nil))))))) ⟨rfl, trivial⟩ rfl
theorem spec_l6Valve.ac {a0_0 : List Int} {a0_1 : Int} {a1_0 : List ByteArray} {a1_1 : List S_impl_PlantFoe} {a1_2 : List S_impl_PlantPlace} {a1_3 : List S_impl_PlantValve} {r : ByteArray × (List Int) × Int} (H : spec_l6Valve.f a0_0 a0_1 a1_0 a1_1 a1_2 a1_3 = some r) : ACalls Try.prog G 139 [.box [(sv_u8 a0_0), .int .i64 a0_1]] [.bp 0 0, .agg [(sv_str a1_0), (sv_S_impl_PlantFoe a1_1), (sv_S_impl_PlantPlace a1_2), (sv_S_impl_PlantValve a1_3)]] [.box [(sv_u8 r.2.1), .int .i64 r.2.2]] (.str r.1) := by
  refine acalls_of tok hP Try.func139 rfl (by kernel_rfl) [.tmp 4] rfl (by kernel_rfl) (Nat.le_of_ble_eq_true rfl) (.l .n (.l (.c .n (.l (.c .n .n) .n)) (.c .n .n))) rfl ?_
  unfold spec_l6Valve.f at H
  conv => whnf
  refine br_d H (fun c H => ?_) (fun c H => ?_)
  conv => whnf
  refine Br.t ft_ ?_
  conv => whnf
  revert H; refine bind_elim (fun t8719 A H => ?_)
  refine call_mk2 [0] (spec_l1Rd_pick.ac A) ⟨rfl, trivial⟩ rfl rfl rfl rfl rfl rfl rfl rfl ?_
  conv => whnf
  refine Br.t ft_ ?_
  conv => whnf
  refine Br.t ft_ ?_
  conv => whnf
  refine cut_ 89 [(0, .bp 0 0), (3, .bp 1 0), (13, .bool (decide (t8719.1 > 0)))] [(0, .box [(sv_u8 t8719.2.1), .int .i64 t8719.2.2]), (1, .box [(sv_str a1_0), (sv_S_impl_PlantFoe a1_1), (sv_S_impl_PlantPlace a1_2), (sv_S_impl_PlantValve a1_3)])] rfl ⟨.inl rfl, ⟨.inl rfl, ⟨.inl rfl, trivial⟩⟩⟩ ⟨rfl, ⟨rfl, trivial⟩⟩ ?_
  conv => whnf
  refine br_d H (fun c H => ?_) (fun c H => ?_)
  conv => whnf
  revert H; refine bind_elim (fun t8720 A H => ?_)
  refine call_mk2 [0] (spec_l1Rd_pick.ac A) ⟨rfl, trivial⟩ rfl rfl rfl rfl rfl rfl rfl rfl ?_
  conv => whnf
  refine nd_ H (fun c H => ?_)
  conv => whnf
  refine nd_ H (fun c H => ?_)
  conv => whnf
  refine El.mk (rdm_en_S_impl_PlantValve _ _ nf_ nf_) ?_
  conv => whnf
  refine cut_ 177 [(4, .str ((rd_impl_PlantValve a1_3 t8720.1).f0))] [(0, .box [(sv_u8 t8720.2.1), .int .i64 t8720.2.2])] rfl ⟨.inl rfl, trivial⟩ ⟨rfl, trivial⟩ ?_
  conv => whnf
  injection H with H; subst H
  exact ret_gen [some 0] [] ((rtA_eq rfl)) ⟨rfl, trivial⟩ rfl
  conv => whnf
  refine Or.inr ?_
  conv => whnf
  revert H; refine bind_elim (fun t8721 A H => ?_)
  refine call_mk2 [0] (spec_l1Rd_of.ac A) ⟨rfl, trivial⟩ rfl rfl rfl rfl rfl (le_eq ⟨rfl, ⟨sl_e rfl lm_ lm_, trivial⟩⟩) rfl rfl ?_
  conv => whnf
  refine cut_ 121 [(4, .str t8721.1)] [(0, .box [(sv_u8 t8721.2.1), .int .i64 t8721.2.2])] rfl ⟨.inl rfl, trivial⟩ ⟨rfl, trivial⟩ ?_
  conv => whnf
  injection H with H; subst H
  exact ret_gen [some 0] [] ((rtA_eq rfl)) ⟨rfl, trivial⟩ rfl
  conv => whnf
  refine Br.f ff_ ?_
  conv => whnf
  refine Br.f ff_ ?_
  conv => whnf
  refine Br.f ff_ ?_
  conv => whnf
  refine cut_ 89 [(0, .bp 0 0), (3, .bp 1 0), (13, .bool false)] [(0, .box [(sv_u8 a0_0), .int .i64 a0_1]), (1, .box [(sv_str a1_0), (sv_S_impl_PlantFoe a1_1), (sv_S_impl_PlantPlace a1_2), (sv_S_impl_PlantValve a1_3)])] rfl ⟨.inl rfl, ⟨.inl rfl, ⟨.inl rfl, trivial⟩⟩⟩ ⟨rfl, ⟨rfl, trivial⟩⟩ ?_
  conv => whnf
  refine Br.f rfl ?_
  conv => whnf
  refine Or.inr ?_
  conv => whnf
  revert H; refine bind_elim (fun t8722 A H => ?_)
  refine call_mk2 [0] (spec_l1Rd_of.ac A) ⟨rfl, trivial⟩ rfl rfl rfl rfl rfl (le_eq ⟨rfl, ⟨sl_e rfl lm_ lm_, trivial⟩⟩) rfl rfl ?_
  conv => whnf
  refine cut_ 121 [(4, .str t8722.1)] [(0, .box [(sv_u8 t8722.2.1), .int .i64 t8722.2.2])] rfl ⟨.inl rfl, trivial⟩ ⟨rfl, trivial⟩ ?_
  conv => whnf
  injection H with H; subst H
  exact ret_gen [some 0] [] ((rtA_eq rfl)) ⟨rfl, trivial⟩ rfl
theorem spec_DrawPlantTurns.l0_lp {F : (Exit → St → Prop) → St → Prop} {hv : List Tmp} {Q : Exit → St → Prop} {σ : St} {r : (List ByteArray) × (List S_impl_PlantFoe) × (List S_impl_PlantPlace) × (List S_impl_PlantValve) × (List ByteArray) × (List Bool)} {k : Nat} {l0 : List Int} {t8726 : (List ByteArray) × (List S_impl_PlantFoe) × (List S_impl_PlantPlace) × (List S_impl_PlantValve) × (List Int) × Int} {x7 : List ByteArray} {x8 : List Bool} {x9 : Int} {x1032000 : List Int} {x1032001 : Int} (H : spec_DrawPlantTurns.l0 k l0 x7 x8 x9 t8726 x1032000 x1032001 = some r) (rn : List (Option Nat)) (h1 : Fits σ σ [32, 80, 96] [(7, .own 0 x7.length), (8, .own 1 x8.length), (9, .int .i64 x9)] [(32, .box [(sv_u8 x1032000), .int .i64 x1032001])] [.arr 9 1 (x7.map en_str), .arr 4 1 (x8.map en_bool)] rn)
    (h2 : ∀ (k0 : Nat) (x7 : List ByteArray) (x8 : List Bool) (x9 : Int) (x1032000 : List Int) (x1032001 : Int), k0 < k + 1 → spec_DrawPlantTurns.l0 k0 l0 x7 x8 x9 t8726 x1032000 x1032001 = some r → headN σ hv [32, 80, 96] [(7, .own 0 x7.length), (8, .own 1 x8.length), (9, .int .i64 x9)] [(32, .box [(sv_u8 x1032000), .int .i64 x1032001])] [.arr 9 1 (x7.map en_str), .arr 4 1 (x8.map en_bool)] (F (fun e σ' => match e with | .normal => ∃ (y : Nat × (List ByteArray) × (List Bool) × Int × (List Int) × Int) (rn : List (Option Nat)), (spec_DrawPlantTurns.l0 y.1 l0 y.2.1 y.2.2.1 y.2.2.2.1 t8726 y.2.2.2.2.1 y.2.2.2.2.2 = some r ∧ y.1 < k + 1) ∧ y.1 < k0 ∧ Fits σ σ' [32, 80, 96] [(7, .own 0 y.2.1.length), (8, .own 1 y.2.2.1.length), (9, .int .i64 y.2.2.2.1)] [(32, .box [(sv_u8 y.2.2.2.2.1), .int .i64 y.2.2.2.2.2])] [.arr 9 1 (y.2.1.map en_str), .arr 4 1 (y.2.2.1.map en_bool)] rn | e => Q e σ'))) : Lp F hv Q σ := by
  unfold Lp
  refine ⟨Nat × (List ByteArray) × (List Bool) × Int × (List Int) × Int, fun x => spec_DrawPlantTurns.l0 x.1 l0 x.2.1 x.2.2.1 x.2.2.2.1 t8726 x.2.2.2.2.1 x.2.2.2.2.2 = some r ∧ x.1 < k + 1, fun x => x.1, [32, 80, 96], fun x => [(7, .own 0 x.2.1.length), (8, .own 1 x.2.2.1.length), (9, .int .i64 x.2.2.2.1)], fun x => [(32, .box [(sv_u8 x.2.2.2.2.1), .int .i64 x.2.2.2.2.2])], fun x => [.arr 9 1 (x.2.1.map en_str), .arr 4 1 (x.2.2.1.map en_bool)], ⟨(k, x7, x8, x9, x1032000, x1032001), rn, ⟨H, Nat.lt_succ_self _⟩, h1⟩, ?_⟩
  rintro ⟨k, x7, x8, x9, x1032000, x1032001⟩ ⟨H, hk⟩
  exact h2 k x7 x8 x9 x1032000 x1032001 hk H
theorem spec_DrawPlantTurns.ac {k : Nat} {l0 : List Int} {r : (List ByteArray) × (List S_impl_PlantFoe) × (List S_impl_PlantPlace) × (List S_impl_PlantValve) × (List ByteArray) × (List Bool)} (H : spec_DrawPlantTurns.f k l0 = some r) : ACalls Try.prog G 69 [] [(sv_u8 l0)] [] (.tup [.agg [(sv_str r.1), (sv_S_impl_PlantFoe r.2.1), (sv_S_impl_PlantPlace r.2.2.1), (sv_S_impl_PlantValve r.2.2.2.1)], (sv_str r.2.2.2.2.1), (sv_bool r.2.2.2.2.2)]) := by
  refine acalls_of tok hP Try.func69 rfl (by kernel_rfl) [.cell 2 44, .tmp 3, .tmp 4] rfl (by kernel_rfl) (Nat.le_of_ble_eq_true rfl) (.l .n (.l .n (.l .n (.c .n (.l .n (.l (.l .n (.l .n (.l (.c .n .n) .n))) (.c .n .n))))))) rfl ?_
  unfold spec_DrawPlantTurns.f at H
  conv => whnf
  revert H; refine bind_elim (fun t8724 A H => ?_)
  refine call_mk (spec_l1Open.ac A) (avAL_cons (avA_shut' rfl) (avAL_nil)) (Or.inl rfl) rfl rfl (Nat.le_of_ble_eq_true rfl) ?_
  conv => whnf
  revert H; refine bind_elim (fun t8726 A H => ?_)
  refine call_mk2 [32] (spec_l2Any.ac A) ⟨rfl, trivial⟩ rfl rfl rfl rfl rfl rfl rfl rfl ?_
  conv => whnf
  refine Or.inl ?_
  conv => whnf
  refine cut_ 96 [(2, .bp 0 0), (5, .bp 32 0), (6, .bp 64 0), (7, .own 80 0)] [(0, .box [.nil, .nil, .nil, .nil]), (32, .box [(sv_u8 t8726.2.2.2.2.1), .int .i64 t8726.2.2.2.2.2]), (64, .box [(sv_str t8726.1), (sv_S_impl_PlantFoe t8726.2.1), (sv_S_impl_PlantPlace t8726.2.2.1), (sv_S_impl_PlantValve t8726.2.2.2.1)]), (80, .arr 9 1 (([] : List ByteArray).map en_str))] rfl ⟨.inl rfl, ⟨.inl rfl, ⟨.inl rfl, ⟨.inl rfl, trivial⟩⟩⟩⟩ ⟨rfl, ⟨rfl, ⟨rfl, ⟨fm_, trivial⟩⟩⟩⟩ ?_
  conv => whnf
  refine Or.inl ?_
  conv => whnf
  revert H; refine bind_elim (fun t8737 A H => ?_)
  refine call_mk2 [32] (spec_l1Rd_pick.ac A) ⟨rfl, trivial⟩ rfl rfl rfl rfl rfl rfl rfl rfl ?_
  conv => whnf
  refine spec_DrawPlantTurns.l0_lp (l0 := l0) (t8726 := t8726) (k := k) H [some 80, some 96] (fits_of ⟨mt_own lm_, ⟨mt_own lm_, ⟨.inl ⟨rfl, rfl⟩, trivial⟩⟩⟩ ⟨rfl, ⟨fm_, trivial⟩⟩ fi_ ⟨⟨_, rfl⟩, ⟨_, rfl, ⟨.inl ⟨rfl, rfl⟩, ⟨.inl ⟨rfl, rfl⟩, trivial⟩⟩⟩, trivial⟩ rfl) ?_
  intro k x7 x8 x9 x1032000 x1032001 hk H; rcases k with _ | k; exact none_elim H; rw [spec_DrawPlantTurns.l0] at H; conv => whnf
  refine br_d H (fun c H => ?_) (fun c H => ?_)
  conv => whnf
  revert H; refine bind_elim (fun t8741 A H => ?_)
  refine call_mk2 [32] (spec_l6Valve.ac A) ⟨rfl, trivial⟩ rfl rfl rfl rfl rfl rfl rfl rfl ?_
  conv => whnf
  refine Or.inl ?_
  conv => whnf
  refine nd_ H (fun c H => ?_)
  conv => whnf
  refine cut_ 210 [(2, .bp 0 0), (5, .bp 32 0), (6, .bp 64 0), (7, .own 194 (x7.length + 1)), (8, .own 137 x8.length), (9, .int .i64 x9)] [(0, .box [.nil, .nil, .nil, .nil]), (32, .box [(sv_u8 t8741.2.1), .int .i64 t8741.2.2]), (64, .box [(sv_str t8726.1), (sv_S_impl_PlantFoe t8726.2.1), (sv_S_impl_PlantPlace t8726.2.2.1), (sv_S_impl_PlantValve t8726.2.2.2.1)]), (137, .arr 4 1 (x8.map en_bool)), (194, .arr 9 1 ((x7 ++ ([t8741.1] : List ByteArray)).map en_str))] rfl ⟨.inl rfl, ⟨.inl rfl, ⟨.inl rfl, ⟨.inl rfl, ⟨.inl rfl, ⟨.inl rfl, trivial⟩⟩⟩⟩⟩⟩ ⟨rfl, ⟨rfl, ⟨rfl, ⟨rfl, ⟨fm_, trivial⟩⟩⟩⟩⟩ ?_
  conv => whnf
  revert H; refine bind_elim (fun t8742 A H => ?_)
  refine call_mk2 [32] (spec_l1Rd_pick.ac A) ⟨rfl, trivial⟩ rfl rfl rfl rfl rfl rfl rfl rfl ?_
  conv => whnf
  refine Or.inl ?_
  conv => whnf
  refine nd_ H (fun c H => ?_)
  conv => whnf
  exact ⟨(k, (x7 ++ ([t8741.1] : List ByteArray)), (x8 ++ ([decide (t8742.1 > 0)] : List Bool)), wrap64 (x9 - 1), t8742.2.1, t8742.2.2), [some 194, some 250], ⟨H, lt_⟩, lt_, (fits_of ⟨mt_own lm_, ⟨mt_own lm_, ⟨.inl ⟨rfl, rfl⟩, trivial⟩⟩⟩ ⟨rfl, ⟨fm_, trivial⟩⟩ fi_ ⟨⟨_, rfl⟩, ⟨_, rfl, ⟨.inl ⟨rfl, rfl⟩, ⟨.inl ⟨rfl, rfl⟩, trivial⟩⟩⟩, trivial⟩ rfl)⟩
  conv => whnf
  refine cut_ 202 [(2, .bp 0 0), (3, .own 136 x7.length), (4, .own 137 x8.length)] [(0, .box [(sv_str t8726.1), (sv_S_impl_PlantFoe t8726.2.1), (sv_S_impl_PlantPlace t8726.2.2.1), (sv_S_impl_PlantValve t8726.2.2.2.1)]), (136, .arr 9 1 (x7.map en_str)), (137, .arr 4 1 (x8.map en_bool))] rfl ⟨.inl rfl, ⟨.inl rfl, ⟨.inl rfl, trivial⟩⟩⟩ ⟨rfl, ⟨rfl, ⟨rfl, trivial⟩⟩⟩ ?_
  conv => whnf
  injection H with H; subst H
  exact ret_tup [136, 137] (rtAL_cons (rtA_agg (rtL_cons (rt_eq rfl) (rtL_cons (rt_eq rfl) (rtL_cons (rt_eq rfl) (rtL_cons (rt_eq rfl) (rtL_nil)))))) (rtAL_cons (rtA_fz' rfl rfl) (rtAL_cons (rtA_fz' rfl rfl) (rtAL_nil))))
theorem impl_isName.l0_lp {F : (Exit → St → Prop) → St → Prop} {hv : List Tmp} {Q : Exit → St → Prop} {σ : St} {r : Bool} {k : Nat} {a0 : ByteArray} {x7 : Int} (H : impl_isName.l0 k a0 x7 = some r) (rn : List (Option Nat)) (h1 : Fits σ σ [] [(7, .int .i64 x7)] [] [] rn)
    (h2 : ∀ (k0 : Nat) (x7 : Int), k0 < k + 1 → impl_isName.l0 k0 a0 x7 = some r → headN σ hv [] [(7, .int .i64 x7)] [] [] (F (fun e σ' => match e with | .normal => ∃ (y : Nat × Int) (rn : List (Option Nat)), (impl_isName.l0 y.1 a0 y.2 = some r ∧ y.1 < k + 1) ∧ y.1 < k0 ∧ Fits σ σ' [] [(7, .int .i64 y.2)] [] [] rn | e => Q e σ'))) : Lp F hv Q σ := by
  unfold Lp
  refine ⟨Nat × Int, fun x => impl_isName.l0 x.1 a0 x.2 = some r ∧ x.1 < k + 1, fun x => x.1, [], fun x => [(7, .int .i64 x.2)], fun x => [], fun x => [], ⟨(k, x7), rn, ⟨H, Nat.lt_succ_self _⟩, h1⟩, ?_⟩
  rintro ⟨k, x7⟩ ⟨H, hk⟩
  exact h2 k x7 hk H
theorem impl_isName.ac {k : Nat} {a0 : ByteArray} {r : Bool} (H : impl_isName.f k a0 = some r) : ACalls Try.prog G 143 [] [.str a0] [] (.bool r) := by
  refine acalls_of tok hP Try.func143 rfl (by kernel_rfl) [.tmp 2] rfl (by kernel_rfl) (Nat.le_of_ble_eq_true rfl) (.l .n (.l (.l .n (.l .n (.l .n (.l (.l .n (.c .n (.c .n (.l (.c .n .n) .n)))) .n)))) (.c .n .n))) rfl ?_
  unfold impl_isName.f at H
  conv => whnf
  refine impl_isName.l0_lp (a0 := a0) (k := k) H [] (fits_of ⟨.inl ⟨rfl, rfl⟩, trivial⟩ trivial fi_ trivial rfl) ?_
  intro k x7 hk H; rcases k with _ | k; exact none_elim H; rw [impl_isName.l0] at H; conv => whnf
  refine br_d H (fun c H => ?_) (fun c H => ?_)
  conv => whnf
  refine nd_ H (fun c H => ?_)
  conv => whnf
  refine Nd.mk nf_ ?_
  conv => whnf
  refine cut_ 88 [(0, .str a0), (4, .int .u8 (bt a0 x7)), (6, .int .i64 (a0.size : Int)), (7, .int .i64 x7)] [] rfl ⟨.inl rfl, ⟨.inl rfl, ⟨.inl rfl, ⟨.inl rfl, trivial⟩⟩⟩⟩ trivial ?_
  conv => whnf
  refine br_d H (fun c H => ?_) (fun c H => ?_)
  conv => whnf
  refine Br.t ft_ ?_
  conv => whnf
  refine Br.t ft_ ?_
  conv => whnf
  refine Br.t rfl ?_
  conv => whnf
  refine Br.t rfl ?_
  conv => whnf
  refine Br.t rfl ?_
  conv => whnf
  refine br_d H (fun c H => ?_) (fun c H => ?_)
  conv => whnf
  refine Br.t ft_ ?_
  conv => whnf
  refine Br.t rfl ?_
  conv => whnf
  refine Br.t ft_ ?_
  conv => whnf
  refine Br.t rfl ?_
  conv => whnf
  refine Br.t rfl ?_
  conv => whnf
  refine Br.t rfl ?_
  conv => whnf
  refine Br.t rfl ?_
  conv => whnf
  refine cut_ 232 [(0, .str a0), (6, .int .i64 (a0.size : Int)), (7, .int .i64 x7), (30, .bool (!(decide ((bt a0 x7) = 45))))] [] rfl ⟨.inl rfl, ⟨.inl rfl, ⟨.inl rfl, ⟨.inl rfl, trivial⟩⟩⟩⟩ trivial ?_
  conv => whnf
  refine br_nd H (fun c H => ?_) (fun c H => ?_)
  conv => whnf
  exact ⟨(k, wrap64 (x7 + 1)), [], ⟨H, lt_⟩, lt_, (fits_of ⟨.inl ⟨rfl, rfl⟩, trivial⟩ trivial fi_ trivial rfl)⟩
  conv => whnf
  refine cut_ 240 [(2, .bool false)] [] rfl ⟨.inl rfl, trivial⟩ trivial ?_
  conv => whnf
  injection H with H; subst H
  exact ret_fz [] (rtA_eq rfl)
  conv => whnf
  refine Br.f ff_ ?_
  conv => whnf
  refine Br.t rfl ?_
  conv => whnf
  refine Br.f ff_ ?_
  conv => whnf
  refine Br.t rfl ?_
  conv => whnf
  refine br_d H (fun c H => ?_) (fun c H => ?_)
  conv => whnf
  refine Br.t ft_ ?_
  conv => whnf
  refine Br.t ft_ ?_
  conv => whnf
  refine cut_ 232 [(0, .str a0), (6, .int .i64 (a0.size : Int)), (7, .int .i64 x7), (30, .bool (!(decide ((bt a0 x7) = 45))))] [] rfl ⟨.inl rfl, ⟨.inl rfl, ⟨.inl rfl, ⟨.inl rfl, trivial⟩⟩⟩⟩ trivial ?_
  conv => whnf
  refine br_nd H (fun c H => ?_) (fun c H => ?_)
  conv => whnf
  exact ⟨(k, wrap64 (x7 + 1)), [], ⟨H, lt_⟩, lt_, (fits_of ⟨.inl ⟨rfl, rfl⟩, trivial⟩ trivial fi_ trivial rfl)⟩
  conv => whnf
  refine cut_ 240 [(2, .bool false)] [] rfl ⟨.inl rfl, trivial⟩ trivial ?_
  conv => whnf
  injection H with H; subst H
  exact ret_fz [] (rtA_eq rfl)
  conv => whnf
  refine Br.f ff_ ?_
  conv => whnf
  refine Br.f ff_ ?_
  conv => whnf
  refine cut_ 232 [(0, .str a0), (6, .int .i64 (a0.size : Int)), (7, .int .i64 x7), (30, .bool false)] [] rfl ⟨.inl rfl, ⟨.inl rfl, ⟨.inl rfl, ⟨.inl rfl, trivial⟩⟩⟩⟩ trivial ?_
  conv => whnf
  refine Br.f rfl ?_
  conv => whnf
  exact ⟨(k, wrap64 (x7 + 1)), [], ⟨H, lt_⟩, lt_, (fits_of ⟨.inl ⟨rfl, rfl⟩, trivial⟩ trivial fi_ trivial rfl)⟩
  conv => whnf
  refine Br.f ff_ ?_
  conv => whnf
  refine Br.f ff_ ?_
  conv => whnf
  refine br_d H (fun c H => ?_) (fun c H => ?_)
  conv => whnf
  refine Br.t ft_ ?_
  conv => whnf
  refine Br.t ft_ ?_
  conv => whnf
  refine br_d H (fun c H => ?_) (fun c H => ?_)
  conv => whnf
  refine Br.t ft_ ?_
  conv => whnf
  refine Br.t ft_ ?_
  conv => whnf
  refine Br.t ft_ ?_
  conv => whnf
  refine Br.t ft_ ?_
  conv => whnf
  refine Br.t rfl ?_
  conv => whnf
  refine Br.t rfl ?_
  conv => whnf
  refine Br.t rfl ?_
  conv => whnf
  refine cut_ 232 [(0, .str a0), (6, .int .i64 (a0.size : Int)), (7, .int .i64 x7), (30, .bool (!(decide ((bt a0 x7) = 45))))] [] rfl ⟨.inl rfl, ⟨.inl rfl, ⟨.inl rfl, ⟨.inl rfl, trivial⟩⟩⟩⟩ trivial ?_
  conv => whnf
  refine br_nd H (fun c H => ?_) (fun c H => ?_)
  conv => whnf
  exact ⟨(k, wrap64 (x7 + 1)), [], ⟨H, lt_⟩, lt_, (fits_of ⟨.inl ⟨rfl, rfl⟩, trivial⟩ trivial fi_ trivial rfl)⟩
  conv => whnf
  refine cut_ 240 [(2, .bool false)] [] rfl ⟨.inl rfl, trivial⟩ trivial ?_
  conv => whnf
  injection H with H; subst H
  exact ret_fz [] (rtA_eq rfl)
  conv => whnf
  refine Br.f ff_ ?_
  conv => whnf
  refine Br.t ft_ ?_
  conv => whnf
  refine Br.f ff_ ?_
  conv => whnf
  refine Br.t ft_ ?_
  conv => whnf
  refine br_d H (fun c H => ?_) (fun c H => ?_)
  conv => whnf
  refine Br.t ft_ ?_
  conv => whnf
  refine Br.t ft_ ?_
  conv => whnf
  refine cut_ 232 [(0, .str a0), (6, .int .i64 (a0.size : Int)), (7, .int .i64 x7), (30, .bool (!(decide ((bt a0 x7) = 45))))] [] rfl ⟨.inl rfl, ⟨.inl rfl, ⟨.inl rfl, ⟨.inl rfl, trivial⟩⟩⟩⟩ trivial ?_
  conv => whnf
  refine br_nd H (fun c H => ?_) (fun c H => ?_)
  conv => whnf
  exact ⟨(k, wrap64 (x7 + 1)), [], ⟨H, lt_⟩, lt_, (fits_of ⟨.inl ⟨rfl, rfl⟩, trivial⟩ trivial fi_ trivial rfl)⟩
  conv => whnf
  refine cut_ 240 [(2, .bool false)] [] rfl ⟨.inl rfl, trivial⟩ trivial ?_
  conv => whnf
  injection H with H; subst H
  exact ret_fz [] (rtA_eq rfl)
  conv => whnf
  refine Br.f ff_ ?_
  conv => whnf
  refine Br.f ff_ ?_
  conv => whnf
  refine cut_ 232 [(0, .str a0), (6, .int .i64 (a0.size : Int)), (7, .int .i64 x7), (30, .bool false)] [] rfl ⟨.inl rfl, ⟨.inl rfl, ⟨.inl rfl, ⟨.inl rfl, trivial⟩⟩⟩⟩ trivial ?_
  conv => whnf
  refine Br.f rfl ?_
  conv => whnf
  exact ⟨(k, wrap64 (x7 + 1)), [], ⟨H, lt_⟩, lt_, (fits_of ⟨.inl ⟨rfl, rfl⟩, trivial⟩ trivial fi_ trivial rfl)⟩
  conv => whnf
  refine Br.f ff_ ?_
  conv => whnf
  refine Br.f ff_ ?_
  conv => whnf
  refine Br.f ff_ ?_
  conv => whnf
  refine Br.f ff_ ?_
  conv => whnf
  refine Br.f rfl ?_
  conv => whnf
  refine Br.f rfl ?_
  conv => whnf
  refine Br.f rfl ?_
  conv => whnf
  refine cut_ 232 [(0, .str a0), (6, .int .i64 (a0.size : Int)), (7, .int .i64 x7), (30, .bool false)] [] rfl ⟨.inl rfl, ⟨.inl rfl, ⟨.inl rfl, ⟨.inl rfl, trivial⟩⟩⟩⟩ trivial ?_
  conv => whnf
  refine Br.f rfl ?_
  conv => whnf
  exact ⟨(k, wrap64 (x7 + 1)), [], ⟨H, lt_⟩, lt_, (fits_of ⟨.inl ⟨rfl, rfl⟩, trivial⟩ trivial fi_ trivial rfl)⟩
  conv => whnf
  refine br_d H (fun c H => ?_) (fun c H => ?_)
  conv => whnf
  refine Br.t ft_ ?_
  conv => whnf
  refine Br.t ft_ ?_
  conv => whnf
  refine Br.t ft_ ?_
  conv => whnf
  refine cut_ 112 [(2, .bool (decide ((a0.size : Int) ≤ 8)))] [] rfl ⟨.inl rfl, trivial⟩ trivial ?_
  conv => whnf
  injection H with H; subst H
  exact ret_fz [] (rtA_eq rfl)
  conv => whnf
  refine Br.f ff_ ?_
  conv => whnf
  refine Br.f ff_ ?_
  conv => whnf
  refine Br.f ff_ ?_
  conv => whnf
  refine cut_ 112 [(2, .bool false)] [] rfl ⟨.inl rfl, trivial⟩ trivial ?_
  conv => whnf
  injection H with H; subst H
  exact ret_fz [] (rtA_eq rfl)
theorem impl_rising.l0_lp {F : (Exit → St → Prop) → St → Prop} {hv : List Tmp} {Q : Exit → St → Prop} {σ : St} {r : Bool} {k : Nat} {l0 : List ByteArray} {x3 : Int} (H : impl_rising.l0 k l0 x3 = some r) (rn : List (Option Nat)) (h1 : Fits σ σ [] [(3, .int .i64 x3)] [] [] rn)
    (h2 : ∀ (k0 : Nat) (x3 : Int), k0 < k + 1 → impl_rising.l0 k0 l0 x3 = some r → headN σ hv [] [(3, .int .i64 x3)] [] [] (F (fun e σ' => match e with | .normal => ∃ (y : Nat × Int) (rn : List (Option Nat)), (impl_rising.l0 y.1 l0 y.2 = some r ∧ y.1 < k + 1) ∧ y.1 < k0 ∧ Fits σ σ' [] [(3, .int .i64 y.2)] [] [] rn | e => Q e σ'))) : Lp F hv Q σ := by
  unfold Lp
  refine ⟨Nat × Int, fun x => impl_rising.l0 x.1 l0 x.2 = some r ∧ x.1 < k + 1, fun x => x.1, [], fun x => [(3, .int .i64 x.2)], fun x => [], fun x => [], ⟨(k, x3), rn, ⟨H, Nat.lt_succ_self _⟩, h1⟩, ?_⟩
  rintro ⟨k, x3⟩ ⟨H, hk⟩
  exact h2 k x3 hk H
theorem impl_rising.ac {k : Nat} {l0 : List ByteArray} {r : Bool} (H : impl_rising.f k l0 = some r) : ACalls Try.prog G 183 [] [(sv_str l0)] [] (.bool r) := by
  refine acalls_of tok hP Try.func183 rfl (by kernel_rfl) [.tmp 2] rfl (by kernel_rfl) (Nat.le_of_ble_eq_true rfl) (.l .n (.l (.l .n (.l .n (.l (.c .n .n) .n))) .n)) rfl ?_
  unfold impl_rising.f at H
  conv => whnf
  refine impl_rising.l0_lp (l0 := l0) (k := k) H [] (fits_of ⟨.inl ⟨rfl, rfl⟩, trivial⟩ trivial fi_ trivial rfl) ?_
  intro k x3 hk H; rcases k with _ | k; exact none_elim H; rw [impl_rising.l0] at H; conv => whnf
  refine br_d H (fun c H => ?_) (fun c H => ?_)
  conv => whnf
  refine nd_ H (fun c H => ?_)
  conv => whnf
  refine nd_ H (fun c H => ?_)
  conv => whnf
  refine El.mk (rdm_en_str _ _ nf_ nf_) ?_
  conv => whnf
  refine nd_ H (fun c H => ?_)
  conv => whnf
  refine Nd.mk nf_ ?_
  conv => whnf
  refine El.mk (rdm_en_str _ _ nf_ nf_) ?_
  conv => whnf
  refine cut_ 128 [(0, (sv_str l0)), (3, .int .i64 x3), (19, .bool (!(Op.bytesLess (rdOf ByteArray.empty l0 (wrap64 (x3 - 1))).toList (rdOf ByteArray.empty l0 x3).toList)))] [] rfl ⟨.inl rfl, ⟨.inl rfl, ⟨.inl rfl, trivial⟩⟩⟩ trivial ?_
  conv => whnf
  refine br_nt H (fun c H => ?_) (fun c H => ?_)
  conv => whnf
  exact ⟨(k, wrap64 (x3 + 1)), [], ⟨H, lt_⟩, lt_, (fits_of ⟨.inl ⟨rfl, rfl⟩, trivial⟩ trivial fi_ trivial rfl)⟩
  conv => whnf
  injection H with H; subst H
  exact ret_fz [] (rtA_eq rfl)
  conv => whnf
  injection H with H; subst H
  exact ret_fz [] (rtA_eq rfl)
theorem impl_names.l0_lp {F : (Exit → St → Prop) → St → Prop} {hv : List Tmp} {Q : Exit → St → Prop} {σ : St} {r : Bool} {k : Nat} {l0 : List ByteArray} {x7 : Int} (H : impl_names.l0 k l0 x7 = some r) (rn : List (Option Nat)) (h1 : Fits σ σ [] [(7, .int .i64 x7)] [] [] rn)
    (h2 : ∀ (k0 : Nat) (x7 : Int), k0 < k + 1 → impl_names.l0 k0 l0 x7 = some r → headN σ hv [] [(7, .int .i64 x7)] [] [] (F (fun e σ' => match e with | .normal => ∃ (y : Nat × Int) (rn : List (Option Nat)), (impl_names.l0 y.1 l0 y.2 = some r ∧ y.1 < k + 1) ∧ y.1 < k0 ∧ Fits σ σ' [] [(7, .int .i64 y.2)] [] [] rn | e => Q e σ'))) : Lp F hv Q σ := by
  unfold Lp
  refine ⟨Nat × Int, fun x => impl_names.l0 x.1 l0 x.2 = some r ∧ x.1 < k + 1, fun x => x.1, [], fun x => [(7, .int .i64 x.2)], fun x => [], fun x => [], ⟨(k, x7), rn, ⟨H, Nat.lt_succ_self _⟩, h1⟩, ?_⟩
  rintro ⟨k, x7⟩ ⟨H, hk⟩
  exact h2 k x7 hk H
theorem impl_names.ac {k : Nat} {l0 : List ByteArray} {r : Bool} (H : impl_names.f k l0 = some r) : ACalls Try.prog G 140 [] [(sv_str l0)] [] (.bool r) := by
  refine acalls_of tok hP Try.func140 rfl (by kernel_rfl) [.tmp 2] rfl (by kernel_rfl) (Nat.le_of_ble_eq_true rfl) (.l .n (.l (.l .n (.l .n (.l .n (.l (.l .n (.c .n .n)) .n)))) .n)) rfl ?_
  unfold impl_names.f at H
  conv => whnf
  refine impl_names.l0_lp (l0 := l0) (k := k) H [] (fits_of ⟨.inl ⟨rfl, rfl⟩, trivial⟩ trivial fi_ trivial rfl) ?_
  intro k x7 hk H; rcases k with _ | k; exact none_elim H; rw [impl_names.l0] at H; conv => whnf
  refine br_d H (fun c H => ?_) (fun c H => ?_)
  conv => whnf
  refine nd_ H (fun c H => ?_)
  conv => whnf
  refine Nd.mk nf_ ?_
  conv => whnf
  refine El.mk (rdm_en_str _ _ nf_ nf_) ?_
  conv => whnf
  revert H; refine bind_elim (fun t8850 A H => ?_)
  refine call_mk (impl_isName.ac A) (avAL_cons (avA_shut' rfl) (avAL_nil)) (Or.inl rfl) rfl rfl (Nat.le_of_ble_eq_true rfl) ?_
  conv => whnf
  refine cut_ 88 [(0, (sv_str l0)), (5, (sv_str l0)), (6, .int .i64 (l0.length : Int)), (7, .int .i64 x7), (13, .bool (!t8850))] [] rfl ⟨.inl rfl, ⟨.inl rfl, ⟨.inl rfl, ⟨.inl rfl, ⟨.inl rfl, trivial⟩⟩⟩⟩⟩ trivial ?_
  conv => whnf
  refine br_nt H (fun c H => ?_) (fun c H => ?_)
  conv => whnf
  exact ⟨(k, wrap64 (x7 + 1)), [], ⟨H, lt_⟩, lt_, (fits_of ⟨.inl ⟨rfl, rfl⟩, trivial⟩ trivial fi_ trivial rfl)⟩
  conv => whnf
  injection H with H; subst H
  exact ret_fz [] (rtA_eq rfl)
  conv => whnf
  revert H; refine bind_elim (fun t8852 A H => ?_)
  refine call_mk (impl_rising.ac A) (avAL_cons (avA_shut' rfl) (avAL_nil)) (Or.inl rfl) rfl rfl (Nat.le_of_ble_eq_true rfl) ?_
  conv => whnf
  injection H with H; subst H
  exact ret_fz [] (rtA_eq rfl)
theorem impl_Plant_pairs.l0_lp {F : (Exit → St → Prop) → St → Prop} {hv : List Tmp} {Q : Exit → St → Prop} {σ : St} {r : List S_A2_string} {k : Nat} {a0_1 : List S_impl_PlantFoe} {x2 : List S_A2_string} {x8 : Int} (H : impl_Plant_pairs.l0 k a0_1 x2 x8 = some r) (rn : List (Option Nat)) (h1 : Fits σ σ [0] [(2, .own 0 x2.length), (8, .int .i64 x8)] [] [.arr 204 2 (x2.map en_S_A2_string)] rn)
    (h2 : ∀ (k0 : Nat) (x2 : List S_A2_string) (x8 : Int), k0 < k + 1 → impl_Plant_pairs.l0 k0 a0_1 x2 x8 = some r → headN σ hv [0] [(2, .own 0 x2.length), (8, .int .i64 x8)] [] [.arr 204 2 (x2.map en_S_A2_string)] (F (fun e σ' => match e with | .normal => ∃ (y : Nat × (List S_A2_string) × Int) (rn : List (Option Nat)), (impl_Plant_pairs.l0 y.1 a0_1 y.2.1 y.2.2 = some r ∧ y.1 < k + 1) ∧ y.1 < k0 ∧ Fits σ σ' [0] [(2, .own 0 y.2.1.length), (8, .int .i64 y.2.2)] [] [.arr 204 2 (y.2.1.map en_S_A2_string)] rn | e => Q e σ'))) : Lp F hv Q σ := by
  unfold Lp
  refine ⟨Nat × (List S_A2_string) × Int, fun x => impl_Plant_pairs.l0 x.1 a0_1 x.2.1 x.2.2 = some r ∧ x.1 < k + 1, fun x => x.1, [0], fun x => [(2, .own 0 x.2.1.length), (8, .int .i64 x.2.2)], fun x => [], fun x => [.arr 204 2 (x.2.1.map en_S_A2_string)], ⟨(k, x2, x8), rn, ⟨H, Nat.lt_succ_self _⟩, h1⟩, ?_⟩
  rintro ⟨k, x2, x8⟩ ⟨H, hk⟩
  exact h2 k x2 x8 hk H
theorem impl_Plant_pairs.ac {k : Nat} {a0_0 : List ByteArray} {a0_1 : List S_impl_PlantFoe} {a0_2 : List S_impl_PlantPlace} {a0_3 : List S_impl_PlantValve} {r : List S_A2_string} (H : impl_Plant_pairs.f k a0_0 a0_1 a0_2 a0_3 = some r) : ACalls Try.prog G 142 [] [.agg [(sv_str a0_0), (sv_S_impl_PlantFoe a0_1), (sv_S_impl_PlantPlace a0_2), (sv_S_impl_PlantValve a0_3)]] [] ((sv_S_A2_string r)) := by
  refine acalls_of tok hP Try.func142 rfl (by kernel_rfl) [.tmp 2] rfl (by kernel_rfl) (Nat.le_of_ble_eq_true rfl) (.l .n (.l (.l .n (.l .n (.l .n (.l (.c .n .n) .n)))) .n)) rfl ?_
  unfold impl_Plant_pairs.f at H
  conv => whnf
  refine impl_Plant_pairs.l0_lp (a0_1 := a0_1) (k := k) H [none] (fits_of ⟨⟨rfl, rfl⟩, ⟨.inl ⟨rfl, rfl⟩, trivial⟩⟩ ⟨⟨_, _, rfl⟩, trivial⟩ fi_ trivial rfl) ?_
  intro k x2 x8 hk H; rcases k with _ | k; exact none_elim H; rw [impl_Plant_pairs.l0] at H; conv => whnf
  refine br_d H (fun c H => ?_) (fun c H => ?_)
  conv => whnf
  refine nd_ H (fun c H => ?_)
  conv => whnf
  refine Nd.mk nf_ ?_
  conv => whnf
  refine El.mk (rdm_en_S_impl_PlantFoe _ _ nf_ nf_) ?_
  conv => whnf
  refine cut_ 89 [(2, .own 48 x2.length), (4, .bp 73 0), (6, (sv_S_impl_PlantFoe a0_1)), (7, .int .i64 (a0_1.length : Int)), (8, .int .i64 x8)] [(48, .arr 204 2 (x2.map en_S_A2_string)), (73, .box [.str ((rd_impl_PlantFoe a0_1 x8).f0), .str ((rd_impl_PlantFoe a0_1 x8).f1)])] rfl ⟨.inl rfl, ⟨.inl rfl, ⟨.inl rfl, ⟨.inl rfl, ⟨.inl rfl, trivial⟩⟩⟩⟩⟩ ⟨rfl, ⟨rfl, trivial⟩⟩ ?_
  conv => whnf
  refine Or.inl ?_
  conv => whnf
  refine nd_ H (fun c H => ?_)
  conv => whnf
  exact ⟨(k, (x2 ++ ([(⟨(rd_impl_PlantFoe a0_1 x8).f0, (rd_impl_PlantFoe a0_1 x8).f1⟩ : S_A2_string)] : List S_A2_string)), wrap64 (x8 + 1)), [some 145], ⟨H, lt_⟩, lt_, (fits_of ⟨mt_own lm_, ⟨.inl ⟨rfl, rfl⟩, trivial⟩⟩ ⟨fm_, trivial⟩ fi_ trivial rfl)⟩
  conv => whnf
  injection H with H; subst H
  exact ret_fz [48] (rtA_fz' rfl rfl)
theorem impl_foesOk.l0_lp {F : (Exit → St → Prop) → St → Prop} {hv : List Tmp} {Q : Exit → St → Prop} {σ : St} {r : Bool} {k : Nat} {l0 : List S_A2_string} {a1 : Int} {x9 : Int} (H : impl_foesOk.l0 k l0 a1 x9 = some r) (rn : List (Option Nat)) (h1 : Fits σ σ [] [(9, .int .i64 x9)] [] [] rn)
    (h2 : ∀ (k0 : Nat) (x9 : Int), k0 < k + 1 → impl_foesOk.l0 k0 l0 a1 x9 = some r → headN σ hv [] [(9, .int .i64 x9)] [] [] (F (fun e σ' => match e with | .normal => ∃ (y : Nat × Int) (rn : List (Option Nat)), (impl_foesOk.l0 y.1 l0 a1 y.2 = some r ∧ y.1 < k + 1) ∧ y.1 < k0 ∧ Fits σ σ' [] [(9, .int .i64 y.2)] [] [] rn | e => Q e σ'))) : Lp F hv Q σ := by
  unfold Lp
  refine ⟨Nat × Int, fun x => impl_foesOk.l0 x.1 l0 a1 x.2 = some r ∧ x.1 < k + 1, fun x => x.1, [], fun x => [(9, .int .i64 x.2)], fun x => [], fun x => [], ⟨(k, x9), rn, ⟨H, Nat.lt_succ_self _⟩, h1⟩, ?_⟩
  rintro ⟨k, x9⟩ ⟨H, hk⟩
  exact h2 k x9 hk H
theorem impl_foesOk.ac {k : Nat} {l0 : List S_A2_string} {a1 : Int} {r : Bool} (H : impl_foesOk.f k l0 a1 = some r) : ACalls Try.prog G 141 [] [(sv_S_A2_string l0), .int .i64 a1] [] (.bool r) := by
  refine acalls_of tok hP Try.func141 rfl (by kernel_rfl) [.tmp 4] rfl (by kernel_rfl) (Nat.le_of_ble_eq_true rfl) (.l .n (.l (.l .n (.l .n (.l .n (.l (.c .n (.l (.c .n (.l (.c .n .n) .n)) (.c .n (.l (.c .n .n) .n)))) .n)))) (.c .n .n))) rfl ?_
  unfold impl_foesOk.f at H
  conv => whnf
  refine impl_foesOk.l0_lp (l0 := l0) (a1 := a1) (k := k) H [] (fits_of ⟨.inl ⟨rfl, rfl⟩, trivial⟩ trivial fi_ trivial rfl) ?_
  intro k x9 hk H; rcases k with _ | k; exact none_elim H; rw [impl_foesOk.l0] at H; conv => whnf
  refine br_d H (fun c H => ?_) (fun c H => ?_)
  conv => whnf
  refine nd_ H (fun c H => ?_)
  conv => whnf
  refine Nd.mk nf_ ?_
  conv => whnf
  refine El.mk (rdm_en_S_A2_string _ _ nf_ nf_) ?_
  conv => whnf
  refine cut_ 88 [(0, (sv_S_A2_string l0)), (1, .int .i64 a1), (5, .int .i64 x9), (6, .bp 64 0), (7, (sv_S_A2_string l0)), (8, .int .i64 (l0.length : Int)), (9, .int .i64 x9)] [(64, .box [.str ((rd_A2_string l0 x9).f0), .str ((rd_A2_string l0 x9).f1)])] rfl ⟨.inl rfl, ⟨.inl rfl, ⟨.inl rfl, ⟨.inl rfl, ⟨.inl rfl, ⟨.inl rfl, ⟨.inl rfl, trivial⟩⟩⟩⟩⟩⟩⟩ ⟨rfl, trivial⟩ ?_
  conv => whnf
  revert H; refine bind_elim (fun t8904 A H => ?_)
  refine call_mk (impl_isName.ac A) (avAL_cons (avA_shut' rfl) (avAL_nil)) (Or.inl rfl) rfl rfl (Nat.le_of_ble_eq_true rfl) ?_
  conv => whnf
  refine br_nt H (fun c H => ?_) (fun c H => ?_)
  conv => whnf
  refine Br.f ff_ ?_
  conv => whnf
  refine Br.f ff_ ?_
  conv => whnf
  revert H; refine bind_elim (fun t8905 A H => ?_)
  refine call_mk (impl_isName.ac A) (avAL_cons (avA_shut' rfl) (avAL_nil)) (Or.inl rfl) rfl rfl (Nat.le_of_ble_eq_true rfl) ?_
  conv => whnf
  refine Br.f ff_ ?_
  conv => whnf
  refine Br.f ff_ ?_
  conv => whnf
  refine br_nt H (fun c H => ?_) (fun c H => ?_)
  conv => whnf
  refine Br.f ff_ ?_
  conv => whnf
  refine Br.f ff_ ?_
  conv => whnf
  refine Br.f ff_ ?_
  conv => whnf
  refine Br.f ff_ ?_
  conv => whnf
  refine Br.f ff_ ?_
  conv => whnf
  refine cut_ 224 [(0, (sv_S_A2_string l0)), (1, .int .i64 a1), (5, .int .i64 x9), (6, .bp 64 0), (7, (sv_S_A2_string l0)), (8, .int .i64 (l0.length : Int)), (9, .int .i64 x9), (30, .bool (!(Op.bytesLess ((rd_A2_string l0 x9).f0).toList ((rd_A2_string l0 x9).f1).toList)))] [(64, .box [.str ((rd_A2_string l0 x9).f0), .str ((rd_A2_string l0 x9).f1)])] rfl ⟨.inl rfl, ⟨.inl rfl, ⟨.inl rfl, ⟨.inl rfl, ⟨.inl rfl, ⟨.inl rfl, ⟨.inl rfl, ⟨.inl rfl, trivial⟩⟩⟩⟩⟩⟩⟩⟩ ⟨rfl, trivial⟩ ?_
  conv => whnf
  refine br_nt H (fun c H => ?_) (fun c H => ?_)
  conv => whnf
  refine br_d H (fun c H => ?_) (fun c H => ?_)
  conv => whnf
  refine Br.t ft_ ?_
  conv => whnf
  refine Br.t ft_ ?_
  conv => whnf
  refine Br.t ft_ ?_
  conv => whnf
  refine nd_ H (fun c H => ?_)
  conv => whnf
  refine nd_ H (fun c H => ?_)
  conv => whnf
  refine El.mk (rdm_en_S_A2_string _ _ nf_ nf_) ?_
  conv => whnf
  refine Br.t ft_ ?_
  conv => whnf
  refine Br.t ft_ ?_
  conv => whnf
  refine Br.t ft_ ?_
  conv => whnf
  refine Br.t ft_ ?_
  conv => whnf
  refine Br.t ft_ ?_
  conv => whnf
  refine Br.t ft_ ?_
  conv => whnf
  refine br_t H (fun c H => ?_) (fun c H => ?_)
  conv => whnf
  refine Br.t ft_ ?_
  conv => whnf
  refine Br.t ft_ ?_
  conv => whnf
  refine Br.t ft_ ?_
  conv => whnf
  refine Br.t ft_ ?_
  conv => whnf
  refine Br.t ft_ ?_
  conv => whnf
  refine Br.t ft_ ?_
  conv => whnf
  refine Br.t ft_ ?_
  conv => whnf
  refine Br.t ft_ ?_
  conv => whnf
  refine Br.t ft_ ?_
  conv => whnf
  refine Br.t ft_ ?_
  conv => whnf
  refine Br.t ft_ ?_
  conv => whnf
  refine Br.t ft_ ?_
  conv => whnf
  refine Br.t ft_ ?_
  conv => whnf
  refine cut_ 504 [(0, (sv_S_A2_string l0)), (1, .int .i64 a1), (7, (sv_S_A2_string l0)), (8, .int .i64 (l0.length : Int)), (9, .int .i64 x9), (65, .bool true)] [] rfl ⟨.inl rfl, ⟨.inl rfl, ⟨.inl rfl, ⟨.inl rfl, ⟨.inl rfl, ⟨.inl rfl, trivial⟩⟩⟩⟩⟩⟩ trivial ?_
  conv => whnf
  refine Br.t rfl ?_
  conv => whnf
  refine cut_ 512 [(4, .bool false)] [] rfl ⟨.inl rfl, trivial⟩ trivial ?_
  conv => whnf
  injection H with H; subst H
  exact ret_fz [] (rtA_eq rfl)
  conv => whnf
  refine Br.f ff_ ?_
  conv => whnf
  refine Br.f ff_ ?_
  conv => whnf
  refine Br.f ff_ ?_
  conv => whnf
  refine Nd.mk nf_ ?_
  conv => whnf
  refine Nd.mk nf_ ?_
  conv => whnf
  refine El.mk (rdm_en_S_A2_string _ _ nf_ nf_) ?_
  conv => whnf
  refine Br.f ff_ ?_
  conv => whnf
  refine Br.f ff_ ?_
  conv => whnf
  refine Br.f ff_ ?_
  conv => whnf
  refine Br.f ff_ ?_
  conv => whnf
  refine Br.f ff_ ?_
  conv => whnf
  refine Br.f ff_ ?_
  conv => whnf
  refine br_d H (fun c H => ?_) (fun c H => ?_)
  conv => whnf
  refine Br.t ft_ ?_
  conv => whnf
  refine Br.t ft_ ?_
  conv => whnf
  refine Br.t ft_ ?_
  conv => whnf
  refine Nd.mk nf_ ?_
  conv => whnf
  refine Nd.mk nf_ ?_
  conv => whnf
  refine El.mk (rdm_en_S_A2_string _ _ nf_ nf_) ?_
  conv => whnf
  refine Br.t ft_ ?_
  conv => whnf
  refine Br.t ft_ ?_
  conv => whnf
  refine Br.t ft_ ?_
  conv => whnf
  refine Br.t ft_ ?_
  conv => whnf
  refine Br.t ft_ ?_
  conv => whnf
  refine Br.f ff_ ?_
  conv => whnf
  refine Br.t ft_ ?_
  conv => whnf
  refine Br.t ft_ ?_
  conv => whnf
  refine Br.f ff_ ?_
  conv => whnf
  refine Br.t ft_ ?_
  conv => whnf
  refine cut_ 504 [(0, (sv_S_A2_string l0)), (1, .int .i64 a1), (7, (sv_S_A2_string l0)), (8, .int .i64 (l0.length : Int)), (9, .int .i64 x9), (65, .bool (!(Op.bytesLess ((rd_A2_string l0 (wrap64 (x9 - 1))).f1).toList ((rd_A2_string l0 x9).f1).toList)))] [] rfl ⟨.inl rfl, ⟨.inl rfl, ⟨.inl rfl, ⟨.inl rfl, ⟨.inl rfl, ⟨.inl rfl, trivial⟩⟩⟩⟩⟩⟩ trivial ?_
  conv => whnf
  refine br_nt H (fun c H => ?_) (fun c H => ?_)
  conv => whnf
  exact ⟨(k, wrap64 (x9 + 1)), [], ⟨H, lt_⟩, lt_, (fits_of ⟨.inl ⟨rfl, rfl⟩, trivial⟩ trivial fi_ trivial rfl)⟩
  conv => whnf
  refine cut_ 512 [(4, .bool false)] [] rfl ⟨.inl rfl, trivial⟩ trivial ?_
  conv => whnf
  injection H with H; subst H
  exact ret_fz [] (rtA_eq rfl)
  conv => whnf
  refine Br.f ff_ ?_
  conv => whnf
  refine Br.f ff_ ?_
  conv => whnf
  refine Br.f ff_ ?_
  conv => whnf
  refine Br.f ff_ ?_
  conv => whnf
  refine Br.f ff_ ?_
  conv => whnf
  refine Br.f ff_ ?_
  conv => whnf
  refine Br.f ff_ ?_
  conv => whnf
  refine Br.f ff_ ?_
  conv => whnf
  refine Br.f ff_ ?_
  conv => whnf
  refine Br.f ff_ ?_
  conv => whnf
  refine Br.t ft_ ?_
  conv => whnf
  refine Br.f ff_ ?_
  conv => whnf
  refine Br.t ft_ ?_
  conv => whnf
  refine cut_ 504 [(0, (sv_S_A2_string l0)), (1, .int .i64 a1), (7, (sv_S_A2_string l0)), (8, .int .i64 (l0.length : Int)), (9, .int .i64 x9), (65, .bool false)] [] rfl ⟨.inl rfl, ⟨.inl rfl, ⟨.inl rfl, ⟨.inl rfl, ⟨.inl rfl, ⟨.inl rfl, trivial⟩⟩⟩⟩⟩⟩ trivial ?_
  conv => whnf
  refine Br.f rfl ?_
  conv => whnf
  exact ⟨(k, wrap64 (x9 + 1)), [], ⟨H, lt_⟩, lt_, (fits_of ⟨.inl ⟨rfl, rfl⟩, trivial⟩ trivial fi_ trivial rfl)⟩
  conv => whnf
  refine Br.f ff_ ?_
  conv => whnf
  refine Br.f ff_ ?_
  conv => whnf
  refine Br.f ff_ ?_
  conv => whnf
  refine Br.f ff_ ?_
  conv => whnf
  refine Br.f ff_ ?_
  conv => whnf
  refine Br.f ff_ ?_
  conv => whnf
  refine Br.f ff_ ?_
  conv => whnf
  refine Br.f ff_ ?_
  conv => whnf
  refine Br.f ff_ ?_
  conv => whnf
  refine Br.f ff_ ?_
  conv => whnf
  refine Br.f ff_ ?_
  conv => whnf
  refine cut_ 504 [(0, (sv_S_A2_string l0)), (1, .int .i64 a1), (7, (sv_S_A2_string l0)), (8, .int .i64 (l0.length : Int)), (9, .int .i64 x9), (65, .bool false)] [] rfl ⟨.inl rfl, ⟨.inl rfl, ⟨.inl rfl, ⟨.inl rfl, ⟨.inl rfl, ⟨.inl rfl, trivial⟩⟩⟩⟩⟩⟩ trivial ?_
  conv => whnf
  refine Br.f rfl ?_
  conv => whnf
  exact ⟨(k, wrap64 (x9 + 1)), [], ⟨H, lt_⟩, lt_, (fits_of ⟨.inl ⟨rfl, rfl⟩, trivial⟩ trivial fi_ trivial rfl)⟩
  conv => whnf
  refine cut_ 232 [(4, .bool false)] [] rfl ⟨.inl rfl, trivial⟩ trivial ?_
  conv => whnf
  injection H with H; subst H
  exact ret_fz [] (rtA_eq rfl)
  conv => whnf
  refine Br.t ft_ ?_
  conv => whnf
  refine Br.t ft_ ?_
  conv => whnf
  refine Br.t ft_ ?_
  conv => whnf
  refine Br.t ft_ ?_
  conv => whnf
  refine Br.t ft_ ?_
  conv => whnf
  refine cut_ 224 [(0, (sv_S_A2_string l0)), (1, .int .i64 a1), (5, .int .i64 x9), (6, .bp 64 0), (7, (sv_S_A2_string l0)), (8, .int .i64 (l0.length : Int)), (9, .int .i64 x9), (30, .bool true)] [(64, .box [.str ((rd_A2_string l0 x9).f0), .str ((rd_A2_string l0 x9).f1)])] rfl ⟨.inl rfl, ⟨.inl rfl, ⟨.inl rfl, ⟨.inl rfl, ⟨.inl rfl, ⟨.inl rfl, ⟨.inl rfl, ⟨.inl rfl, trivial⟩⟩⟩⟩⟩⟩⟩⟩ ⟨rfl, trivial⟩ ?_
  conv => whnf
  refine Br.t rfl ?_
  conv => whnf
  refine cut_ 232 [(4, .bool false)] [] rfl ⟨.inl rfl, trivial⟩ trivial ?_
  conv => whnf
  injection H with H; subst H
  exact ret_fz [] (rtA_eq rfl)
  conv => whnf
  refine Br.t ft_ ?_
  conv => whnf
  refine Br.t ft_ ?_
  conv => whnf
  refine Br.t ft_ ?_
  conv => whnf
  refine Br.t ft_ ?_
  conv => whnf
  refine Br.t rfl ?_
  conv => whnf
  refine Br.t rfl ?_
  conv => whnf
  refine Br.t rfl ?_
  conv => whnf
  refine Br.t rfl ?_
  conv => whnf
  refine Br.t rfl ?_
  conv => whnf
  refine Br.t rfl ?_
  conv => whnf
  refine cut_ 224 [(0, (sv_S_A2_string l0)), (1, .int .i64 a1), (5, .int .i64 x9), (6, .bp 64 0), (7, (sv_S_A2_string l0)), (8, .int .i64 (l0.length : Int)), (9, .int .i64 x9), (30, .bool true)] [(64, .box [.str ((rd_A2_string l0 x9).f0), .str ((rd_A2_string l0 x9).f1)])] rfl ⟨.inl rfl, ⟨.inl rfl, ⟨.inl rfl, ⟨.inl rfl, ⟨.inl rfl, ⟨.inl rfl, ⟨.inl rfl, ⟨.inl rfl, trivial⟩⟩⟩⟩⟩⟩⟩⟩ ⟨rfl, trivial⟩ ?_
  conv => whnf
  refine Br.t rfl ?_
  conv => whnf
  refine cut_ 232 [(4, .bool false)] [] rfl ⟨.inl rfl, trivial⟩ trivial ?_
  conv => whnf
  injection H with H; subst H
  exact ret_fz [] (rtA_eq rfl)
  conv => whnf
  refine cut_ 80 [(4, .bool (decide ((l0.length : Int) ≤ a1)))] [] rfl ⟨.inl rfl, trivial⟩ trivial ?_
  conv => whnf
  injection H with H; subst H
  exact ret_fz [] (rtA_eq rfl)
theorem slices_Index_string_string.l0_lp {F : (Exit → St → Prop) → St → Prop} {hv : List Tmp} {Q : Exit → St → Prop} {σ : St} {r : Int} {k : Nat} {l0 : List ByteArray} {a1 : ByteArray} {x8 : Int} (H : slices_Index_string_string.l0 k l0 a1 x8 = some r) (rn : List (Option Nat)) (h1 : Fits σ σ [] [(8, .int .i64 x8)] [] [] rn)
    (h2 : ∀ (k0 : Nat) (x8 : Int), k0 < k + 1 → slices_Index_string_string.l0 k0 l0 a1 x8 = some r → headN σ hv [] [(8, .int .i64 x8)] [] [] (F (fun e σ' => match e with | .normal => ∃ (y : Nat × Int) (rn : List (Option Nat)), (slices_Index_string_string.l0 y.1 l0 a1 y.2 = some r ∧ y.1 < k + 1) ∧ y.1 < k0 ∧ Fits σ σ' [] [(8, .int .i64 y.2)] [] [] rn | e => Q e σ'))) : Lp F hv Q σ := by
  unfold Lp
  refine ⟨Nat × Int, fun x => slices_Index_string_string.l0 x.1 l0 a1 x.2 = some r ∧ x.1 < k + 1, fun x => x.1, [], fun x => [(8, .int .i64 x.2)], fun x => [], fun x => [], ⟨(k, x8), rn, ⟨H, Nat.lt_succ_self _⟩, h1⟩, ?_⟩
  rintro ⟨k, x8⟩ ⟨H, hk⟩
  exact h2 k x8 hk H
theorem slices_Index_string_string.ac {k : Nat} {l0 : List ByteArray} {a1 : ByteArray} {r : Int} (H : slices_Index_string_string.f k l0 a1 = some r) : ACalls Try.prog G 191 [] [(sv_str l0), .str a1] [] (.int .i64 r) := by
  refine acalls_of tok hP Try.func191 rfl (by kernel_rfl) [.tmp 4] rfl (by kernel_rfl) (Nat.le_of_ble_eq_true rfl) (.l .n (.l (.l .n (.l .n (.l .n (.l (.l .n (.c .n .n)) .n)))) .n)) rfl ?_
  unfold slices_Index_string_string.f at H
  conv => whnf
  refine slices_Index_string_string.l0_lp (l0 := l0) (a1 := a1) (k := k) H [] (fits_of ⟨.inl ⟨rfl, rfl⟩, trivial⟩ trivial fi_ trivial rfl) ?_
  intro k x8 hk H; rcases k with _ | k; exact none_elim H; rw [slices_Index_string_string.l0] at H; conv => whnf
  refine br_d H (fun c H => ?_) (fun c H => ?_)
  conv => whnf
  refine nd_ H (fun c H => ?_)
  conv => whnf
  refine Nd.mk nf_ ?_
  conv => whnf
  refine El.mk (rdm_en_str _ _ nf_ nf_) ?_
  conv => whnf
  refine cut_ 104 [(0, (sv_str l0)), (1, .str a1), (5, .int .i64 x8), (7, .int .i64 (l0.length : Int)), (8, .int .i64 x8), (16, .bool (decide (a1.toList = (rdOf ByteArray.empty l0 x8).toList)))] [] rfl ⟨.inl rfl, ⟨.inl rfl, ⟨.inl rfl, ⟨.inl rfl, ⟨.inl rfl, ⟨.inl rfl, trivial⟩⟩⟩⟩⟩⟩ trivial ?_
  conv => whnf
  refine br_d H (fun c H => ?_) (fun c H => ?_)
  conv => whnf
  injection H with H; subst H
  exact ret_fz [] (rtA_eq rfl)
  conv => whnf
  exact ⟨(k, wrap64 (x8 + 1)), [], ⟨H, lt_⟩, lt_, (fits_of ⟨.inl ⟨rfl, rfl⟩, trivial⟩ trivial fi_ trivial rfl)⟩
  conv => whnf
  injection H with H; subst H
  exact ret_fz [] (rtA_eq rfl)
theorem slices_Contains_string_string.ac {k : Nat} {l0 : List ByteArray} {a1 : ByteArray} {r : Bool} (H : slices_Contains_string_string.f k l0 a1 = some r) : ACalls Try.prog G 166 [] [(sv_str l0), .str a1] [] (.bool r) := by
  refine acalls_of tok hP Try.func166 rfl (by kernel_rfl) [.tmp 4] rfl (by kernel_rfl) (Nat.le_of_ble_eq_true rfl) .n rfl ?_
  unfold slices_Contains_string_string.f at H
  conv => whnf
  revert H; refine bind_elim (fun t8994 A H => ?_)
  refine call_mk (slices_Index_string_string.ac A) (avAL_cons (avA_shut' rfl) (avAL_cons (avA_shut' rfl) (avAL_nil))) (Or.inl rfl) rfl rfl (Nat.le_of_ble_eq_true rfl) ?_
  conv => whnf
  injection H with H; subst H
  exact ret_fz [] (rtA_eq rfl)
theorem impl_has.ac {k : Nat} {l0 : List ByteArray} {a1 : ByteArray} {r : Bool} (H : impl_has.f k l0 a1 = some r) : ACalls Try.prog G 105 [] [(sv_str l0), .str a1] [] (.bool r) := by
  refine acalls_of tok hP Try.func105 rfl (by kernel_rfl) [.tmp 4] rfl (by kernel_rfl) (Nat.le_of_ble_eq_true rfl) .n rfl ?_
  unfold impl_has.f at H
  conv => whnf
  revert H; refine bind_elim (fun t8996 A H => ?_)
  refine call_mk (slices_Contains_string_string.ac A) (avAL_cons (avA_shut' rfl) (avAL_cons (avA_shut' rfl) (avAL_nil))) (Or.inl rfl) rfl rfl (Nat.le_of_ble_eq_true rfl) ?_
  conv => whnf
  injection H with H; subst H
  exact ret_fz [] (rtA_eq rfl)
theorem impl_Plant_place.l0_lp {F : (Exit → St → Prop) → St → Prop} {hv : List Tmp} {Q : Exit → St → Prop} {σ : St} {r : ByteArray × Int × ByteArray × Bool} {k : Nat} {a0_2 : List S_impl_PlantPlace} {a1 : ByteArray} {x11 : Int} (H : impl_Plant_place.l0 k a0_2 a1 x11 = some r) (rn : List (Option Nat)) (h1 : Fits σ σ [0] [(11, .int .i64 x11)] [] [] rn)
    (h2 : ∀ (k0 : Nat) (x11 : Int), k0 < k + 1 → impl_Plant_place.l0 k0 a0_2 a1 x11 = some r → headN σ hv [0] [(11, .int .i64 x11)] [] [] (F (fun e σ' => match e with | .normal => ∃ (y : Nat × Int) (rn : List (Option Nat)), (impl_Plant_place.l0 y.1 a0_2 a1 y.2 = some r ∧ y.1 < k + 1) ∧ y.1 < k0 ∧ Fits σ σ' [0] [(11, .int .i64 y.2)] [] [] rn | e => Q e σ'))) : Lp F hv Q σ := by
  unfold Lp
  refine ⟨Nat × Int, fun x => impl_Plant_place.l0 x.1 a0_2 a1 x.2 = some r ∧ x.1 < k + 1, fun x => x.1, [0], fun x => [(11, .int .i64 x.2)], fun x => [], fun x => [], ⟨(k, x11), rn, ⟨H, Nat.lt_succ_self _⟩, h1⟩, ?_⟩
  rintro ⟨k, x11⟩ ⟨H, hk⟩
  exact h2 k x11 hk H
theorem impl_Plant_place.ac {k : Nat} {a0_0 : List ByteArray} {a0_1 : List S_impl_PlantFoe} {a0_2 : List S_impl_PlantPlace} {a0_3 : List S_impl_PlantValve} {a1 : ByteArray} {r : ByteArray × Int × ByteArray × Bool} (H : impl_Plant_place.f k a0_0 a0_1 a0_2 a0_3 a1 = some r) : ACalls Try.prog G 144 [] [.agg [(sv_str a0_0), (sv_S_impl_PlantFoe a0_1), (sv_S_impl_PlantPlace a0_2), (sv_S_impl_PlantValve a0_3)], .str a1] [] (.tup [.agg [.str r.1, .int .i64 r.2.1, .str r.2.2.1], .bool r.2.2.2]) := by
  refine acalls_of tok hP Try.func144 rfl (by kernel_rfl) [.cell 4 109, .tmp 5] rfl (by kernel_rfl) (Nat.le_of_ble_eq_true rfl) (.l .n (.l (.l .n (.l .n (.l .n (.l (.c .n .n) .n)))) (.c .n .n))) rfl ?_
  unfold impl_Plant_place.f at H
  conv => whnf
  refine impl_Plant_place.l0_lp (a0_2 := a0_2) (a1 := a1) (k := k) H [] (fits_of ⟨.inl ⟨rfl, rfl⟩, trivial⟩ trivial fi_ trivial rfl) ?_
  intro k x11 hk H; rcases k with _ | k; exact none_elim H; rw [impl_Plant_place.l0] at H; conv => whnf
  refine br_d H (fun c H => ?_) (fun c H => ?_)
  conv => whnf
  refine nd_ H (fun c H => ?_)
  conv => whnf
  refine Nd.mk nf_ ?_
  conv => whnf
  refine El.mk (rdm_en_S_impl_PlantPlace _ _ nf_ nf_) ?_
  conv => whnf
  refine cut_ 96 [(1, .str a1), (4, .bp 8 0), (7, .bp 80 0), (9, (sv_S_impl_PlantPlace a0_2)), (10, .int .i64 (a0_2.length : Int)), (11, .int .i64 x11)] [(8, .box [.str (⟨#[]⟩ : ByteArray), .int .i64 0, .str (⟨#[]⟩ : ByteArray)]), (80, .box [.str ((rd_impl_PlantPlace a0_2 x11).f0), .int .i64 ((rd_impl_PlantPlace a0_2 x11).f1), .str ((rd_impl_PlantPlace a0_2 x11).f2)])] rfl ⟨.inl rfl, ⟨.inl rfl, ⟨.inl rfl, ⟨.inl rfl, ⟨.inl rfl, ⟨.inl rfl, trivial⟩⟩⟩⟩⟩⟩ ⟨rfl, ⟨rfl, trivial⟩⟩ ?_
  conv => whnf
  refine br_d H (fun c H => ?_) (fun c H => ?_)
  conv => whnf
  injection H with H; subst H
  exact ret_tup [] (rtAL_cons (rtA_agg (rtL_cons (rt_eq rfl) (rtL_cons (rt_eq rfl) (rtL_cons (rt_eq rfl) (rtL_nil))))) (rtAL_cons (rtA_eq rfl) (rtAL_nil)))
  conv => whnf
  exact ⟨(k, wrap64 (x11 + 1)), [], ⟨H, lt_⟩, lt_, (fits_of ⟨.inl ⟨rfl, rfl⟩, trivial⟩ trivial fi_ trivial rfl)⟩
  conv => whnf
  refine cut_ 88 [(4, .bp 8 0), (5, .bool false)] [(8, .box [.str (⟨#[]⟩ : ByteArray), .int .i64 0, .str (⟨#[]⟩ : ByteArray)])] rfl ⟨.inl rfl, ⟨.inl rfl, trivial⟩⟩ ⟨rfl, trivial⟩ ?_
  conv => whnf
  injection H with H; subst H
  exact ret_tup [] (rtAL_cons (rtA_agg (rtL_cons (rt_eq rfl) (rtL_cons (rt_eq rfl) (rtL_cons (rt_eq rfl) (rtL_nil))))) (rtAL_cons (rtA_eq rfl) (rtAL_nil)))
theorem impl_PlantValid.j0_sq {F : (Exit → St → Prop) → St → Prop} {hv : List Tmp} {K : St → Prop} {Q : Exit → St → Prop} {σ : St} {r : Bool} {KK : Nat} {a0_0 : List ByteArray} {a0_1 : List S_impl_PlantFoe} {a0_2 : List S_impl_PlantPlace} {a0_3 : List S_impl_PlantValve} {x111 : Int}
    (h1 : F (fun e σ' => match e with | .normal => ∃ (y : Nat × Bool) (rn : List (Option Nat)), (impl_PlantValid.j0 y.1 a0_0 a0_1 a0_2 a0_3 x111 y.2 = some r ∧ y.1 < KK) ∧ Fits σ σ' [] [(170, .bool y.2)] [] [] rn | e => Q e σ') σ)
    (h2 : ∀ (k : Nat) (x170 : Bool), k < KK → impl_PlantValid.j0 k a0_0 a0_1 a0_2 a0_3 x111 x170 = some r → headN σ hv [] [(170, .bool x170)] [] [] K) : Sq F hv K Q σ := by
  unfold Sq
  refine ⟨Nat × Bool, fun x => impl_PlantValid.j0 x.1 a0_0 a0_1 a0_2 a0_3 x111 x.2 = some r ∧ x.1 < KK, [], fun x => [(170, .bool x.2)], fun x => [], fun x => [], h1, ?_⟩
  rintro ⟨k, x170⟩ ⟨H, hk⟩
  exact h2 k x170 hk H
theorem impl_PlantValid.l2_lp {F : (Exit → St → Prop) → St → Prop} {hv : List Tmp} {Q : Exit → St → Prop} {σ : St} {r : Bool} {k : Nat} {a0_0 : List ByteArray} {a0_1 : List S_impl_PlantFoe} {a0_2 : List S_impl_PlantPlace} {a0_3 : List S_impl_PlantValve} {x111 : Int} (H : impl_PlantValid.l2 k a0_0 a0_1 a0_2 a0_3 x111 = some r) (rn : List (Option Nat)) (h1 : Fits σ σ [] [(111, .int .i64 x111)] [] [] rn)
    (h2 : ∀ (k0 : Nat) (x111 : Int), k0 < k + 1 → impl_PlantValid.l2 k0 a0_0 a0_1 a0_2 a0_3 x111 = some r → headN σ hv [] [(111, .int .i64 x111)] [] [] (F (fun e σ' => match e with | .normal => ∃ (y : Nat × Int) (rn : List (Option Nat)), (impl_PlantValid.l2 y.1 a0_0 a0_1 a0_2 a0_3 y.2 = some r ∧ y.1 < k + 1) ∧ y.1 < k0 ∧ Fits σ σ' [] [(111, .int .i64 y.2)] [] [] rn | e => Q e σ'))) : Lp F hv Q σ := by
  unfold Lp
  refine ⟨Nat × Int, fun x => impl_PlantValid.l2 x.1 a0_0 a0_1 a0_2 a0_3 x.2 = some r ∧ x.1 < k + 1, fun x => x.1, [], fun x => [(111, .int .i64 x.2)], fun x => [], fun x => [], ⟨(k, x111), rn, ⟨H, Nat.lt_succ_self _⟩, h1⟩, ?_⟩
  rintro ⟨k, x111⟩ ⟨H, hk⟩
  exact h2 k x111 hk H
theorem impl_PlantValid.l1_lp {F : (Exit → St → Prop) → St → Prop} {hv : List Tmp} {Q : Exit → St → Prop} {σ : St} {r : Bool} {k : Nat} {a0_0 : List ByteArray} {a0_1 : List S_impl_PlantFoe} {a0_2 : List S_impl_PlantPlace} {a0_3 : List S_impl_PlantValve} {x66 : Int} (H : impl_PlantValid.l1 k a0_0 a0_1 a0_2 a0_3 x66 = some r) (rn : List (Option Nat)) (h1 : Fits σ σ [] [(66, .int .i64 x66)] [] [] rn)
    (h2 : ∀ (k0 : Nat) (x66 : Int), k0 < k + 1 → impl_PlantValid.l1 k0 a0_0 a0_1 a0_2 a0_3 x66 = some r → headN σ hv [] [(66, .int .i64 x66)] [] [] (F (fun e σ' => match e with | .normal => ∃ (y : Nat × Int) (rn : List (Option Nat)), (impl_PlantValid.l1 y.1 a0_0 a0_1 a0_2 a0_3 y.2 = some r ∧ y.1 < k + 1) ∧ y.1 < k0 ∧ Fits σ σ' [] [(66, .int .i64 y.2)] [] [] rn | e => Q e σ'))) : Lp F hv Q σ := by
  unfold Lp
  refine ⟨Nat × Int, fun x => impl_PlantValid.l1 x.1 a0_0 a0_1 a0_2 a0_3 x.2 = some r ∧ x.1 < k + 1, fun x => x.1, [], fun x => [(66, .int .i64 x.2)], fun x => [], fun x => [], ⟨(k, x66), rn, ⟨H, Nat.lt_succ_self _⟩, h1⟩, ?_⟩
  rintro ⟨k, x66⟩ ⟨H, hk⟩
  exact h2 k x66 hk H
theorem impl_PlantValid.l0_lp {F : (Exit → St → Prop) → St → Prop} {hv : List Tmp} {Q : Exit → St → Prop} {σ : St} {r : Bool} {k : Nat} {a0_0 : List ByteArray} {a0_1 : List S_impl_PlantFoe} {a0_2 : List S_impl_PlantPlace} {a0_3 : List S_impl_PlantValve} {x44 : Int} (H : impl_PlantValid.l0 k a0_0 a0_1 a0_2 a0_3 x44 = some r) (rn : List (Option Nat)) (h1 : Fits σ σ [] [(44, .int .i64 x44)] [] [] rn)
    (h2 : ∀ (k0 : Nat) (x44 : Int), k0 < k + 1 → impl_PlantValid.l0 k0 a0_0 a0_1 a0_2 a0_3 x44 = some r → headN σ hv [] [(44, .int .i64 x44)] [] [] (F (fun e σ' => match e with | .normal => ∃ (y : Nat × Int) (rn : List (Option Nat)), (impl_PlantValid.l0 y.1 a0_0 a0_1 a0_2 a0_3 y.2 = some r ∧ y.1 < k + 1) ∧ y.1 < k0 ∧ Fits σ σ' [] [(44, .int .i64 y.2)] [] [] rn | e => Q e σ'))) : Lp F hv Q σ := by
  unfold Lp
  refine ⟨Nat × Int, fun x => impl_PlantValid.l0 x.1 a0_0 a0_1 a0_2 a0_3 x.2 = some r ∧ x.1 < k + 1, fun x => x.1, [], fun x => [(44, .int .i64 x.2)], fun x => [], fun x => [], ⟨(k, x44), rn, ⟨H, Nat.lt_succ_self _⟩, h1⟩, ?_⟩
  rintro ⟨k, x44⟩ ⟨H, hk⟩
  exact h2 k x44 hk H
theorem impl_PlantValid.ac {k : Nat} {a0_0 : List ByteArray} {a0_1 : List S_impl_PlantFoe} {a0_2 : List S_impl_PlantPlace} {a0_3 : List S_impl_PlantValve} {r : Bool} (H : impl_PlantValid.f k a0_0 a0_1 a0_2 a0_3 = some r) : ACalls Try.prog G 71 [] [.agg [(sv_str a0_0), (sv_S_impl_PlantFoe a0_1), (sv_S_impl_PlantPlace a0_2), (sv_S_impl_PlantValve a0_3)]] [] (.bool r) := by
  refine acalls_of tok hP Try.func71 rfl (by kernel_rfl) [.tmp 2] rfl (by kernel_rfl) (Nat.le_of_ble_eq_true rfl) (.l .n (.l (.c .n (.l (.c .n .n) .n)) (.l (.l .n (.l .n (.l .n (.l (.l .n (.c .n (.l (.c .n .n) .n))) .n)))) (.l (.l .n (.c .n (.l .n (.l (.l .n (.c .n (.l (.c .n .n) .n))) .n)))) (.l (.l .n (.l .n (.l .n (.l (.c .n (.l .n (.c .n (.j .n (.l (.c .n .n) .n))))) .n)))) .n))))) rfl ?_
  unfold impl_PlantValid.f at H
  conv => whnf
  refine br_d H (fun c H => ?_) (fun c H => ?_)
  conv => whnf
  refine Br.t ft_ ?_
  conv => whnf
  refine Br.t ft_ ?_
  conv => whnf
  refine Br.t ft_ ?_
  conv => whnf
  refine Br.t ft_ ?_
  conv => whnf
  refine Br.t rfl ?_
  conv => whnf
  refine Br.t rfl ?_
  conv => whnf
  refine Br.t rfl ?_
  conv => whnf
  refine Br.t rfl ?_
  conv => whnf
  refine Br.t rfl ?_
  conv => whnf
  refine Br.t rfl ?_
  conv => whnf
  refine Br.t rfl ?_
  conv => whnf
  refine Br.t rfl ?_
  conv => whnf
  refine Br.t rfl ?_
  conv => whnf
  refine Br.t rfl ?_
  conv => whnf
  refine Br.t rfl ?_
  conv => whnf
  refine Br.t rfl ?_
  conv => whnf
  refine Br.t rfl ?_
  conv => whnf
  refine Br.t rfl ?_
  conv => whnf
  refine Br.t rfl ?_
  conv => whnf
  refine cut_ 240 [(1, .bp 0 0), (40, .bool true)] [(0, .box [(sv_str a0_0), (sv_S_impl_PlantFoe a0_1), (sv_S_impl_PlantPlace a0_2), (sv_S_impl_PlantValve a0_3)])] rfl ⟨.inl rfl, ⟨.inl rfl, trivial⟩⟩ ⟨rfl, trivial⟩ ?_
  conv => whnf
  refine Br.t rfl ?_
  conv => whnf
  refine cut_ 248 [(2, .bool false)] [] rfl ⟨.inl rfl, trivial⟩ trivial ?_
  conv => whnf
  injection H with H; subst H
  exact ret_fz [] (rtA_eq rfl)
  conv => whnf
  refine Br.f ff_ ?_
  conv => whnf
  refine Br.f ff_ ?_
  conv => whnf
  revert H; refine bind_elim (fun t9048 A H => ?_)
  refine call_mk (impl_names.ac A) (avAL_cons (avA_shut' rfl) (avAL_nil)) (Or.inl rfl) rfl rfl (Nat.le_of_ble_eq_true rfl) ?_
  conv => whnf
  refine Br.f ff_ ?_
  conv => whnf
  refine Br.f ff_ ?_
  conv => whnf
  refine br_nt H (fun c H => ?_) (fun c H => ?_)
  conv => whnf
  refine Br.f ff_ ?_
  conv => whnf
  revert H; refine bind_elim (fun t9049 A H => ?_)
  refine call_mk (impl_Plant_pairs.ac A) (avAL_cons (avA_agg (avL_cons (av_shut' rfl) (avL_cons (av_shut' rfl) (avL_cons (av_shut' rfl) (avL_cons (av_shut' rfl) (avL_nil)))))) (avAL_nil)) (Or.inl rfl) rfl rfl (Nat.le_of_ble_eq_true rfl) ?_
  conv => whnf
  refine Br.f ff_ ?_
  conv => whnf
  revert H; refine bind_elim (fun t9050 A H => ?_)
  refine call_mk (impl_foesOk.ac A) (avAL_cons (avA_shut' rfl) (avAL_cons (avA_shut' rfl) (avAL_nil))) (Or.inl rfl) rfl rfl (Nat.le_of_ble_eq_true rfl) ?_
  conv => whnf
  refine Br.f ff_ ?_
  conv => whnf
  refine Br.f ff_ ?_
  conv => whnf
  refine br_nt H (fun c H => ?_) (fun c H => ?_)
  conv => whnf
  refine Br.f ff_ ?_
  conv => whnf
  refine Br.f ff_ ?_
  conv => whnf
  refine Br.f ff_ ?_
  conv => whnf
  refine Br.f ff_ ?_
  conv => whnf
  refine br_d H (fun c H => ?_) (fun c H => ?_)
  conv => whnf
  refine Br.t ft_ ?_
  conv => whnf
  refine Br.t ft_ ?_
  conv => whnf
  refine Br.t ft_ ?_
  conv => whnf
  refine Br.t ft_ ?_
  conv => whnf
  refine cut_ 240 [(1, .bp 0 0), (40, .bool true)] [(0, .box [(sv_str a0_0), (sv_S_impl_PlantFoe a0_1), (sv_S_impl_PlantPlace a0_2), (sv_S_impl_PlantValve a0_3)])] rfl ⟨.inl rfl, ⟨.inl rfl, trivial⟩⟩ ⟨rfl, trivial⟩ ?_
  conv => whnf
  refine Br.t rfl ?_
  conv => whnf
  refine cut_ 248 [(2, .bool false)] [] rfl ⟨.inl rfl, trivial⟩ trivial ?_
  conv => whnf
  injection H with H; subst H
  exact ret_fz [] (rtA_eq rfl)
  conv => whnf
  refine Br.f ff_ ?_
  conv => whnf
  refine Br.f ff_ ?_
  conv => whnf
  refine Br.f ff_ ?_
  conv => whnf
  refine Br.f ff_ ?_
  conv => whnf
  refine cut_ 240 [(1, .bp 0 0), (40, .bool (decide ((a0_3.length : Int) > 18)))] [(0, .box [(sv_str a0_0), (sv_S_impl_PlantFoe a0_1), (sv_S_impl_PlantPlace a0_2), (sv_S_impl_PlantValve a0_3)])] rfl ⟨.inl rfl, ⟨.inl rfl, trivial⟩⟩ ⟨rfl, trivial⟩ ?_
  conv => whnf
  refine br_d H (fun c H => ?_) (fun c H => ?_)
  conv => whnf
  refine cut_ 248 [(2, .bool false)] [] rfl ⟨.inl rfl, trivial⟩ trivial ?_
  conv => whnf
  injection H with H; subst H
  exact ret_fz [] (rtA_eq rfl)
  conv => whnf
  refine impl_PlantValid.l0_lp (a0_0 := a0_0) (a0_1 := a0_1) (a0_2 := a0_2) (a0_3 := a0_3) (k := k) H [] (fits_of ⟨.inl ⟨rfl, rfl⟩, trivial⟩ trivial fi_ trivial rfl) ?_
  intro k x44 hk H; rcases k with _ | k; exact none_elim H; rw [impl_PlantValid.l0] at H; conv => whnf
  refine br_d H (fun c H => ?_) (fun c H => ?_)
  conv => whnf
  refine nd_ H (fun c H => ?_)
  conv => whnf
  refine Nd.mk nf_ ?_
  conv => whnf
  refine El.mk (rdm_en_S_impl_PlantFoe _ _ nf_ nf_) ?_
  conv => whnf
  revert H; refine bind_elim (fun t9057 A H => ?_)
  refine call_mk (impl_has.ac A) (avAL_cons (avA_shut' rfl) (avAL_cons (avA_shut' rfl) (avAL_nil))) (Or.inl rfl) rfl rfl (Nat.le_of_ble_eq_true rfl) ?_
  conv => whnf
  refine br_nt H (fun c H => ?_) (fun c H => ?_)
  conv => whnf
  refine Br.f ff_ ?_
  conv => whnf
  refine Br.f ff_ ?_
  conv => whnf
  refine Br.f ff_ ?_
  conv => whnf
  refine Br.f ff_ ?_
  conv => whnf
  revert H; refine bind_elim (fun t9058 A H => ?_)
  refine call_mk (impl_has.ac A) (avAL_cons (avA_shut' rfl) (avAL_cons (avA_shut' rfl) (avAL_nil))) (Or.inl rfl) rfl rfl (Nat.le_of_ble_eq_true rfl) ?_
  conv => whnf
  refine Br.f ff_ ?_
  conv => whnf
  refine Br.f ff_ ?_
  conv => whnf
  refine cut_ 424 [(1, .bp 0 0), (42, (sv_S_impl_PlantFoe a0_1)), (43, .int .i64 (a0_1.length : Int)), (44, .int .i64 x44), (61, .bool (!t9058))] [(0, .box [(sv_str a0_0), (sv_S_impl_PlantFoe a0_1), (sv_S_impl_PlantPlace a0_2), (sv_S_impl_PlantValve a0_3)])] rfl ⟨.inl rfl, ⟨.inl rfl, ⟨.inl rfl, ⟨.inl rfl, ⟨.inl rfl, trivial⟩⟩⟩⟩⟩ ⟨rfl, trivial⟩ ?_
  conv => whnf
  refine br_nt H (fun c H => ?_) (fun c H => ?_)
  conv => whnf
  exact ⟨(k, wrap64 (x44 + 1)), [], ⟨H, lt_⟩, lt_, (fits_of ⟨.inl ⟨rfl, rfl⟩, trivial⟩ trivial fi_ trivial rfl)⟩
  conv => whnf
  refine cut_ 432 [(2, .bool false)] [] rfl ⟨.inl rfl, trivial⟩ trivial ?_
  conv => whnf
  injection H with H; subst H
  exact ret_fz [] (rtA_eq rfl)
  conv => whnf
  refine Br.t ft_ ?_
  conv => whnf
  refine Br.t ft_ ?_
  conv => whnf
  refine Br.t ft_ ?_
  conv => whnf
  refine Br.t ft_ ?_
  conv => whnf
  refine Br.t ft_ ?_
  conv => whnf
  refine Br.t ft_ ?_
  conv => whnf
  refine cut_ 424 [(1, .bp 0 0), (42, (sv_S_impl_PlantFoe a0_1)), (43, .int .i64 (a0_1.length : Int)), (44, .int .i64 x44), (61, .bool true)] [(0, .box [(sv_str a0_0), (sv_S_impl_PlantFoe a0_1), (sv_S_impl_PlantPlace a0_2), (sv_S_impl_PlantValve a0_3)])] rfl ⟨.inl rfl, ⟨.inl rfl, ⟨.inl rfl, ⟨.inl rfl, ⟨.inl rfl, trivial⟩⟩⟩⟩⟩ ⟨rfl, trivial⟩ ?_
  conv => whnf
  refine Br.t rfl ?_
  conv => whnf
  refine cut_ 432 [(2, .bool false)] [] rfl ⟨.inl rfl, trivial⟩ trivial ?_
  conv => whnf
  injection H with H; subst H
  exact ret_fz [] (rtA_eq rfl)
  conv => whnf
  refine impl_PlantValid.l1_lp (a0_0 := a0_0) (a0_1 := a0_1) (a0_2 := a0_2) (a0_3 := a0_3) (k := k) H [] (fits_of ⟨.inl ⟨rfl, rfl⟩, trivial⟩ trivial fi_ trivial rfl) ?_
  intro k x66 hk H; rcases k with _ | k; exact none_elim H; rw [impl_PlantValid.l1] at H; conv => whnf
  refine cut_ 320 [(1, .bp 0 0), (64, (sv_S_impl_PlantPlace a0_2)), (65, .int .i64 (a0_2.length : Int)), (66, .int .i64 x66), (67, .bool (decide (x66 < (a0_2.length : Int))))] [(0, .box [(sv_str a0_0), (sv_S_impl_PlantFoe a0_1), (sv_S_impl_PlantPlace a0_2), (sv_S_impl_PlantValve a0_3)])] rfl ⟨.inl rfl, ⟨.inl rfl, ⟨.inl rfl, ⟨.inl rfl, ⟨.inl rfl, trivial⟩⟩⟩⟩⟩ ⟨rfl, trivial⟩ ?_
  conv => whnf
  refine br_d H (fun c H => ?_) (fun c H => ?_)
  conv => whnf
  refine nd_ H (fun c H => ?_)
  conv => whnf
  refine Nd.mk nf_ ?_
  conv => whnf
  refine El.mk (rdm_en_S_impl_PlantPlace _ _ nf_ nf_) ?_
  conv => whnf
  revert H; refine bind_elim (fun t9065 A H => ?_)
  refine call_mk (impl_isName.ac A) (avAL_cons (avA_shut' rfl) (avAL_nil)) (Or.inl rfl) rfl rfl (Nat.le_of_ble_eq_true rfl) ?_
  conv => whnf
  refine br_nt H (fun c H => ?_) (fun c H => ?_)
  conv => whnf
  refine Br.f ff_ ?_
  conv => whnf
  refine Br.f ff_ ?_
  conv => whnf
  refine Br.f ff_ ?_
  conv => whnf
  refine br_d H (fun c H => ?_) (fun c H => ?_)
  conv => whnf
  refine Br.t ft_ ?_
  conv => whnf
  refine Br.t ft_ ?_
  conv => whnf
  refine Br.t ft_ ?_
  conv => whnf
  refine Br.t rfl ?_
  conv => whnf
  refine Br.t rfl ?_
  conv => whnf
  refine Br.t rfl ?_
  conv => whnf
  refine Br.t rfl ?_
  conv => whnf
  refine Br.t rfl ?_
  conv => whnf
  refine Br.t rfl ?_
  conv => whnf
  refine Br.t rfl ?_
  conv => whnf
  refine Br.t rfl ?_
  conv => whnf
  refine Br.t rfl ?_
  conv => whnf
  refine Br.t rfl ?_
  conv => whnf
  refine cut_ 656 [(1, .bp 0 0), (64, (sv_S_impl_PlantPlace a0_2)), (65, .int .i64 (a0_2.length : Int)), (66, .int .i64 x66), (106, .bool true)] [(0, .box [(sv_str a0_0), (sv_S_impl_PlantFoe a0_1), (sv_S_impl_PlantPlace a0_2), (sv_S_impl_PlantValve a0_3)])] rfl ⟨.inl rfl, ⟨.inl rfl, ⟨.inl rfl, ⟨.inl rfl, ⟨.inl rfl, trivial⟩⟩⟩⟩⟩ ⟨rfl, trivial⟩ ?_
  conv => whnf
  refine Br.t rfl ?_
  conv => whnf
  refine cut_ 664 [(2, .bool false)] [] rfl ⟨.inl rfl, trivial⟩ trivial ?_
  conv => whnf
  injection H with H; subst H
  exact ret_fz [] (rtA_eq rfl)
  conv => whnf
  refine Br.f ff_ ?_
  conv => whnf
  refine Br.f ff_ ?_
  conv => whnf
  refine Br.f ff_ ?_
  conv => whnf
  refine br_d H (fun c H => ?_) (fun c H => ?_)
  conv => whnf
  refine Br.t ft_ ?_
  conv => whnf
  refine Br.t ft_ ?_
  conv => whnf
  refine Br.t ft_ ?_
  conv => whnf
  refine Br.t ft_ ?_
  conv => whnf
  refine Br.t rfl ?_
  conv => whnf
  refine Br.t rfl ?_
  conv => whnf
  refine Br.t rfl ?_
  conv => whnf
  refine Br.t rfl ?_
  conv => whnf
  refine Br.t rfl ?_
  conv => whnf
  refine cut_ 656 [(1, .bp 0 0), (64, (sv_S_impl_PlantPlace a0_2)), (65, .int .i64 (a0_2.length : Int)), (66, .int .i64 x66), (106, .bool true)] [(0, .box [(sv_str a0_0), (sv_S_impl_PlantFoe a0_1), (sv_S_impl_PlantPlace a0_2), (sv_S_impl_PlantValve a0_3)])] rfl ⟨.inl rfl, ⟨.inl rfl, ⟨.inl rfl, ⟨.inl rfl, ⟨.inl rfl, trivial⟩⟩⟩⟩⟩ ⟨rfl, trivial⟩ ?_
  conv => whnf
  refine Br.t rfl ?_
  conv => whnf
  refine cut_ 664 [(2, .bool false)] [] rfl ⟨.inl rfl, trivial⟩ trivial ?_
  conv => whnf
  injection H with H; subst H
  exact ret_fz [] (rtA_eq rfl)
  conv => whnf
  refine Br.f ff_ ?_
  conv => whnf
  refine Br.f ff_ ?_
  conv => whnf
  revert H; refine bind_elim (fun t9066 A H => ?_)
  refine call_mk (impl_isName.ac A) (avAL_cons (avA_shut' rfl) (avAL_nil)) (Or.inl rfl) rfl rfl (Nat.le_of_ble_eq_true rfl) ?_
  conv => whnf
  refine Br.f ff_ ?_
  conv => whnf
  refine Br.f ff_ ?_
  conv => whnf
  refine br_nt H (fun c H => ?_) (fun c H => ?_)
  conv => whnf
  refine Br.f ff_ ?_
  conv => whnf
  refine Br.f ff_ ?_
  conv => whnf
  refine br_d H (fun c H => ?_) (fun c H => ?_)
  conv => whnf
  refine Br.t ft_ ?_
  conv => whnf
  refine Br.t ft_ ?_
  conv => whnf
  refine Br.t ft_ ?_
  conv => whnf
  refine Br.t ft_ ?_
  conv => whnf
  refine nd_ H (fun c H => ?_)
  conv => whnf
  refine nd_ H (fun c H => ?_)
  conv => whnf
  refine El.mk (rdm_en_S_impl_PlantPlace _ _ nf_ nf_) ?_
  conv => whnf
  refine Br.t ft_ ?_
  conv => whnf
  refine Br.t ft_ ?_
  conv => whnf
  refine Br.t ft_ ?_
  conv => whnf
  refine Br.t ft_ ?_
  conv => whnf
  refine Br.t ft_ ?_
  conv => whnf
  refine Br.f ff_ ?_
  conv => whnf
  refine Br.t ft_ ?_
  conv => whnf
  refine Br.f ff_ ?_
  conv => whnf
  refine cut_ 656 [(1, .bp 0 0), (64, (sv_S_impl_PlantPlace a0_2)), (65, .int .i64 (a0_2.length : Int)), (66, .int .i64 x66), (106, .bool (!(Op.bytesLess ((rd_impl_PlantPlace a0_2 (wrap64 (x66 - 1))).f0).toList ((rd_impl_PlantPlace a0_2 x66).f0).toList)))] [(0, .box [(sv_str a0_0), (sv_S_impl_PlantFoe a0_1), (sv_S_impl_PlantPlace a0_2), (sv_S_impl_PlantValve a0_3)])] rfl ⟨.inl rfl, ⟨.inl rfl, ⟨.inl rfl, ⟨.inl rfl, ⟨.inl rfl, trivial⟩⟩⟩⟩⟩ ⟨rfl, trivial⟩ ?_
  conv => whnf
  refine br_nt H (fun c H => ?_) (fun c H => ?_)
  conv => whnf
  exact ⟨(k, wrap64 (x66 + 1)), [], ⟨H, lt_⟩, lt_, (fits_of ⟨.inl ⟨rfl, rfl⟩, trivial⟩ trivial fi_ trivial rfl)⟩
  conv => whnf
  refine cut_ 664 [(2, .bool false)] [] rfl ⟨.inl rfl, trivial⟩ trivial ?_
  conv => whnf
  injection H with H; subst H
  exact ret_fz [] (rtA_eq rfl)
  conv => whnf
  refine Br.f ff_ ?_
  conv => whnf
  refine Br.f ff_ ?_
  conv => whnf
  refine Br.f ff_ ?_
  conv => whnf
  refine Br.f ff_ ?_
  conv => whnf
  refine Br.f ff_ ?_
  conv => whnf
  refine Br.f ff_ ?_
  conv => whnf
  refine Br.f ff_ ?_
  conv => whnf
  refine Br.f ff_ ?_
  conv => whnf
  refine Br.f ff_ ?_
  conv => whnf
  refine Br.f ff_ ?_
  conv => whnf
  refine Br.f ff_ ?_
  conv => whnf
  refine Br.f ff_ ?_
  conv => whnf
  refine cut_ 656 [(1, .bp 0 0), (64, (sv_S_impl_PlantPlace a0_2)), (65, .int .i64 (a0_2.length : Int)), (66, .int .i64 x66), (106, .bool false)] [(0, .box [(sv_str a0_0), (sv_S_impl_PlantFoe a0_1), (sv_S_impl_PlantPlace a0_2), (sv_S_impl_PlantValve a0_3)])] rfl ⟨.inl rfl, ⟨.inl rfl, ⟨.inl rfl, ⟨.inl rfl, ⟨.inl rfl, trivial⟩⟩⟩⟩⟩ ⟨rfl, trivial⟩ ?_
  conv => whnf
  refine Br.f rfl ?_
  conv => whnf
  exact ⟨(k, wrap64 (x66 + 1)), [], ⟨H, lt_⟩, lt_, (fits_of ⟨.inl ⟨rfl, rfl⟩, trivial⟩ trivial fi_ trivial rfl)⟩
  conv => whnf
  refine Br.t ft_ ?_
  conv => whnf
  refine Br.t ft_ ?_
  conv => whnf
  refine Br.t ft_ ?_
  conv => whnf
  refine Br.t ft_ ?_
  conv => whnf
  refine cut_ 656 [(1, .bp 0 0), (64, (sv_S_impl_PlantPlace a0_2)), (65, .int .i64 (a0_2.length : Int)), (66, .int .i64 x66), (106, .bool true)] [(0, .box [(sv_str a0_0), (sv_S_impl_PlantFoe a0_1), (sv_S_impl_PlantPlace a0_2), (sv_S_impl_PlantValve a0_3)])] rfl ⟨.inl rfl, ⟨.inl rfl, ⟨.inl rfl, ⟨.inl rfl, ⟨.inl rfl, trivial⟩⟩⟩⟩⟩ ⟨rfl, trivial⟩ ?_
  conv => whnf
  refine Br.t rfl ?_
  conv => whnf
  refine cut_ 664 [(2, .bool false)] [] rfl ⟨.inl rfl, trivial⟩ trivial ?_
  conv => whnf
  injection H with H; subst H
  exact ret_fz [] (rtA_eq rfl)
  conv => whnf
  refine Br.t ft_ ?_
  conv => whnf
  refine Br.t ft_ ?_
  conv => whnf
  refine Br.t ft_ ?_
  conv => whnf
  refine Br.t rfl ?_
  conv => whnf
  refine Br.t rfl ?_
  conv => whnf
  refine Br.t rfl ?_
  conv => whnf
  refine Br.t rfl ?_
  conv => whnf
  refine Br.t rfl ?_
  conv => whnf
  refine Br.t rfl ?_
  conv => whnf
  refine Br.t rfl ?_
  conv => whnf
  refine Br.t rfl ?_
  conv => whnf
  refine Br.t rfl ?_
  conv => whnf
  refine Br.t rfl ?_
  conv => whnf
  refine Br.t rfl ?_
  conv => whnf
  refine Br.t rfl ?_
  conv => whnf
  refine Br.t rfl ?_
  conv => whnf
  refine Br.t rfl ?_
  conv => whnf
  refine cut_ 656 [(1, .bp 0 0), (64, (sv_S_impl_PlantPlace a0_2)), (65, .int .i64 (a0_2.length : Int)), (66, .int .i64 x66), (106, .bool true)] [(0, .box [(sv_str a0_0), (sv_S_impl_PlantFoe a0_1), (sv_S_impl_PlantPlace a0_2), (sv_S_impl_PlantValve a0_3)])] rfl ⟨.inl rfl, ⟨.inl rfl, ⟨.inl rfl, ⟨.inl rfl, ⟨.inl rfl, trivial⟩⟩⟩⟩⟩ ⟨rfl, trivial⟩ ?_
  conv => whnf
  refine Br.t rfl ?_
  conv => whnf
  refine cut_ 664 [(2, .bool false)] [] rfl ⟨.inl rfl, trivial⟩ trivial ?_
  conv => whnf
  injection H with H; subst H
  exact ret_fz [] (rtA_eq rfl)
  conv => whnf
  refine impl_PlantValid.l2_lp (a0_0 := a0_0) (a0_1 := a0_1) (a0_2 := a0_2) (a0_3 := a0_3) (k := k) H [] (fits_of ⟨.inl ⟨rfl, rfl⟩, trivial⟩ trivial fi_ trivial rfl) ?_
  intro k x111 hk H; rcases k with _ | k; exact none_elim H; rw [impl_PlantValid.l2] at H; conv => whnf
  refine br_d H (fun c H => ?_) (fun c H => ?_)
  conv => whnf
  refine nd_ H (fun c H => ?_)
  conv => whnf
  refine Nd.mk nf_ ?_
  conv => whnf
  refine El.mk (rdm_en_S_impl_PlantValve _ _ nf_ nf_) ?_
  conv => whnf
  refine cut_ 408 [(1, .bp 0 0), (7, .int .i64 x111), (8, .bp 384 0), (109, (sv_S_impl_PlantValve a0_3)), (110, .int .i64 (a0_3.length : Int)), (111, .int .i64 x111)] [(0, .box [(sv_str a0_0), (sv_S_impl_PlantFoe a0_1), (sv_S_impl_PlantPlace a0_2), (sv_S_impl_PlantValve a0_3)]), (384, .box [.str ((rd_impl_PlantValve a0_3 x111).f0), .str ((rd_impl_PlantValve a0_3 x111).f1), .str ((rd_impl_PlantValve a0_3 x111).f2), .str ((rd_impl_PlantValve a0_3 x111).f3)])] rfl ⟨.inl rfl, ⟨.inl rfl, ⟨.inl rfl, ⟨.inl rfl, ⟨.inl rfl, ⟨.inl rfl, trivial⟩⟩⟩⟩⟩⟩ ⟨rfl, ⟨rfl, trivial⟩⟩ ?_
  conv => whnf
  revert H; refine bind_elim (fun t9083 A H => ?_)
  refine call_mk (impl_Plant_place.ac A) (avAL_cons (avA_agg (avL_cons (av_shut' rfl) (avL_cons (av_shut' rfl) (avL_cons (av_shut' rfl) (avL_cons (av_shut' rfl) (avL_nil)))))) (avAL_cons (avA_shut' rfl) (avAL_nil))) (Or.inl rfl) rfl rfl (Nat.le_of_ble_eq_true rfl) ?_
  conv => whnf
  revert H; refine bind_elim (fun t9084 A H => ?_)
  refine call_mk (impl_Plant_place.ac A) (avAL_cons (avA_agg (avL_cons (av_shut' rfl) (avL_cons (av_shut' rfl) (avL_cons (av_shut' rfl) (avL_cons (av_shut' rfl) (avL_nil)))))) (avAL_cons (avA_shut' rfl) (avAL_nil))) (Or.inl rfl) rfl rfl (Nat.le_of_ble_eq_true rfl) ?_
  conv => whnf
  refine cut_ 568 [(1, .bp 0 0), (7, .int .i64 x111), (8, .bp 384 0), (10, .bool t9083.2.2.2), (12, .bool t9084.2.2.2), (109, (sv_S_impl_PlantValve a0_3)), (110, .int .i64 (a0_3.length : Int)), (111, .int .i64 x111)] [(0, .box [(sv_str a0_0), (sv_S_impl_PlantFoe a0_1), (sv_S_impl_PlantPlace a0_2), (sv_S_impl_PlantValve a0_3)]), (384, .box [.str ((rd_impl_PlantValve a0_3 x111).f0), .str ((rd_impl_PlantValve a0_3 x111).f1), .str ((rd_impl_PlantValve a0_3 x111).f2), .str ((rd_impl_PlantValve a0_3 x111).f3)])] rfl ⟨.inl rfl, ⟨.inl rfl, ⟨.inl rfl, ⟨.inl rfl, ⟨.inl rfl, ⟨.inl rfl, ⟨.inl rfl, ⟨.inl rfl, trivial⟩⟩⟩⟩⟩⟩⟩⟩ ⟨rfl, ⟨rfl, trivial⟩⟩ ?_
  conv => whnf
  refine impl_PlantValid.j0_sq (a0_0 := a0_0) (a0_1 := a0_1) (a0_2 := a0_2) (a0_3 := a0_3) (x111 := x111) (KK := k + 1) (r := r) ?_ ?_
  conv => whnf
  revert H; refine bind_elim (fun t9087 A H => ?_)
  refine call_mk (impl_isName.ac A) (avAL_cons (avA_shut' rfl) (avAL_nil)) (Or.inl rfl) rfl rfl (Nat.le_of_ble_eq_true rfl) ?_
  conv => whnf
  refine br_nt H (fun c H => ?_) (fun c H => ?_)
  conv => whnf
  refine Br.f ff_ ?_
  conv => whnf
  refine Br.f ff_ ?_
  conv => whnf
  refine br_nt H (fun c H => ?_) (fun c H => ?_)
  conv => whnf
  refine Br.f ff_ ?_
  conv => whnf
  refine Br.f ff_ ?_
  conv => whnf
  refine br_nt H (fun c H => ?_) (fun c H => ?_)
  conv => whnf
  refine Br.f ff_ ?_
  conv => whnf
  refine Br.f ff_ ?_
  conv => whnf
  refine Br.f ff_ ?_
  conv => whnf
  refine Br.f ff_ ?_
  conv => whnf
  refine Br.f ff_ ?_
  conv => whnf
  refine br_nt H (fun c H => ?_) (fun c H => ?_)
  conv => whnf
  refine Br.f ff_ ?_
  conv => whnf
  refine Br.f ff_ ?_
  conv => whnf
  revert H; refine bind_elim (fun t9088 A H => ?_)
  refine call_mk (impl_isName.ac A) (avAL_cons (avA_shut' rfl) (avAL_nil)) (Or.inl rfl) rfl rfl (Nat.le_of_ble_eq_true rfl) ?_
  conv => whnf
  refine Br.f ff_ ?_
  conv => whnf
  refine Br.f ff_ ?_
  conv => whnf
  refine br_nt H (fun c H => ?_) (fun c H => ?_)
  conv => whnf
  refine Br.f ff_ ?_
  conv => whnf
  refine Br.f ff_ ?_
  conv => whnf
  refine br_d H (fun c H => ?_) (fun c H => ?_)
  conv => whnf
  refine Br.t ft_ ?_
  conv => whnf
  refine Br.t ft_ ?_
  conv => whnf
  refine Br.t ft_ ?_
  conv => whnf
  refine Br.t ft_ ?_
  conv => whnf
  refine nd_ H (fun c H => ?_)
  conv => whnf
  refine nd_ H (fun c H => ?_)
  conv => whnf
  refine El.mk (rdm_en_S_impl_PlantValve _ _ nf_ nf_) ?_
  conv => whnf
  refine Br.t ft_ ?_
  conv => whnf
  refine Br.t ft_ ?_
  conv => whnf
  refine Br.t ft_ ?_
  conv => whnf
  refine Br.t ft_ ?_
  conv => whnf
  refine Br.t ft_ ?_
  conv => whnf
  refine Br.f ff_ ?_
  conv => whnf
  refine Br.t ft_ ?_
  conv => whnf
  refine Br.f ff_ ?_
  conv => whnf
  exact ⟨(k, !(Op.bytesLess ((rd_impl_PlantValve a0_3 (wrap64 (x111 - 1))).f0).toList ((rd_impl_PlantValve a0_3 x111).f0).toList)), [], ⟨H, lt_⟩, (fits_of ⟨.inl ⟨rfl, rfl⟩, trivial⟩ trivial fi_ trivial rfl)⟩
  conv => whnf
  refine Br.f ff_ ?_
  conv => whnf
  refine Br.f ff_ ?_
  conv => whnf
  refine Br.f ff_ ?_
  conv => whnf
  refine Br.f ff_ ?_
  conv => whnf
  refine Br.f ff_ ?_
  conv => whnf
  refine Br.f ff_ ?_
  conv => whnf
  refine Br.f ff_ ?_
  conv => whnf
  refine Br.f ff_ ?_
  conv => whnf
  refine Br.f ff_ ?_
  conv => whnf
  refine Br.f ff_ ?_
  conv => whnf
  refine Br.f ff_ ?_
  conv => whnf
  refine Br.f ff_ ?_
  conv => whnf
  exact ⟨(k, false), [], ⟨H, lt_⟩, (fits_of ⟨.inl ⟨rfl, rfl⟩, trivial⟩ trivial fi_ trivial rfl)⟩
  conv => whnf
  refine Br.t ft_ ?_
  conv => whnf
  refine Br.t ft_ ?_
  conv => whnf
  refine Br.t ft_ ?_
  conv => whnf
  refine Br.t ft_ ?_
  conv => whnf
  exact ⟨(k, true), [], ⟨H, lt_⟩, (fits_of ⟨.inl ⟨rfl, rfl⟩, trivial⟩ trivial fi_ trivial rfl)⟩
  conv => whnf
  refine Br.t ft_ ?_
  conv => whnf
  refine Br.t ft_ ?_
  conv => whnf
  refine Br.t ft_ ?_
  conv => whnf
  refine Br.t ft_ ?_
  conv => whnf
  refine Br.t rfl ?_
  conv => whnf
  refine Br.t rfl ?_
  conv => whnf
  refine Br.t rfl ?_
  conv => whnf
  refine Br.t rfl ?_
  conv => whnf
  refine Br.t rfl ?_
  conv => whnf
  exact ⟨(k, true), [], ⟨H, lt_⟩, (fits_of ⟨.inl ⟨rfl, rfl⟩, trivial⟩ trivial fi_ trivial rfl)⟩
  conv => whnf
  refine Br.t ft_ ?_
  conv => whnf
  refine Br.t ft_ ?_
  conv => whnf
  refine Br.t ft_ ?_
  conv => whnf
  refine Br.t ft_ ?_
  conv => whnf
  refine Br.t ft_ ?_
  conv => whnf
  refine Br.t rfl ?_
  conv => whnf
  refine Br.t rfl ?_
  conv => whnf
  refine Br.t rfl ?_
  conv => whnf
  refine Br.t rfl ?_
  conv => whnf
  refine Br.t rfl ?_
  conv => whnf
  refine Br.t rfl ?_
  conv => whnf
  refine Br.t rfl ?_
  conv => whnf
  refine Br.t rfl ?_
  conv => whnf
  refine Br.t rfl ?_
  conv => whnf
  refine Br.t rfl ?_
  conv => whnf
  exact ⟨(k, true), [], ⟨H, lt_⟩, (fits_of ⟨.inl ⟨rfl, rfl⟩, trivial⟩ trivial fi_ trivial rfl)⟩
  conv => whnf
  refine Br.t ft_ ?_
  conv => whnf
  refine Br.t ft_ ?_
  conv => whnf
  refine Br.t rfl ?_
  conv => whnf
  refine Br.t rfl ?_
  conv => whnf
  refine Br.t rfl ?_
  conv => whnf
  refine Br.t rfl ?_
  conv => whnf
  refine Br.t rfl ?_
  conv => whnf
  refine Br.t rfl ?_
  conv => whnf
  refine Br.t rfl ?_
  conv => whnf
  refine Br.t rfl ?_
  conv => whnf
  refine Br.t rfl ?_
  conv => whnf
  refine Br.t rfl ?_
  conv => whnf
  refine Br.t rfl ?_
  conv => whnf
  refine Br.t rfl ?_
  conv => whnf
  refine Br.t rfl ?_
  conv => whnf
  refine Br.t rfl ?_
  conv => whnf
  refine Br.t rfl ?_
  conv => whnf
  refine Br.t rfl ?_
  conv => whnf
  exact ⟨(k, true), [], ⟨H, lt_⟩, (fits_of ⟨.inl ⟨rfl, rfl⟩, trivial⟩ trivial fi_ trivial rfl)⟩
  conv => whnf
  refine Br.t ft_ ?_
  conv => whnf
  refine Br.t ft_ ?_
  conv => whnf
  refine Br.t rfl ?_
  conv => whnf
  refine Br.t rfl ?_
  conv => whnf
  refine Br.t rfl ?_
  conv => whnf
  refine Br.t rfl ?_
  conv => whnf
  refine Br.t rfl ?_
  conv => whnf
  refine Br.t rfl ?_
  conv => whnf
  refine Br.t rfl ?_
  conv => whnf
  refine Br.t rfl ?_
  conv => whnf
  refine Br.t rfl ?_
  conv => whnf
  refine Br.t rfl ?_
  conv => whnf
  refine Br.t rfl ?_
  conv => whnf
  refine Br.t rfl ?_
  conv => whnf
  refine Br.t rfl ?_
  conv => whnf
  refine Br.t rfl ?_
  conv => whnf
  refine Br.t rfl ?_
  conv => whnf
  refine Br.t rfl ?_
  conv => whnf
  refine Br.t rfl ?_
  conv => whnf
  refine Br.t rfl ?_
  conv => whnf
  refine Br.t rfl ?_
  conv => whnf
  exact ⟨(k, true), [], ⟨H, lt_⟩, (fits_of ⟨.inl ⟨rfl, rfl⟩, trivial⟩ trivial fi_ trivial rfl)⟩
  intro k x170 hk H; rcases k with _ | k; exact none_elim H; rw [impl_PlantValid.j0] at H; conv => whnf
  refine br_t H (fun c H => ?_) (fun c H => ?_)
  conv => whnf
  refine cut_ 576 [(2, .bool false)] [] rfl ⟨.inl rfl, trivial⟩ trivial ?_
  conv => whnf
  injection H with H; subst H
  exact ret_fz [] (rtA_eq rfl)
  conv => whnf
  exact ⟨(k, wrap64 (x111 + 1)), [], ⟨H, lt_⟩, lt_, (fits_of ⟨.inl ⟨rfl, rfl⟩, trivial⟩ trivial fi_ trivial rfl)⟩
  conv => whnf
  injection H with H; subst H
  exact ret_fz [] (rtA_eq rfl)
  conv => whnf
  refine Br.t ft_ ?_
  conv => whnf
  refine Br.t ft_ ?_
  conv => whnf
  refine Br.t ft_ ?_
  conv => whnf
  refine Br.t ft_ ?_
  conv => whnf
  refine Br.t rfl ?_
  conv => whnf
  refine Br.t rfl ?_
  conv => whnf
  refine Br.t rfl ?_
  conv => whnf
  refine Br.t rfl ?_
  conv => whnf
  refine Br.t rfl ?_
  conv => whnf
  refine cut_ 240 [(1, .bp 0 0), (40, .bool true)] [(0, .box [(sv_str a0_0), (sv_S_impl_PlantFoe a0_1), (sv_S_impl_PlantPlace a0_2), (sv_S_impl_PlantValve a0_3)])] rfl ⟨.inl rfl, ⟨.inl rfl, trivial⟩⟩ ⟨rfl, trivial⟩ ?_
  conv => whnf
  refine Br.t rfl ?_
  conv => whnf
  refine cut_ 248 [(2, .bool false)] [] rfl ⟨.inl rfl, trivial⟩ trivial ?_
  conv => whnf
  injection H with H; subst H
  exact ret_fz [] (rtA_eq rfl)
  conv => whnf
  refine Br.t ft_ ?_
  conv => whnf
  refine Br.t ft_ ?_
  conv => whnf
  refine Br.t ft_ ?_
  conv => whnf
  refine Br.t ft_ ?_
  conv => whnf
  refine Br.t rfl ?_
  conv => whnf
  refine Br.t rfl ?_
  conv => whnf
  refine Br.t rfl ?_
  conv => whnf
  refine Br.t rfl ?_
  conv => whnf
  refine Br.t rfl ?_
  conv => whnf
  refine Br.t rfl ?_
  conv => whnf
  refine Br.t rfl ?_
  conv => whnf
  refine Br.t rfl ?_
  conv => whnf
  refine Br.t rfl ?_
  conv => whnf
  refine Br.t rfl ?_
  conv => whnf
  refine cut_ 240 [(1, .bp 0 0), (40, .bool true)] [(0, .box [(sv_str a0_0), (sv_S_impl_PlantFoe a0_1), (sv_S_impl_PlantPlace a0_2), (sv_S_impl_PlantValve a0_3)])] rfl ⟨.inl rfl, ⟨.inl rfl, trivial⟩⟩ ⟨rfl, trivial⟩ ?_
  conv => whnf
  refine Br.t rfl ?_
  conv => whnf
  refine cut_ 248 [(2, .bool false)] [] rfl ⟨.inl rfl, trivial⟩ trivial ?_
  conv => whnf
  injection H with H; subst H
  exact ret_fz [] (rtA_eq rfl)
end Go.Proofs.Ytodeegjblililaa.QU
namespace Go.Proofs
open Go.Shelf Go.Sort Go.RowKit in
shelf_lay Lays.n192 Nm 192 at Try as Try.gx192
end Go.Proofs
namespace Go.Proofs.Ytodeegjblililaa.QU
open Go Go.Aw Go.RowKit Go.Proofs
set_option maxRecDepth 100000
set_option maxHeartbeats 40000000
variable {G : Nat → Option Obj}
attribute [local irreducible] callE Lp Sq Cut RetOk Fits
theorem sort_Strings.ac {l0 : List ByteArray} {r : List ByteArray} (H : sort_Strings.f l0 = some r) : ACalls Try.prog G 165 [.arr 9 1 (l0.map en_str)] [.own 0 l0.length] [.arr 9 1 (r.map en_str)] .und := by
  exact sortS_ac Try.gx192 ⟨_, Try.func165, by kernel_rfl, by kernel_rfl⟩ G 9 rfl H (fun _ => rfl)
theorem impl_with.l0_lp {F : (Exit → St → Prop) → St → Prop} {hv : List Tmp} {Q : Exit → St → Prop} {σ : St} {r : List ByteArray} {k : Nat} {l0 : List ByteArray} {l1 : List ByteArray} {x5 : List ByteArray} {x12 : Int} (H : impl_with.l0 k l0 l1 x5 x12 = some r) (rn : List (Option Nat)) (h1 : Fits σ σ [16] [(5, .own 0 x5.length), (12, .int .i64 x12)] [] [.arr 9 1 (x5.map en_str)] rn)
    (h2 : ∀ (k0 : Nat) (x5 : List ByteArray) (x12 : Int), k0 < k + 1 → impl_with.l0 k0 l0 l1 x5 x12 = some r → headN σ hv [16] [(5, .own 0 x5.length), (12, .int .i64 x12)] [] [.arr 9 1 (x5.map en_str)] (F (fun e σ' => match e with | .normal => ∃ (y : Nat × (List ByteArray) × Int) (rn : List (Option Nat)), (impl_with.l0 y.1 l0 l1 y.2.1 y.2.2 = some r ∧ y.1 < k + 1) ∧ y.1 < k0 ∧ Fits σ σ' [16] [(5, .own 0 y.2.1.length), (12, .int .i64 y.2.2)] [] [.arr 9 1 (y.2.1.map en_str)] rn | e => Q e σ'))) : Lp F hv Q σ := by
  unfold Lp
  refine ⟨Nat × (List ByteArray) × Int, fun x => impl_with.l0 x.1 l0 l1 x.2.1 x.2.2 = some r ∧ x.1 < k + 1, fun x => x.1, [16], fun x => [(5, .own 0 x.2.1.length), (12, .int .i64 x.2.2)], fun x => [], fun x => [.arr 9 1 (x.2.1.map en_str)], ⟨(k, x5, x12), rn, ⟨H, Nat.lt_succ_self _⟩, h1⟩, ?_⟩
  rintro ⟨k, x5, x12⟩ ⟨H, hk⟩
  exact h2 k x5 x12 hk H
theorem impl_with.ac {k : Nat} {l0 : List ByteArray} {l1 : List ByteArray} {r : List ByteArray} (H : impl_with.f k l0 l1 = some r) : ACalls Try.prog G 103 [] [(sv_str l0), (sv_str l1)] [] ((sv_str r)) := by
  refine acalls_of tok hP Try.func103 rfl (by kernel_rfl) [.tmp 4] rfl (by kernel_rfl) (Nat.le_of_ble_eq_true rfl) (.l .n (.l .n (.l (.l .n (.l .n (.l .n (.l (.c .n .n) .n)))) (.c .n .n)))) rfl ?_
  unfold impl_with.f at H
  conv => whnf
  refine nd_ H (fun c H => ?_)
  conv => whnf
  refine impl_with.l0_lp (l0 := l0) (l1 := l1) (k := k) H [some 16] (fits_of ⟨mt_own lm_, ⟨.inl ⟨rfl, rfl⟩, trivial⟩⟩ ⟨fm_, trivial⟩ fi_ trivial rfl) ?_
  intro k x5 x12 hk H; rcases k with _ | k; exact none_elim H; rw [impl_with.l0] at H; conv => whnf
  refine br_d H (fun c H => ?_) (fun c H => ?_)
  conv => whnf
  refine nd_ H (fun c H => ?_)
  conv => whnf
  refine Nd.mk nf_ ?_
  conv => whnf
  refine El.mk (rdm_en_str _ _ nf_ nf_) ?_
  conv => whnf
  refine cut_ 89 [(5, .own 56 x5.length), (7, .str (rdOf ByteArray.empty l1 x12)), (10, (sv_str l1)), (11, .int .i64 (l1.length : Int)), (12, .int .i64 x12)] [(56, .arr 9 1 (x5.map en_str))] rfl ⟨.inl rfl, ⟨.inl rfl, ⟨.inl rfl, ⟨.inl rfl, ⟨.inl rfl, trivial⟩⟩⟩⟩⟩ ⟨rfl, trivial⟩ ?_
  conv => whnf
  revert H; refine bind_elim (fun t9158 A H => ?_)
  refine call_mk (impl_has.ac A) (avAL_cons (avA_own rfl rfl) (avAL_cons (avA_shut' rfl) (avAL_nil))) (Or.inr ⟨rfl, bo_nil⟩) rfl rfl (Nat.le_of_ble_eq_true rfl) ?_
  conv => whnf
  refine br_nt H (fun c H => ?_) (fun c H => ?_)
  conv => whnf
  exact ⟨(k, x5, wrap64 (x12 + 1)), [some 56], ⟨H, lt_⟩, lt_, (fits_of ⟨rfl, ⟨.inl ⟨rfl, rfl⟩, trivial⟩⟩ ⟨rfl, trivial⟩ fi_ trivial rfl)⟩
  conv => whnf
  refine Or.inl ?_
  conv => whnf
  refine nd_ H (fun c H => ?_)
  conv => whnf
  exact ⟨(k, (x5 ++ ([rdOf ByteArray.empty l1 x12] : List ByteArray)), wrap64 (x12 + 1)), [some 145], ⟨H, lt_⟩, lt_, (fits_of ⟨mt_own lm_, ⟨.inl ⟨rfl, rfl⟩, trivial⟩⟩ ⟨fm_, trivial⟩ fi_ trivial rfl)⟩
  conv => whnf
  revert H; refine bind_elim (fun t9160 A H => ?_)
  refine call_mk2 [56] (sort_Strings.ac A) ⟨rfl, trivial⟩ rfl rfl rfl rfl rfl rfl rfl rfl ?_
  have Lt9160 := sortS_len A
  conv => whnf
  refine cut_ 81 [(5, .own 56 x5.length)] [(56, .arr 9 1 (t9160.map en_str))] rfl ⟨.inl rfl, trivial⟩ ⟨rfl, trivial⟩ ?_
  conv => whnf
  injection H with H; subst H
  exact ret_fz [56] (rtA_fzD rfl lm_ lm_ rfl)
theorem impl_with.l0_lpO {F : (Exit → St → Prop) → St → Prop} {hv : List Tmp} {Q : Exit → St → Prop} {σ : St} {r : List ByteArray} {k : Nat} {l0 : List ByteArray} {l1 : List ByteArray} {x5 : List ByteArray} {x12 : Int} (H : impl_with.l0 k l0 l1 x5 x12 = some r) (rn : List (Option Nat)) (h1 : Fits σ σ [16] [(5, .own 0 x5.length), (12, .int .i64 x12)] [] [.arr 9 1 (x5.map en_str)] rn)
    (h2 : ∀ (k0 : Nat) (x5 : List ByteArray) (x12 : Int), k0 < k + 1 → impl_with.l0 k0 l0 l1 x5 x12 = some r → headN σ hv [16] [(5, .own 0 x5.length), (12, .int .i64 x12)] [] [.arr 9 1 (x5.map en_str)] (F (fun e σ' => match e with | .normal => ∃ (y : Nat × (List ByteArray) × Int) (rn : List (Option Nat)), (impl_with.l0 y.1 l0 l1 y.2.1 y.2.2 = some r ∧ y.1 < k + 1) ∧ y.1 < k0 ∧ Fits σ σ' [16] [(5, .own 0 y.2.1.length), (12, .int .i64 y.2.2)] [] [.arr 9 1 (y.2.1.map en_str)] rn | e => Q e σ'))) : Lp F hv Q σ := by
  unfold Lp
  refine ⟨Nat × (List ByteArray) × Int, fun x => impl_with.l0 x.1 l0 l1 x.2.1 x.2.2 = some r ∧ x.1 < k + 1, fun x => x.1, [16], fun x => [(5, .own 0 x.2.1.length), (12, .int .i64 x.2.2)], fun x => [], fun x => [.arr 9 1 (x.2.1.map en_str)], ⟨(k, x5, x12), rn, ⟨H, Nat.lt_succ_self _⟩, h1⟩, ?_⟩
  rintro ⟨k, x5, x12⟩ ⟨H, hk⟩
  exact h2 k x5 x12 hk H
theorem impl_with.acO {k : Nat} {l0 : List ByteArray} {l1 : List ByteArray} {r : List ByteArray} (H : impl_with.f k l0 l1 = some r) : ACalls Try.prog G 103 [] [(sv_str l0), (sv_str l1)] [.arr 9 1 (r.map en_str)] (.own 0 r.length) := by
  refine acalls_of tok hP Try.func103 rfl (by kernel_rfl) [.tmp 4] rfl (by kernel_rfl) (Nat.le_of_ble_eq_true rfl) (.l .n (.l .n (.l (.l .n (.l .n (.l .n (.l (.c .n .n) .n)))) (.c .n .n)))) rfl ?_
  unfold impl_with.f at H
  conv => whnf
  refine nd_ H (fun c H => ?_)
  conv => whnf
  refine impl_with.l0_lpO (l0 := l0) (l1 := l1) (k := k) H [some 16] (fits_of ⟨mt_own lm_, ⟨.inl ⟨rfl, rfl⟩, trivial⟩⟩ ⟨fm_, trivial⟩ fi_ trivial rfl) ?_
  intro k x5 x12 hk H; rcases k with _ | k; exact none_elim H; rw [impl_with.l0] at H; conv => whnf
  refine br_d H (fun c H => ?_) (fun c H => ?_)
  conv => whnf
  refine nd_ H (fun c H => ?_)
  conv => whnf
  refine Nd.mk nf_ ?_
  conv => whnf
  refine El.mk (rdm_en_str _ _ nf_ nf_) ?_
  conv => whnf
  refine cut_ 89 [(5, .own 56 x5.length), (7, .str (rdOf ByteArray.empty l1 x12)), (10, (sv_str l1)), (11, .int .i64 (l1.length : Int)), (12, .int .i64 x12)] [(56, .arr 9 1 (x5.map en_str))] rfl ⟨.inl rfl, ⟨.inl rfl, ⟨.inl rfl, ⟨.inl rfl, ⟨.inl rfl, trivial⟩⟩⟩⟩⟩ ⟨rfl, trivial⟩ ?_
  conv => whnf
  revert H; refine bind_elim (fun t9243 A H => ?_)
  refine call_mk (impl_has.ac A) (avAL_cons (avA_own rfl rfl) (avAL_cons (avA_shut' rfl) (avAL_nil))) (Or.inr ⟨rfl, bo_nil⟩) rfl rfl (Nat.le_of_ble_eq_true rfl) ?_
  conv => whnf
  refine br_nt H (fun c H => ?_) (fun c H => ?_)
  conv => whnf
  exact ⟨(k, x5, wrap64 (x12 + 1)), [some 56], ⟨H, lt_⟩, lt_, (fits_of ⟨rfl, ⟨.inl ⟨rfl, rfl⟩, trivial⟩⟩ ⟨rfl, trivial⟩ fi_ trivial rfl)⟩
  conv => whnf
  refine Or.inl ?_
  conv => whnf
  refine nd_ H (fun c H => ?_)
  conv => whnf
  exact ⟨(k, (x5 ++ ([rdOf ByteArray.empty l1 x12] : List ByteArray)), wrap64 (x12 + 1)), [some 145], ⟨H, lt_⟩, lt_, (fits_of ⟨mt_own lm_, ⟨.inl ⟨rfl, rfl⟩, trivial⟩⟩ ⟨fm_, trivial⟩ fi_ trivial rfl)⟩
  conv => whnf
  revert H; refine bind_elim (fun t9245 A H => ?_)
  refine call_mk2 [56] (sort_Strings.ac A) ⟨rfl, trivial⟩ rfl rfl rfl rfl rfl rfl rfl rfl ?_
  have Lt9245 := sortS_len A
  conv => whnf
  refine cut_ 81 [(5, .own 56 x5.length)] [(56, .arr 9 1 (t9245.map en_str))] rfl ⟨.inl rfl, trivial⟩ ⟨rfl, trivial⟩ ?_
  conv => whnf
  injection H with H; subst H
  exact ret_gen [some 56] [] ((mt_own lm_)) ⟨rfl, trivial⟩ rfl
theorem impl_group.l1_lp {F : (Exit → St → Prop) → St → Prop} {hv : List Tmp} {Q : Exit → St → Prop} {σ : St} {r : List ByteArray} {k : Nat} {a0_3 : List S_impl_PlantValve} {l1 : List ByteArray} {x9_1 : List ByteArray} {x10_1 : Bool} {x27 : Int} (H : impl_group.l1 k a0_3 l1 x9_1 x10_1 x27 = some r) (rn : List (Option Nat)) (h1 : Fits σ σ [136] [(9, .own 0 x9_1.length), (10, .bool x10_1), (27, .int .i64 x27)] [] [.arr 9 1 (x9_1.map en_str)] rn)
    (h2 : ∀ (k0 : Nat) (x9_1 : List ByteArray) (x10_1 : Bool) (x27 : Int), k0 < k + 1 → impl_group.l1 k0 a0_3 l1 x9_1 x10_1 x27 = some r → headN σ hv [136] [(9, .own 0 x9_1.length), (10, .bool x10_1), (27, .int .i64 x27)] [] [.arr 9 1 (x9_1.map en_str)] (F (fun e σ' => match e with | .normal => ∃ (y : Nat × (List ByteArray) × Bool × Int) (rn : List (Option Nat)), (impl_group.l1 y.1 a0_3 l1 y.2.1 y.2.2.1 y.2.2.2 = some r ∧ y.1 < k + 1) ∧ y.1 < k0 ∧ Fits σ σ' [136] [(9, .own 0 y.2.1.length), (10, .bool y.2.2.1), (27, .int .i64 y.2.2.2)] [] [.arr 9 1 (y.2.1.map en_str)] rn | e => Q e σ'))) : Lp F hv Q σ := by
  unfold Lp
  refine ⟨Nat × (List ByteArray) × Bool × Int, fun x => impl_group.l1 x.1 a0_3 l1 x.2.1 x.2.2.1 x.2.2.2 = some r ∧ x.1 < k + 1, fun x => x.1, [136], fun x => [(9, .own 0 x.2.1.length), (10, .bool x.2.2.1), (27, .int .i64 x.2.2.2)], fun x => [], fun x => [.arr 9 1 (x.2.1.map en_str)], ⟨(k, x9_1, x10_1, x27), rn, ⟨H, Nat.lt_succ_self _⟩, h1⟩, ?_⟩
  rintro ⟨k, x9_1, x10_1, x27⟩ ⟨H, hk⟩
  exact h2 k x9_1 x10_1 x27 hk H
theorem impl_group.l0_lp {F : (Exit → St → Prop) → St → Prop} {hv : List Tmp} {Q : Exit → St → Prop} {σ : St} {r : List ByteArray} {k : Nat} {a0_3 : List S_impl_PlantValve} {l1 : List ByteArray} {x9 : List ByteArray} {x10 : Bool} (H : impl_group.l0 k a0_3 l1 x9 x10 = some r) (rn : List (Option Nat)) (h1 : Fits σ σ [112] [(9, .own 0 x9.length), (10, .bool x10)] [] [.arr 9 1 (x9.map en_str)] rn)
    (h2 : ∀ (k0 : Nat) (x9 : List ByteArray) (x10 : Bool), k0 < k + 1 → impl_group.l0 k0 a0_3 l1 x9 x10 = some r → headN σ hv [112] [(9, .own 0 x9.length), (10, .bool x10)] [] [.arr 9 1 (x9.map en_str)] (F (fun e σ' => match e with | .normal => ∃ (y : Nat × (List ByteArray) × Bool) (rn : List (Option Nat)), (impl_group.l0 y.1 a0_3 l1 y.2.1 y.2.2 = some r ∧ y.1 < k + 1) ∧ y.1 < k0 ∧ Fits σ σ' [112] [(9, .own 0 y.2.1.length), (10, .bool y.2.2)] [] [.arr 9 1 (y.2.1.map en_str)] rn | e => Q e σ'))) : Lp F hv Q σ := by
  unfold Lp
  refine ⟨Nat × (List ByteArray) × Bool, fun x => impl_group.l0 x.1 a0_3 l1 x.2.1 x.2.2 = some r ∧ x.1 < k + 1, fun x => x.1, [112], fun x => [(9, .own 0 x.2.1.length), (10, .bool x.2.2)], fun x => [], fun x => [.arr 9 1 (x.2.1.map en_str)], ⟨(k, x9, x10), rn, ⟨H, Nat.lt_succ_self _⟩, h1⟩, ?_⟩
  rintro ⟨k, x9, x10⟩ ⟨H, hk⟩
  exact h2 k x9 x10 hk H
theorem impl_group.ac {k : Nat} {a0_0 : List ByteArray} {a0_1 : List S_impl_PlantFoe} {a0_2 : List S_impl_PlantPlace} {a0_3 : List S_impl_PlantValve} {l1 : List ByteArray} {a2 : ByteArray} {r : List ByteArray} (H : impl_group.f k a0_0 a0_1 a0_2 a0_3 l1 a2 = some r) : ACalls Try.prog G 90 [] [.agg [(sv_str a0_0), (sv_S_impl_PlantFoe a0_1), (sv_S_impl_PlantPlace a0_2), (sv_S_impl_PlantValve a0_3)], (sv_str l1), .str a2] [] ((sv_str r)) := by
  refine acalls_of tok hP Try.func90 rfl (by kernel_rfl) [.tmp 6] rfl (by kernel_rfl) (Nat.le_of_ble_eq_true rfl) (.l .n (.l (.c .n .n) (.l .n (.l (.l .n (.l .n (.l .n (.c .n (.l .n (.l .n (.l (.l .n (.c .n (.l (.c .n .n) .n))) .n))))))) .n)))) rfl ?_
  unfold impl_group.f at H
  conv => whnf
  revert H; refine bind_elim (fun t9248 A H => ?_)
  refine call_mk (impl_Plant_place.ac A) (avAL_cons (avA_agg (avL_cons (av_shut' rfl) (avL_cons (av_shut' rfl) (avL_cons (av_shut' rfl) (avL_cons (av_shut' rfl) (avL_nil)))))) (avAL_cons (avA_shut' rfl) (avAL_nil))) (Or.inl rfl) rfl rfl (Nat.le_of_ble_eq_true rfl) ?_
  conv => whnf
  refine cut_ 88 [(1, (sv_str l1)), (2, .str a2), (3, .bp 0 0), (8, .bool t9248.2.2.2)] [(0, .box [(sv_str a0_0), (sv_S_impl_PlantFoe a0_1), (sv_S_impl_PlantPlace a0_2), (sv_S_impl_PlantValve a0_3)])] rfl ⟨.inl rfl, ⟨.inl rfl, ⟨.inl rfl, ⟨.inl rfl, trivial⟩⟩⟩⟩ ⟨rfl, trivial⟩ ?_
  conv => whnf
  refine br_nt H (fun c H => ?_) (fun c H => ?_)
  conv => whnf
  refine Or.inl ?_
  conv => whnf
  refine impl_group.l0_lp (a0_3 := a0_3) (l1 := l1) (k := k) H [some 112] (fits_of ⟨mt_own lm_, ⟨.inl ⟨rfl, rfl⟩, trivial⟩⟩ ⟨fm_, trivial⟩ fi_ trivial rfl) ?_
  intro k x9 x10 hk H; rcases k with _ | k; exact none_elim H; rw [impl_group.l0] at H; conv => whnf
  refine br_t H (fun c H => ?_) (fun c H => ?_)
  conv => whnf
  refine cut_ 185 [(1, (sv_str l1)), (3, .bp 0 0), (9, .own 136 x9.length), (10, .bool false), (25, (sv_S_impl_PlantValve a0_3)), (26, .int .i64 (a0_3.length : Int)), (27, .int .i64 0)] [(0, .box [(sv_str a0_0), (sv_S_impl_PlantFoe a0_1), (sv_S_impl_PlantPlace a0_2), (sv_S_impl_PlantValve a0_3)]), (136, .arr 9 1 (x9.map en_str))] rfl ⟨.inl rfl, ⟨.inl rfl, ⟨.inl rfl, ⟨.inl rfl, ⟨.inl rfl, ⟨.inl rfl, ⟨.inl rfl, trivial⟩⟩⟩⟩⟩⟩⟩ ⟨rfl, ⟨rfl, trivial⟩⟩ ?_
  conv => whnf
  refine impl_group.l1_lp (a0_3 := a0_3) (l1 := l1) (k := k) H [some 136] (fits_of ⟨rfl, ⟨.inl ⟨rfl, rfl⟩, ⟨.inl ⟨rfl, rfl⟩, trivial⟩⟩⟩ ⟨rfl, trivial⟩ fi_ trivial rfl) ?_
  intro k x9_1 x10_1 x27 hk H; rcases k with _ | k; exact none_elim H; rw [impl_group.l1] at H; conv => whnf
  refine br_d H (fun c H => ?_) (fun c H => ?_)
  conv => whnf
  refine nd_ H (fun c H => ?_)
  conv => whnf
  refine Nd.mk nf_ ?_
  conv => whnf
  refine El.mk (rdm_en_S_impl_PlantValve _ _ nf_ nf_) ?_
  conv => whnf
  revert H; refine bind_elim (fun t9274 A H => ?_)
  refine call_mk (impl_has.ac A) (avAL_cons (avA_shut' rfl) (avAL_cons (avA_shut' rfl) (avAL_nil))) (Or.inl rfl) rfl rfl (Nat.le_of_ble_eq_true rfl) ?_
  conv => whnf
  refine br_t H (fun c H => ?_) (fun c H => ?_)
  conv => whnf
  refine Br.t ft_ ?_
  conv => whnf
  refine Br.t ft_ ?_
  conv => whnf
  refine Br.t ft_ ?_
  conv => whnf
  revert H; refine bind_elim (fun t9275 A H => ?_)
  refine call_mk (impl_has.ac A) (avAL_cons (avA_own rfl rfl) (avAL_cons (avA_shut' rfl) (avAL_nil))) (Or.inr ⟨rfl, bo_nil⟩) rfl rfl (Nat.le_of_ble_eq_true rfl) ?_
  conv => whnf
  refine Br.t ft_ ?_
  conv => whnf
  refine Br.t ft_ ?_
  conv => whnf
  refine Br.t ft_ ?_
  conv => whnf
  refine Br.t ft_ ?_
  conv => whnf
  revert H; refine bind_elim (fun t9276 A H => ?_)
  refine call_mk (impl_has.ac A) (avAL_cons (avA_own rfl rfl) (avAL_cons (avA_shut' rfl) (avAL_nil))) (Or.inr ⟨rfl, bo_nil⟩) rfl rfl (Nat.le_of_ble_eq_true rfl) ?_
  conv => whnf
  refine Br.t ft_ ?_
  conv => whnf
  refine Br.t ft_ ?_
  conv => whnf
  refine cut_ 346 [(1, (sv_str l1)), (3, .bp 0 0), (9, .own 185 x9_1.length), (10, .bool x10_1), (12, .bp 210 0), (25, (sv_S_impl_PlantValve a0_3)), (26, .int .i64 (a0_3.length : Int)), (27, .int .i64 x27), (45, .bool (t9275 != t9276))] [(0, .box [(sv_str a0_0), (sv_S_impl_PlantFoe a0_1), (sv_S_impl_PlantPlace a0_2), (sv_S_impl_PlantValve a0_3)]), (185, .arr 9 1 (x9_1.map en_str)), (210, .box [.str ((rd_impl_PlantValve a0_3 x27).f0), .str ((rd_impl_PlantValve a0_3 x27).f1), .str ((rd_impl_PlantValve a0_3 x27).f2), .str ((rd_impl_PlantValve a0_3 x27).f3)])] rfl ⟨.inl rfl, ⟨.inl rfl, ⟨.inl rfl, ⟨.inl rfl, ⟨.inl rfl, ⟨.inl rfl, ⟨.inl rfl, ⟨.inl rfl, ⟨.inl rfl, trivial⟩⟩⟩⟩⟩⟩⟩⟩⟩ ⟨rfl, ⟨rfl, ⟨rfl, trivial⟩⟩⟩ ?_
  conv => whnf
  refine br_t H (fun c H => ?_) (fun c H => ?_)
  conv => whnf
  refine Or.inl ?_
  conv => whnf
  revert H; refine bind_elim (fun t9277 A H => ?_)
  refine call_mk (impl_with.acO A) (avAL_cons (avA_own rfl rfl) (avAL_cons (avA_ownX rfl rfl lm_ lm_) (avAL_nil))) (Or.inr ⟨rfl, bo_cons (bo_arr bare_en_str) (bo_nil)⟩) rfl rfl (Nat.le_of_ble_eq_true rfl) ?_
  conv => whnf
  refine cut_ 410 [(1, (sv_str l1)), (3, .bp 0 0), (9, .own 394 t9277.length), (25, (sv_S_impl_PlantValve a0_3)), (26, .int .i64 (a0_3.length : Int)), (27, .int .i64 x27)] [(0, .box [(sv_str a0_0), (sv_S_impl_PlantFoe a0_1), (sv_S_impl_PlantPlace a0_2), (sv_S_impl_PlantValve a0_3)]), (394, .arr 9 1 (t9277.map en_str))] rfl ⟨.inl rfl, ⟨.inl rfl, ⟨.inl rfl, ⟨.inl rfl, ⟨.inl rfl, ⟨.inl rfl, trivial⟩⟩⟩⟩⟩⟩ ⟨rfl, ⟨rfl, trivial⟩⟩ ?_
  conv => whnf
  exact ⟨(k, t9277, true, wrap64 (x27 + 1)), [some 394], ⟨H, lt_⟩, lt_, (fits_of ⟨rfl, ⟨.inl ⟨rfl, rfl⟩, ⟨.inl ⟨rfl, rfl⟩, trivial⟩⟩⟩ ⟨rfl, trivial⟩ fi_ trivial rfl)⟩
  conv => whnf
  exact ⟨(k, x9_1, _, wrap64 (x27 + 1)), [some 185], ⟨H, lt_⟩, lt_, (fits_of ⟨rfl, ⟨.inl ⟨rfl, rfl⟩, ⟨.inl ⟨rfl, rfl⟩, trivial⟩⟩⟩ ⟨rfl, trivial⟩ fi_ trivial rfl)⟩
  conv => whnf
  refine Br.f ff_ ?_
  conv => whnf
  refine Br.f ff_ ?_
  conv => whnf
  refine Br.f ff_ ?_
  conv => whnf
  refine Br.f ff_ ?_
  conv => whnf
  refine Br.f ff_ ?_
  conv => whnf
  refine Br.f ff_ ?_
  conv => whnf
  refine Br.f ff_ ?_
  conv => whnf
  refine Br.f ff_ ?_
  conv => whnf
  refine Br.f ff_ ?_
  conv => whnf
  refine cut_ 346 [(1, (sv_str l1)), (3, .bp 0 0), (9, .own 185 x9_1.length), (10, .bool x10_1), (12, .bp 210 0), (25, (sv_S_impl_PlantValve a0_3)), (26, .int .i64 (a0_3.length : Int)), (27, .int .i64 x27), (45, .bool false)] [(0, .box [(sv_str a0_0), (sv_S_impl_PlantFoe a0_1), (sv_S_impl_PlantPlace a0_2), (sv_S_impl_PlantValve a0_3)]), (185, .arr 9 1 (x9_1.map en_str)), (210, .box [.str ((rd_impl_PlantValve a0_3 x27).f0), .str ((rd_impl_PlantValve a0_3 x27).f1), .str ((rd_impl_PlantValve a0_3 x27).f2), .str ((rd_impl_PlantValve a0_3 x27).f3)])] rfl ⟨.inl rfl, ⟨.inl rfl, ⟨.inl rfl, ⟨.inl rfl, ⟨.inl rfl, ⟨.inl rfl, ⟨.inl rfl, ⟨.inl rfl, ⟨.inl rfl, trivial⟩⟩⟩⟩⟩⟩⟩⟩⟩ ⟨rfl, ⟨rfl, ⟨rfl, trivial⟩⟩⟩ ?_
  conv => whnf
  refine Br.f rfl ?_
  conv => whnf
  exact ⟨(k, x9_1, _, wrap64 (x27 + 1)), [some 185], ⟨H, lt_⟩, lt_, (fits_of ⟨rfl, ⟨.inl ⟨rfl, rfl⟩, ⟨.inl ⟨rfl, rfl⟩, trivial⟩⟩⟩ ⟨rfl, trivial⟩ fi_ trivial rfl)⟩
  conv => whnf
  exact ⟨(k, x9_1, x10_1), [some 185], ⟨H, lt_⟩, lt_, (fits_of ⟨rfl, ⟨.inl ⟨rfl, rfl⟩, trivial⟩⟩ ⟨rfl, trivial⟩ fi_ trivial rfl)⟩
  conv => whnf
  injection H with H; subst H
  exact ret_fz [136] (rtA_fz' rfl rfl)
  conv => whnf
  injection H with H; subst H
  exact ret_fz [] (rtA_nil)
theorem impl_group.l1_lpO {F : (Exit → St → Prop) → St → Prop} {hv : List Tmp} {Q : Exit → St → Prop} {σ : St} {r : List ByteArray} {k : Nat} {a0_3 : List S_impl_PlantValve} {l1 : List ByteArray} {x9_1 : List ByteArray} {x10_1 : Bool} {x27 : Int} (H : impl_group.l1 k a0_3 l1 x9_1 x10_1 x27 = some r) (rn : List (Option Nat)) (h1 : Fits σ σ [136] [(9, .own 0 x9_1.length), (10, .bool x10_1), (27, .int .i64 x27)] [] [.arr 9 1 (x9_1.map en_str)] rn)
    (h2 : ∀ (k0 : Nat) (x9_1 : List ByteArray) (x10_1 : Bool) (x27 : Int), k0 < k + 1 → impl_group.l1 k0 a0_3 l1 x9_1 x10_1 x27 = some r → headN σ hv [136] [(9, .own 0 x9_1.length), (10, .bool x10_1), (27, .int .i64 x27)] [] [.arr 9 1 (x9_1.map en_str)] (F (fun e σ' => match e with | .normal => ∃ (y : Nat × (List ByteArray) × Bool × Int) (rn : List (Option Nat)), (impl_group.l1 y.1 a0_3 l1 y.2.1 y.2.2.1 y.2.2.2 = some r ∧ y.1 < k + 1) ∧ y.1 < k0 ∧ Fits σ σ' [136] [(9, .own 0 y.2.1.length), (10, .bool y.2.2.1), (27, .int .i64 y.2.2.2)] [] [.arr 9 1 (y.2.1.map en_str)] rn | e => Q e σ'))) : Lp F hv Q σ := by
  unfold Lp
  refine ⟨Nat × (List ByteArray) × Bool × Int, fun x => impl_group.l1 x.1 a0_3 l1 x.2.1 x.2.2.1 x.2.2.2 = some r ∧ x.1 < k + 1, fun x => x.1, [136], fun x => [(9, .own 0 x.2.1.length), (10, .bool x.2.2.1), (27, .int .i64 x.2.2.2)], fun x => [], fun x => [.arr 9 1 (x.2.1.map en_str)], ⟨(k, x9_1, x10_1, x27), rn, ⟨H, Nat.lt_succ_self _⟩, h1⟩, ?_⟩
  rintro ⟨k, x9_1, x10_1, x27⟩ ⟨H, hk⟩
  exact h2 k x9_1 x10_1 x27 hk H
theorem impl_group.l0_lpO {F : (Exit → St → Prop) → St → Prop} {hv : List Tmp} {Q : Exit → St → Prop} {σ : St} {r : List ByteArray} {k : Nat} {a0_3 : List S_impl_PlantValve} {l1 : List ByteArray} {x9 : List ByteArray} {x10 : Bool} (H : impl_group.l0 k a0_3 l1 x9 x10 = some r) (rn : List (Option Nat)) (h1 : Fits σ σ [112] [(9, .own 0 x9.length), (10, .bool x10)] [] [.arr 9 1 (x9.map en_str)] rn)
    (h2 : ∀ (k0 : Nat) (x9 : List ByteArray) (x10 : Bool), k0 < k + 1 → impl_group.l0 k0 a0_3 l1 x9 x10 = some r → headN σ hv [112] [(9, .own 0 x9.length), (10, .bool x10)] [] [.arr 9 1 (x9.map en_str)] (F (fun e σ' => match e with | .normal => ∃ (y : Nat × (List ByteArray) × Bool) (rn : List (Option Nat)), (impl_group.l0 y.1 a0_3 l1 y.2.1 y.2.2 = some r ∧ y.1 < k + 1) ∧ y.1 < k0 ∧ Fits σ σ' [112] [(9, .own 0 y.2.1.length), (10, .bool y.2.2)] [] [.arr 9 1 (y.2.1.map en_str)] rn | e => Q e σ'))) : Lp F hv Q σ := by
  unfold Lp
  refine ⟨Nat × (List ByteArray) × Bool, fun x => impl_group.l0 x.1 a0_3 l1 x.2.1 x.2.2 = some r ∧ x.1 < k + 1, fun x => x.1, [112], fun x => [(9, .own 0 x.2.1.length), (10, .bool x.2.2)], fun x => [], fun x => [.arr 9 1 (x.2.1.map en_str)], ⟨(k, x9, x10), rn, ⟨H, Nat.lt_succ_self _⟩, h1⟩, ?_⟩
  rintro ⟨k, x9, x10⟩ ⟨H, hk⟩
  exact h2 k x9 x10 hk H
theorem impl_group.acO {k : Nat} {a0_0 : List ByteArray} {a0_1 : List S_impl_PlantFoe} {a0_2 : List S_impl_PlantPlace} {a0_3 : List S_impl_PlantValve} {l1 : List ByteArray} {a2 : ByteArray} {r : List ByteArray} (H : impl_group.f k a0_0 a0_1 a0_2 a0_3 l1 a2 = some r) : ACalls Try.prog G 90 [] [.agg [(sv_str a0_0), (sv_S_impl_PlantFoe a0_1), (sv_S_impl_PlantPlace a0_2), (sv_S_impl_PlantValve a0_3)], (sv_str l1), .str a2] [.arr 9 1 (r.map en_str)] (.own 0 r.length) := by
  refine acalls_of tok hP Try.func90 rfl (by kernel_rfl) [.tmp 6] rfl (by kernel_rfl) (Nat.le_of_ble_eq_true rfl) (.l .n (.l (.c .n .n) (.l .n (.l (.l .n (.l .n (.l .n (.c .n (.l .n (.l .n (.l (.l .n (.c .n (.l (.c .n .n) .n))) .n))))))) .n)))) rfl ?_
  unfold impl_group.f at H
  conv => whnf
  revert H; refine bind_elim (fun t9381 A H => ?_)
  refine call_mk (impl_Plant_place.ac A) (avAL_cons (avA_agg (avL_cons (av_shut' rfl) (avL_cons (av_shut' rfl) (avL_cons (av_shut' rfl) (avL_cons (av_shut' rfl) (avL_nil)))))) (avAL_cons (avA_shut' rfl) (avAL_nil))) (Or.inl rfl) rfl rfl (Nat.le_of_ble_eq_true rfl) ?_
  conv => whnf
  refine cut_ 88 [(1, (sv_str l1)), (2, .str a2), (3, .bp 0 0), (8, .bool t9381.2.2.2)] [(0, .box [(sv_str a0_0), (sv_S_impl_PlantFoe a0_1), (sv_S_impl_PlantPlace a0_2), (sv_S_impl_PlantValve a0_3)])] rfl ⟨.inl rfl, ⟨.inl rfl, ⟨.inl rfl, ⟨.inl rfl, trivial⟩⟩⟩⟩ ⟨rfl, trivial⟩ ?_
  conv => whnf
  refine br_nt H (fun c H => ?_) (fun c H => ?_)
  conv => whnf
  refine Or.inl ?_
  conv => whnf
  refine impl_group.l0_lpO (a0_3 := a0_3) (l1 := l1) (k := k) H [some 112] (fits_of ⟨mt_own lm_, ⟨.inl ⟨rfl, rfl⟩, trivial⟩⟩ ⟨fm_, trivial⟩ fi_ trivial rfl) ?_
  intro k x9 x10 hk H; rcases k with _ | k; exact none_elim H; rw [impl_group.l0] at H; conv => whnf
  refine br_t H (fun c H => ?_) (fun c H => ?_)
  conv => whnf
  refine cut_ 185 [(1, (sv_str l1)), (3, .bp 0 0), (9, .own 136 x9.length), (10, .bool false), (25, (sv_S_impl_PlantValve a0_3)), (26, .int .i64 (a0_3.length : Int)), (27, .int .i64 0)] [(0, .box [(sv_str a0_0), (sv_S_impl_PlantFoe a0_1), (sv_S_impl_PlantPlace a0_2), (sv_S_impl_PlantValve a0_3)]), (136, .arr 9 1 (x9.map en_str))] rfl ⟨.inl rfl, ⟨.inl rfl, ⟨.inl rfl, ⟨.inl rfl, ⟨.inl rfl, ⟨.inl rfl, ⟨.inl rfl, trivial⟩⟩⟩⟩⟩⟩⟩ ⟨rfl, ⟨rfl, trivial⟩⟩ ?_
  conv => whnf
  refine impl_group.l1_lpO (a0_3 := a0_3) (l1 := l1) (k := k) H [some 136] (fits_of ⟨rfl, ⟨.inl ⟨rfl, rfl⟩, ⟨.inl ⟨rfl, rfl⟩, trivial⟩⟩⟩ ⟨rfl, trivial⟩ fi_ trivial rfl) ?_
  intro k x9_1 x10_1 x27 hk H; rcases k with _ | k; exact none_elim H; rw [impl_group.l1] at H; conv => whnf
  refine br_d H (fun c H => ?_) (fun c H => ?_)
  conv => whnf
  refine nd_ H (fun c H => ?_)
  conv => whnf
  refine Nd.mk nf_ ?_
  conv => whnf
  refine El.mk (rdm_en_S_impl_PlantValve _ _ nf_ nf_) ?_
  conv => whnf
  revert H; refine bind_elim (fun t9407 A H => ?_)
  refine call_mk (impl_has.ac A) (avAL_cons (avA_shut' rfl) (avAL_cons (avA_shut' rfl) (avAL_nil))) (Or.inl rfl) rfl rfl (Nat.le_of_ble_eq_true rfl) ?_
  conv => whnf
  refine br_t H (fun c H => ?_) (fun c H => ?_)
  conv => whnf
  refine Br.t ft_ ?_
  conv => whnf
  refine Br.t ft_ ?_
  conv => whnf
  refine Br.t ft_ ?_
  conv => whnf
  revert H; refine bind_elim (fun t9408 A H => ?_)
  refine call_mk (impl_has.ac A) (avAL_cons (avA_own rfl rfl) (avAL_cons (avA_shut' rfl) (avAL_nil))) (Or.inr ⟨rfl, bo_nil⟩) rfl rfl (Nat.le_of_ble_eq_true rfl) ?_
  conv => whnf
  refine Br.t ft_ ?_
  conv => whnf
  refine Br.t ft_ ?_
  conv => whnf
  refine Br.t ft_ ?_
  conv => whnf
  refine Br.t ft_ ?_
  conv => whnf
  revert H; refine bind_elim (fun t9409 A H => ?_)
  refine call_mk (impl_has.ac A) (avAL_cons (avA_own rfl rfl) (avAL_cons (avA_shut' rfl) (avAL_nil))) (Or.inr ⟨rfl, bo_nil⟩) rfl rfl (Nat.le_of_ble_eq_true rfl) ?_
  conv => whnf
  refine Br.t ft_ ?_
  conv => whnf
  refine Br.t ft_ ?_
  conv => whnf
  refine cut_ 346 [(1, (sv_str l1)), (3, .bp 0 0), (9, .own 185 x9_1.length), (10, .bool x10_1), (12, .bp 210 0), (25, (sv_S_impl_PlantValve a0_3)), (26, .int .i64 (a0_3.length : Int)), (27, .int .i64 x27), (45, .bool (t9408 != t9409))] [(0, .box [(sv_str a0_0), (sv_S_impl_PlantFoe a0_1), (sv_S_impl_PlantPlace a0_2), (sv_S_impl_PlantValve a0_3)]), (185, .arr 9 1 (x9_1.map en_str)), (210, .box [.str ((rd_impl_PlantValve a0_3 x27).f0), .str ((rd_impl_PlantValve a0_3 x27).f1), .str ((rd_impl_PlantValve a0_3 x27).f2), .str ((rd_impl_PlantValve a0_3 x27).f3)])] rfl ⟨.inl rfl, ⟨.inl rfl, ⟨.inl rfl, ⟨.inl rfl, ⟨.inl rfl, ⟨.inl rfl, ⟨.inl rfl, ⟨.inl rfl, ⟨.inl rfl, trivial⟩⟩⟩⟩⟩⟩⟩⟩⟩ ⟨rfl, ⟨rfl, ⟨rfl, trivial⟩⟩⟩ ?_
  conv => whnf
  refine br_t H (fun c H => ?_) (fun c H => ?_)
  conv => whnf
  refine Or.inl ?_
  conv => whnf
  revert H; refine bind_elim (fun t9410 A H => ?_)
  refine call_mk (impl_with.acO A) (avAL_cons (avA_own rfl rfl) (avAL_cons (avA_ownX rfl rfl lm_ lm_) (avAL_nil))) (Or.inr ⟨rfl, bo_cons (bo_arr bare_en_str) (bo_nil)⟩) rfl rfl (Nat.le_of_ble_eq_true rfl) ?_
  conv => whnf
  refine cut_ 410 [(1, (sv_str l1)), (3, .bp 0 0), (9, .own 394 t9410.length), (25, (sv_S_impl_PlantValve a0_3)), (26, .int .i64 (a0_3.length : Int)), (27, .int .i64 x27)] [(0, .box [(sv_str a0_0), (sv_S_impl_PlantFoe a0_1), (sv_S_impl_PlantPlace a0_2), (sv_S_impl_PlantValve a0_3)]), (394, .arr 9 1 (t9410.map en_str))] rfl ⟨.inl rfl, ⟨.inl rfl, ⟨.inl rfl, ⟨.inl rfl, ⟨.inl rfl, ⟨.inl rfl, trivial⟩⟩⟩⟩⟩⟩ ⟨rfl, ⟨rfl, trivial⟩⟩ ?_
  conv => whnf
  exact ⟨(k, t9410, true, wrap64 (x27 + 1)), [some 394], ⟨H, lt_⟩, lt_, (fits_of ⟨rfl, ⟨.inl ⟨rfl, rfl⟩, ⟨.inl ⟨rfl, rfl⟩, trivial⟩⟩⟩ ⟨rfl, trivial⟩ fi_ trivial rfl)⟩
  conv => whnf
  exact ⟨(k, x9_1, _, wrap64 (x27 + 1)), [some 185], ⟨H, lt_⟩, lt_, (fits_of ⟨rfl, ⟨.inl ⟨rfl, rfl⟩, ⟨.inl ⟨rfl, rfl⟩, trivial⟩⟩⟩ ⟨rfl, trivial⟩ fi_ trivial rfl)⟩
  conv => whnf
  refine Br.f ff_ ?_
  conv => whnf
  refine Br.f ff_ ?_
  conv => whnf
  refine Br.f ff_ ?_
  conv => whnf
  refine Br.f ff_ ?_
  conv => whnf
  refine Br.f ff_ ?_
  conv => whnf
  refine Br.f ff_ ?_
  conv => whnf
  refine Br.f ff_ ?_
  conv => whnf
  refine Br.f ff_ ?_
  conv => whnf
  refine Br.f ff_ ?_
  conv => whnf
  refine cut_ 346 [(1, (sv_str l1)), (3, .bp 0 0), (9, .own 185 x9_1.length), (10, .bool x10_1), (12, .bp 210 0), (25, (sv_S_impl_PlantValve a0_3)), (26, .int .i64 (a0_3.length : Int)), (27, .int .i64 x27), (45, .bool false)] [(0, .box [(sv_str a0_0), (sv_S_impl_PlantFoe a0_1), (sv_S_impl_PlantPlace a0_2), (sv_S_impl_PlantValve a0_3)]), (185, .arr 9 1 (x9_1.map en_str)), (210, .box [.str ((rd_impl_PlantValve a0_3 x27).f0), .str ((rd_impl_PlantValve a0_3 x27).f1), .str ((rd_impl_PlantValve a0_3 x27).f2), .str ((rd_impl_PlantValve a0_3 x27).f3)])] rfl ⟨.inl rfl, ⟨.inl rfl, ⟨.inl rfl, ⟨.inl rfl, ⟨.inl rfl, ⟨.inl rfl, ⟨.inl rfl, ⟨.inl rfl, ⟨.inl rfl, trivial⟩⟩⟩⟩⟩⟩⟩⟩⟩ ⟨rfl, ⟨rfl, ⟨rfl, trivial⟩⟩⟩ ?_
  conv => whnf
  refine Br.f rfl ?_
  conv => whnf
  exact ⟨(k, x9_1, _, wrap64 (x27 + 1)), [some 185], ⟨H, lt_⟩, lt_, (fits_of ⟨rfl, ⟨.inl ⟨rfl, rfl⟩, ⟨.inl ⟨rfl, rfl⟩, trivial⟩⟩⟩ ⟨rfl, trivial⟩ fi_ trivial rfl)⟩
  conv => whnf
  exact ⟨(k, x9_1, x10_1), [some 185], ⟨H, lt_⟩, lt_, (fits_of ⟨rfl, ⟨.inl ⟨rfl, rfl⟩, trivial⟩⟩ ⟨rfl, trivial⟩ fi_ trivial rfl)⟩
  conv => whnf
  injection H with H; subst H
  exact ret_gen [some 136] [] ((rfl)) ⟨rfl, trivial⟩ rfl
  conv => whnf
  injection H with H; subst H
  exact ret_gen [none] [] ((⟨rfl, rfl⟩)) ⟨⟨_, _, rfl⟩, trivial⟩ rfl
theorem impl_PlantIndexOf.l1_lp {F : (Exit → St → Prop) → St → Prop} {hv : List Tmp} {Q : Exit → St → Prop} {σ : St} {r : (List ByteArray) × (List S_impl_PlantMark)} {k : Nat} {a0_0 : List ByteArray} {a0_1 : List S_impl_PlantFoe} {a0_2 : List S_impl_PlantPlace} {a0_3 : List S_impl_PlantValve} {l1 : List ByteArray} {x36 : Int} {x1040000_1 : List ByteArray} {x1040001_1 : List S_impl_PlantMark} (H : impl_PlantIndexOf.l1 k a0_0 a0_1 a0_2 a0_3 l1 x36 x1040000_1 x1040001_1 = some r) (rn : List (Option Nat)) (h1 : Fits σ σ [40, 80, 81] [(36, .int .i64 x36)] [(40, .box [.own 0 x1040000_1.length, .own 1 x1040001_1.length])] [.arr 9 1 (x1040000_1.map en_str), .arr 133 2 (x1040001_1.map en_S_impl_PlantMark)] rn)
    (h2 : ∀ (k0 : Nat) (x36 : Int) (x1040000_1 : List ByteArray) (x1040001_1 : List S_impl_PlantMark), k0 < k + 1 → impl_PlantIndexOf.l1 k0 a0_0 a0_1 a0_2 a0_3 l1 x36 x1040000_1 x1040001_1 = some r → headN σ hv [40, 80, 81] [(36, .int .i64 x36)] [(40, .box [.own 0 x1040000_1.length, .own 1 x1040001_1.length])] [.arr 9 1 (x1040000_1.map en_str), .arr 133 2 (x1040001_1.map en_S_impl_PlantMark)] (F (fun e σ' => match e with | .normal => ∃ (y : Nat × Int × (List ByteArray) × (List S_impl_PlantMark)) (rn : List (Option Nat)), (impl_PlantIndexOf.l1 y.1 a0_0 a0_1 a0_2 a0_3 l1 y.2.1 y.2.2.1 y.2.2.2 = some r ∧ y.1 < k + 1) ∧ y.1 < k0 ∧ Fits σ σ' [40, 80, 81] [(36, .int .i64 y.2.1)] [(40, .box [.own 0 y.2.2.1.length, .own 1 y.2.2.2.length])] [.arr 9 1 (y.2.2.1.map en_str), .arr 133 2 (y.2.2.2.map en_S_impl_PlantMark)] rn | e => Q e σ'))) : Lp F hv Q σ := by
  unfold Lp
  refine ⟨Nat × Int × (List ByteArray) × (List S_impl_PlantMark), fun x => impl_PlantIndexOf.l1 x.1 a0_0 a0_1 a0_2 a0_3 l1 x.2.1 x.2.2.1 x.2.2.2 = some r ∧ x.1 < k + 1, fun x => x.1, [40, 80, 81], fun x => [(36, .int .i64 x.2.1)], fun x => [(40, .box [.own 0 x.2.2.1.length, .own 1 x.2.2.2.length])], fun x => [.arr 9 1 (x.2.2.1.map en_str), .arr 133 2 (x.2.2.2.map en_S_impl_PlantMark)], ⟨(k, x36, x1040000_1, x1040001_1), rn, ⟨H, Nat.lt_succ_self _⟩, h1⟩, ?_⟩
  rintro ⟨k, x36, x1040000_1, x1040001_1⟩ ⟨H, hk⟩
  exact h2 k x36 x1040000_1 x1040001_1 hk H
theorem impl_PlantIndexOf.l0_lp {F : (Exit → St → Prop) → St → Prop} {hv : List Tmp} {Q : Exit → St → Prop} {σ : St} {r : (List ByteArray) × (List S_impl_PlantMark)} {k : Nat} {a0_0 : List ByteArray} {a0_1 : List S_impl_PlantFoe} {a0_2 : List S_impl_PlantPlace} {a0_3 : List S_impl_PlantValve} {l1 : List ByteArray} {x17 : Int} {x1040000 : List ByteArray} {x1040001 : List S_impl_PlantMark} (H : impl_PlantIndexOf.l0 k a0_0 a0_1 a0_2 a0_3 l1 x17 x1040000 x1040001 = some r) (rn : List (Option Nat)) (h1 : Fits σ σ [40] [(17, .int .i64 x17)] [(40, .box [.own 0 x1040000.length, .own 1 x1040001.length])] [.arr 9 1 (x1040000.map en_str), .arr 133 2 (x1040001.map en_S_impl_PlantMark)] rn)
    (h2 : ∀ (k0 : Nat) (x17 : Int) (x1040000 : List ByteArray) (x1040001 : List S_impl_PlantMark), k0 < k + 1 → impl_PlantIndexOf.l0 k0 a0_0 a0_1 a0_2 a0_3 l1 x17 x1040000 x1040001 = some r → headN σ hv [40] [(17, .int .i64 x17)] [(40, .box [.own 0 x1040000.length, .own 1 x1040001.length])] [.arr 9 1 (x1040000.map en_str), .arr 133 2 (x1040001.map en_S_impl_PlantMark)] (F (fun e σ' => match e with | .normal => ∃ (y : Nat × Int × (List ByteArray) × (List S_impl_PlantMark)) (rn : List (Option Nat)), (impl_PlantIndexOf.l0 y.1 a0_0 a0_1 a0_2 a0_3 l1 y.2.1 y.2.2.1 y.2.2.2 = some r ∧ y.1 < k + 1) ∧ y.1 < k0 ∧ Fits σ σ' [40] [(17, .int .i64 y.2.1)] [(40, .box [.own 0 y.2.2.1.length, .own 1 y.2.2.2.length])] [.arr 9 1 (y.2.2.1.map en_str), .arr 133 2 (y.2.2.2.map en_S_impl_PlantMark)] rn | e => Q e σ'))) : Lp F hv Q σ := by
  unfold Lp
  refine ⟨Nat × Int × (List ByteArray) × (List S_impl_PlantMark), fun x => impl_PlantIndexOf.l0 x.1 a0_0 a0_1 a0_2 a0_3 l1 x.2.1 x.2.2.1 x.2.2.2 = some r ∧ x.1 < k + 1, fun x => x.1, [40], fun x => [(17, .int .i64 x.2.1)], fun x => [(40, .box [.own 0 x.2.2.1.length, .own 1 x.2.2.2.length])], fun x => [.arr 9 1 (x.2.2.1.map en_str), .arr 133 2 (x.2.2.2.map en_S_impl_PlantMark)], ⟨(k, x17, x1040000, x1040001), rn, ⟨H, Nat.lt_succ_self _⟩, h1⟩, ?_⟩
  rintro ⟨k, x17, x1040000, x1040001⟩ ⟨H, hk⟩
  exact h2 k x17 x1040000 x1040001 hk H
theorem impl_PlantIndexOf.ac {k : Nat} {a0_0 : List ByteArray} {a0_1 : List S_impl_PlantFoe} {a0_2 : List S_impl_PlantPlace} {a0_3 : List S_impl_PlantValve} {l1 : List ByteArray} {r : (List ByteArray) × (List S_impl_PlantMark)} (H : impl_PlantIndexOf.f k a0_0 a0_1 a0_2 a0_3 l1 = some r) : ACalls Try.prog G 42 [] [.agg [(sv_str a0_0), (sv_S_impl_PlantFoe a0_1), (sv_S_impl_PlantPlace a0_2), (sv_S_impl_PlantValve a0_3)], (sv_str l1)] [] (.agg [(sv_str r.1), (sv_S_impl_PlantMark r.2)]) := by
  refine acalls_of tok hP Try.func42 rfl (by kernel_rfl) [.cell 4 65] rfl (by kernel_rfl) (Nat.le_of_ble_eq_true rfl) (.l .n (.l (.c .n .n) (.l .n (.l (.c .n (.l .n (.l .n (.c (.c .n (.c .n .n)) .n)))) (.l (.c .n (.l .n (.l .n (.c (.c .n .n) .n)))) .n))))) rfl ?_
  unfold impl_PlantIndexOf.f at H
  conv => whnf
  revert H; refine bind_elim (fun t9413 A H => ?_)
  refine call_mk (impl_PlantValid.ac A) (avAL_cons (avA_agg (avL_cons (av_shut' rfl) (avL_cons (av_shut' rfl) (avL_cons (av_shut' rfl) (avL_cons (av_shut' rfl) (avL_nil)))))) (avAL_nil)) (Or.inl rfl) rfl rfl (Nat.le_of_ble_eq_true rfl) ?_
  conv => whnf
  refine cut_ 40 [(1, (sv_str l1)), (2, .bp 0 0), (4, .bp 8 0), (12, .bool (!t9413))] [(0, .box [(sv_str a0_0), (sv_S_impl_PlantFoe a0_1), (sv_S_impl_PlantPlace a0_2), (sv_S_impl_PlantValve a0_3)]), (8, .box [.nil, .nil])] rfl ⟨.inl rfl, ⟨.inl rfl, ⟨.inl rfl, ⟨.inl rfl, trivial⟩⟩⟩⟩ ⟨rfl, ⟨rfl, trivial⟩⟩ ?_
  conv => whnf
  refine br_nt H (fun c H => ?_) (fun c H => ?_)
  conv => whnf
  refine cut_ 80 [(1, (sv_str l1)), (2, .bp 0 0), (4, .bp 8 0), (5, .bp 40 0), (15, (sv_S_impl_PlantValve a0_3)), (16, .int .i64 (a0_3.length : Int)), (17, .int .i64 0)] [(0, .box [(sv_str a0_0), (sv_S_impl_PlantFoe a0_1), (sv_S_impl_PlantPlace a0_2), (sv_S_impl_PlantValve a0_3)]), (8, .box [.nil, .nil]), (40, .box [.nil, .nil])] rfl ⟨.inl rfl, ⟨.inl rfl, ⟨.inl rfl, ⟨.inl rfl, ⟨.inl rfl, ⟨.inl rfl, ⟨.inl rfl, trivial⟩⟩⟩⟩⟩⟩⟩ ⟨rfl, ⟨rfl, ⟨rfl, trivial⟩⟩⟩ ?_
  conv => whnf
  refine impl_PlantIndexOf.l0_lp (a0_0 := a0_0) (a0_1 := a0_1) (a0_2 := a0_2) (a0_3 := a0_3) (l1 := l1) (k := k) H [none, none] (fits_of ⟨.inl ⟨rfl, rfl⟩, trivial⟩ ⟨⟨_, _, rfl⟩, ⟨⟨_, _, rfl⟩, trivial⟩⟩ fi_ ⟨⟨_, rfl⟩, ⟨_, rfl, ⟨⟨rfl, rfl⟩, ⟨⟨rfl, rfl⟩, trivial⟩⟩⟩, trivial⟩ rfl) ?_
  intro k x17 x1040000 x1040001 hk H; rcases k with _ | k; exact none_elim H; rw [impl_PlantIndexOf.l0] at H; conv => whnf
  refine br_d H (fun c H => ?_) (fun c H => ?_)
  conv => whnf
  refine nd_ H (fun c H => ?_)
  conv => whnf
  refine Nd.mk nf_ ?_
  conv => whnf
  refine El.mk (rdm_en_S_impl_PlantValve _ _ nf_ nf_) ?_
  conv => whnf
  refine cut_ 122 [(1, (sv_str l1)), (2, .bp 0 0), (4, .bp 8 0), (5, .bp 40 0), (7, .bp 106 0), (15, (sv_S_impl_PlantValve a0_3)), (16, .int .i64 (a0_3.length : Int)), (17, .int .i64 x17)] [(0, .box [(sv_str a0_0), (sv_S_impl_PlantFoe a0_1), (sv_S_impl_PlantPlace a0_2), (sv_S_impl_PlantValve a0_3)]), (8, .box [.nil, .nil]), (40, .box [.own 80 x1040000.length, .own 81 x1040001.length]), (80, .arr 9 1 (x1040000.map en_str)), (81, .arr 133 2 (x1040001.map en_S_impl_PlantMark)), (106, .box [.str ((rd_impl_PlantValve a0_3 x17).f0), .str ((rd_impl_PlantValve a0_3 x17).f1), .str ((rd_impl_PlantValve a0_3 x17).f2), .str ((rd_impl_PlantValve a0_3 x17).f3)])] rfl ⟨.inl rfl, ⟨.inl rfl, ⟨.inl rfl, ⟨.inl rfl, ⟨.inl rfl, ⟨.inl rfl, ⟨.inl rfl, ⟨.inl rfl, trivial⟩⟩⟩⟩⟩⟩⟩⟩ ⟨rfl, ⟨rfl, ⟨rfl, ⟨rfl, ⟨rfl, ⟨rfl, trivial⟩⟩⟩⟩⟩⟩ ?_
  conv => whnf
  revert H; refine bind_elim (fun t9419 A H => ?_)
  refine call_mk (impl_has.ac A) (avAL_cons (avA_shut' rfl) (avAL_cons (avA_shut' rfl) (avAL_nil))) (Or.inl rfl) rfl rfl (Nat.le_of_ble_eq_true rfl) ?_
  conv => whnf
  refine cut_ 154 [(1, (sv_str l1)), (2, .bp 0 0), (4, .bp 8 0), (5, .bp 40 0), (7, .bp 106 0), (15, (sv_S_impl_PlantValve a0_3)), (16, .int .i64 (a0_3.length : Int)), (17, .int .i64 x17), (24, .bool t9419)] [(0, .box [(sv_str a0_0), (sv_S_impl_PlantFoe a0_1), (sv_S_impl_PlantPlace a0_2), (sv_S_impl_PlantValve a0_3)]), (8, .box [.nil, .nil]), (40, .box [.own 80 x1040000.length, .own 81 x1040001.length]), (80, .arr 9 1 (x1040000.map en_str)), (81, .arr 133 2 (x1040001.map en_S_impl_PlantMark)), (106, .box [.str ((rd_impl_PlantValve a0_3 x17).f0), .str ((rd_impl_PlantValve a0_3 x17).f1), .str ((rd_impl_PlantValve a0_3 x17).f2), .str ((rd_impl_PlantValve a0_3 x17).f3)])] rfl ⟨.inl rfl, ⟨.inl rfl, ⟨.inl rfl, ⟨.inl rfl, ⟨.inl rfl, ⟨.inl rfl, ⟨.inl rfl, ⟨.inl rfl, ⟨.inl rfl, trivial⟩⟩⟩⟩⟩⟩⟩⟩⟩ ⟨rfl, ⟨rfl, ⟨rfl, ⟨rfl, ⟨rfl, ⟨rfl, trivial⟩⟩⟩⟩⟩⟩ ?_
  conv => whnf
  refine br_t H (fun c H => ?_) (fun c H => ?_)
  conv => whnf
  refine Or.inl ?_
  conv => whnf
  refine nd_ H (fun c H => ?_)
  conv => whnf
  refine cut_ 218 [(1, (sv_str l1)), (2, .bp 0 0), (4, .bp 8 0), (5, .bp 40 0), (15, (sv_S_impl_PlantValve a0_3)), (16, .int .i64 (a0_3.length : Int)), (17, .int .i64 x17)] [(0, .box [(sv_str a0_0), (sv_S_impl_PlantFoe a0_1), (sv_S_impl_PlantPlace a0_2), (sv_S_impl_PlantValve a0_3)]), (8, .box [.nil, .nil]), (40, .box [.own 194 (x1040000.length + 1), .own 81 x1040001.length]), (81, .arr 133 2 (x1040001.map en_S_impl_PlantMark)), (194, .arr 9 1 ((x1040000 ++ ([(rd_impl_PlantValve a0_3 x17).f0] : List ByteArray)).map en_str))] rfl ⟨.inl rfl, ⟨.inl rfl, ⟨.inl rfl, ⟨.inl rfl, ⟨.inl rfl, ⟨.inl rfl, ⟨.inl rfl, trivial⟩⟩⟩⟩⟩⟩⟩ ⟨rfl, ⟨rfl, ⟨rfl, ⟨rfl, ⟨fm_, trivial⟩⟩⟩⟩⟩ ?_
  conv => whnf
  exact ⟨(k, wrap64 (x17 + 1), (x1040000 ++ ([(rd_impl_PlantValve a0_3 x17).f0] : List ByteArray)), x1040001), [some 194, some 81], ⟨H, lt_⟩, lt_, (fits_of ⟨.inl ⟨rfl, rfl⟩, trivial⟩ ⟨rfl, ⟨rfl, trivial⟩⟩ fi_ ⟨⟨_, rfl⟩, ⟨_, rfl, ⟨mt_own lm_, ⟨rfl, trivial⟩⟩⟩, trivial⟩ rfl)⟩
  conv => whnf
  refine cut_ 154 [(1, (sv_str l1)), (2, .bp 0 0), (4, .bp 8 0), (5, .bp 40 0), (15, (sv_S_impl_PlantValve a0_3)), (16, .int .i64 (a0_3.length : Int)), (17, .int .i64 x17)] [(0, .box [(sv_str a0_0), (sv_S_impl_PlantFoe a0_1), (sv_S_impl_PlantPlace a0_2), (sv_S_impl_PlantValve a0_3)]), (8, .box [.nil, .nil]), (40, .box [.own 80 x1040000.length, .own 81 x1040001.length]), (80, .arr 9 1 (x1040000.map en_str)), (81, .arr 133 2 (x1040001.map en_S_impl_PlantMark))] rfl ⟨.inl rfl, ⟨.inl rfl, ⟨.inl rfl, ⟨.inl rfl, ⟨.inl rfl, ⟨.inl rfl, ⟨.inl rfl, trivial⟩⟩⟩⟩⟩⟩⟩ ⟨rfl, ⟨rfl, ⟨rfl, ⟨rfl, ⟨rfl, trivial⟩⟩⟩⟩⟩ ?_
  conv => whnf
  exact ⟨(k, wrap64 (x17 + 1), x1040000, x1040001), [some 80, some 81], ⟨H, lt_⟩, lt_, (fits_of ⟨.inl ⟨rfl, rfl⟩, trivial⟩ ⟨rfl, ⟨rfl, trivial⟩⟩ fi_ ⟨⟨_, rfl⟩, ⟨_, rfl, ⟨rfl, ⟨rfl, trivial⟩⟩⟩, trivial⟩ rfl)⟩
  conv => whnf
  refine cut_ 122 [(2, .bp 0 0), (4, .bp 8 0), (5, .bp 40 0), (34, (sv_S_impl_PlantPlace a0_2)), (35, .int .i64 (a0_2.length : Int)), (36, .int .i64 0)] [(0, .box [(sv_str a0_0), (sv_S_impl_PlantFoe a0_1), (sv_S_impl_PlantPlace a0_2), (sv_S_impl_PlantValve a0_3)]), (8, .box [.nil, .nil]), (40, .box [.own 80 x1040000.length, .own 81 x1040001.length]), (80, .arr 9 1 (x1040000.map en_str)), (81, .arr 133 2 (x1040001.map en_S_impl_PlantMark))] rfl ⟨.inl rfl, ⟨.inl rfl, ⟨.inl rfl, ⟨.inl rfl, ⟨.inl rfl, ⟨.inl rfl, trivial⟩⟩⟩⟩⟩⟩ ⟨rfl, ⟨rfl, ⟨rfl, ⟨rfl, ⟨rfl, trivial⟩⟩⟩⟩⟩ ?_
  conv => whnf
  refine impl_PlantIndexOf.l1_lp (a0_0 := a0_0) (a0_1 := a0_1) (a0_2 := a0_2) (a0_3 := a0_3) (l1 := l1) (k := k) H [some 80, some 81] (fits_of ⟨.inl ⟨rfl, rfl⟩, trivial⟩ ⟨rfl, ⟨rfl, trivial⟩⟩ fi_ ⟨⟨_, rfl⟩, ⟨_, rfl, ⟨rfl, ⟨rfl, trivial⟩⟩⟩, trivial⟩ rfl) ?_
  intro k x36 x1040000_1 x1040001_1 hk H; rcases k with _ | k; exact none_elim H; rw [impl_PlantIndexOf.l1] at H; conv => whnf
  refine br_d H (fun c H => ?_) (fun c H => ?_)
  conv => whnf
  refine nd_ H (fun c H => ?_)
  conv => whnf
  refine Nd.mk nf_ ?_
  conv => whnf
  refine El.mk (rdm_en_S_impl_PlantPlace _ _ nf_ nf_) ?_
  conv => whnf
  refine cut_ 164 [(2, .bp 0 0), (4, .bp 8 0), (5, .bp 40 0), (9, .bp 148 0), (34, (sv_S_impl_PlantPlace a0_2)), (35, .int .i64 (a0_2.length : Int)), (36, .int .i64 x36)] [(0, .box [(sv_str a0_0), (sv_S_impl_PlantFoe a0_1), (sv_S_impl_PlantPlace a0_2), (sv_S_impl_PlantValve a0_3)]), (8, .box [.nil, .nil]), (40, .box [.own 122 x1040000_1.length, .own 123 x1040001_1.length]), (122, .arr 9 1 (x1040000_1.map en_str)), (123, .arr 133 2 (x1040001_1.map en_S_impl_PlantMark)), (148, .box [.str ((rd_impl_PlantPlace a0_2 x36).f0), .int .i64 ((rd_impl_PlantPlace a0_2 x36).f1), .str ((rd_impl_PlantPlace a0_2 x36).f2)])] rfl ⟨.inl rfl, ⟨.inl rfl, ⟨.inl rfl, ⟨.inl rfl, ⟨.inl rfl, ⟨.inl rfl, ⟨.inl rfl, trivial⟩⟩⟩⟩⟩⟩⟩ ⟨rfl, ⟨rfl, ⟨rfl, ⟨rfl, ⟨rfl, ⟨rfl, trivial⟩⟩⟩⟩⟩⟩ ?_
  conv => whnf
  revert H; refine bind_elim (fun t9424 A H => ?_)
  refine call_mk (impl_group.acO A) (avAL_cons (avA_agg (avL_cons (av_shut' rfl) (avL_cons (av_shut' rfl) (avL_cons (av_shut' rfl) (avL_cons (av_shut' rfl) (avL_nil)))))) (avAL_cons (avA_own rfl rfl) (avAL_cons (avA_shut' rfl) (avAL_nil)))) (Or.inr ⟨rfl, bo_cons (bo_arr bare_en_str) (bo_nil)⟩) rfl rfl (Nat.le_of_ble_eq_true rfl) ?_
  conv => whnf
  refine Nd.mk (by decide) ?_
  conv => whnf
  refine nd_ H (fun c H => ?_)
  conv => whnf
  refine El.mk (rdm_en_str _ _ nf_ nf_) ?_
  conv => whnf
  refine Or.inl ?_
  conv => whnf
  refine nd_ H (fun c H => ?_)
  conv => whnf
  refine cut_ 300 [(2, .bp 0 0), (4, .bp 8 0), (5, .bp 40 0), (34, (sv_S_impl_PlantPlace a0_2)), (35, .int .i64 (a0_2.length : Int)), (36, .int .i64 x36)] [(0, .box [(sv_str a0_0), (sv_S_impl_PlantFoe a0_1), (sv_S_impl_PlantPlace a0_2), (sv_S_impl_PlantValve a0_3)]), (8, .box [.nil, .nil]), (40, .box [.own 122 x1040000_1.length, .own 276 (x1040001_1.length + 1)]), (122, .arr 9 1 (x1040000_1.map en_str)), (276, .arr 133 2 ((x1040001_1 ++ ([(⟨(rd_impl_PlantPlace a0_2 x36).f0, rdOf ByteArray.empty t9424 0⟩ : S_impl_PlantMark)] : List S_impl_PlantMark)).map en_S_impl_PlantMark))] rfl ⟨.inl rfl, ⟨.inl rfl, ⟨.inl rfl, ⟨.inl rfl, ⟨.inl rfl, ⟨.inl rfl, trivial⟩⟩⟩⟩⟩⟩ ⟨rfl, ⟨rfl, ⟨rfl, ⟨rfl, ⟨fm_, trivial⟩⟩⟩⟩⟩ ?_
  conv => whnf
  exact ⟨(k, wrap64 (x36 + 1), x1040000_1, (x1040001_1 ++ ([(⟨(rd_impl_PlantPlace a0_2 x36).f0, rdOf ByteArray.empty t9424 0⟩ : S_impl_PlantMark)] : List S_impl_PlantMark))), [some 122, some 276], ⟨H, lt_⟩, lt_, (fits_of ⟨.inl ⟨rfl, rfl⟩, trivial⟩ ⟨rfl, ⟨rfl, trivial⟩⟩ fi_ ⟨⟨_, rfl⟩, ⟨_, rfl, ⟨rfl, ⟨mt_own lm_, trivial⟩⟩⟩, trivial⟩ rfl)⟩
  conv => whnf
  injection H with H; subst H
  exact ret_fz [122, 123] (rtA_agg (rtL_cons (rt_fz' rfl rfl) (rtL_cons (rt_fz' rfl rfl) (rtL_nil))))
  conv => whnf
  injection H with H; subst H
  exact ret_fz [] (rtA_agg (rtL_cons (rt_nil) (rtL_cons (rt_nil) (rtL_nil))))
theorem impl_PlantIndexOf.l1_lpO {F : (Exit → St → Prop) → St → Prop} {hv : List Tmp} {Q : Exit → St → Prop} {σ : St} {r : (List ByteArray) × (List S_impl_PlantMark)} {k : Nat} {a0_0 : List ByteArray} {a0_1 : List S_impl_PlantFoe} {a0_2 : List S_impl_PlantPlace} {a0_3 : List S_impl_PlantValve} {l1 : List ByteArray} {x36 : Int} {x1040000_1 : List ByteArray} {x1040001_1 : List S_impl_PlantMark} (H : impl_PlantIndexOf.l1 k a0_0 a0_1 a0_2 a0_3 l1 x36 x1040000_1 x1040001_1 = some r) (rn : List (Option Nat)) (h1 : Fits σ σ [40, 80, 81] [(36, .int .i64 x36)] [(40, .box [.own 0 x1040000_1.length, .own 1 x1040001_1.length])] [.arr 9 1 (x1040000_1.map en_str), .arr 133 2 (x1040001_1.map en_S_impl_PlantMark)] rn)
    (h2 : ∀ (k0 : Nat) (x36 : Int) (x1040000_1 : List ByteArray) (x1040001_1 : List S_impl_PlantMark), k0 < k + 1 → impl_PlantIndexOf.l1 k0 a0_0 a0_1 a0_2 a0_3 l1 x36 x1040000_1 x1040001_1 = some r → headN σ hv [40, 80, 81] [(36, .int .i64 x36)] [(40, .box [.own 0 x1040000_1.length, .own 1 x1040001_1.length])] [.arr 9 1 (x1040000_1.map en_str), .arr 133 2 (x1040001_1.map en_S_impl_PlantMark)] (F (fun e σ' => match e with | .normal => ∃ (y : Nat × Int × (List ByteArray) × (List S_impl_PlantMark)) (rn : List (Option Nat)), (impl_PlantIndexOf.l1 y.1 a0_0 a0_1 a0_2 a0_3 l1 y.2.1 y.2.2.1 y.2.2.2 = some r ∧ y.1 < k + 1) ∧ y.1 < k0 ∧ Fits σ σ' [40, 80, 81] [(36, .int .i64 y.2.1)] [(40, .box [.own 0 y.2.2.1.length, .own 1 y.2.2.2.length])] [.arr 9 1 (y.2.2.1.map en_str), .arr 133 2 (y.2.2.2.map en_S_impl_PlantMark)] rn | e => Q e σ'))) : Lp F hv Q σ := by
  unfold Lp
  refine ⟨Nat × Int × (List ByteArray) × (List S_impl_PlantMark), fun x => impl_PlantIndexOf.l1 x.1 a0_0 a0_1 a0_2 a0_3 l1 x.2.1 x.2.2.1 x.2.2.2 = some r ∧ x.1 < k + 1, fun x => x.1, [40, 80, 81], fun x => [(36, .int .i64 x.2.1)], fun x => [(40, .box [.own 0 x.2.2.1.length, .own 1 x.2.2.2.length])], fun x => [.arr 9 1 (x.2.2.1.map en_str), .arr 133 2 (x.2.2.2.map en_S_impl_PlantMark)], ⟨(k, x36, x1040000_1, x1040001_1), rn, ⟨H, Nat.lt_succ_self _⟩, h1⟩, ?_⟩
  rintro ⟨k, x36, x1040000_1, x1040001_1⟩ ⟨H, hk⟩
  exact h2 k x36 x1040000_1 x1040001_1 hk H
theorem impl_PlantIndexOf.l0_lpO {F : (Exit → St → Prop) → St → Prop} {hv : List Tmp} {Q : Exit → St → Prop} {σ : St} {r : (List ByteArray) × (List S_impl_PlantMark)} {k : Nat} {a0_0 : List ByteArray} {a0_1 : List S_impl_PlantFoe} {a0_2 : List S_impl_PlantPlace} {a0_3 : List S_impl_PlantValve} {l1 : List ByteArray} {x17 : Int} {x1040000 : List ByteArray} {x1040001 : List S_impl_PlantMark} (H : impl_PlantIndexOf.l0 k a0_0 a0_1 a0_2 a0_3 l1 x17 x1040000 x1040001 = some r) (rn : List (Option Nat)) (h1 : Fits σ σ [40] [(17, .int .i64 x17)] [(40, .box [.own 0 x1040000.length, .own 1 x1040001.length])] [.arr 9 1 (x1040000.map en_str), .arr 133 2 (x1040001.map en_S_impl_PlantMark)] rn)
    (h2 : ∀ (k0 : Nat) (x17 : Int) (x1040000 : List ByteArray) (x1040001 : List S_impl_PlantMark), k0 < k + 1 → impl_PlantIndexOf.l0 k0 a0_0 a0_1 a0_2 a0_3 l1 x17 x1040000 x1040001 = some r → headN σ hv [40] [(17, .int .i64 x17)] [(40, .box [.own 0 x1040000.length, .own 1 x1040001.length])] [.arr 9 1 (x1040000.map en_str), .arr 133 2 (x1040001.map en_S_impl_PlantMark)] (F (fun e σ' => match e with | .normal => ∃ (y : Nat × Int × (List ByteArray) × (List S_impl_PlantMark)) (rn : List (Option Nat)), (impl_PlantIndexOf.l0 y.1 a0_0 a0_1 a0_2 a0_3 l1 y.2.1 y.2.2.1 y.2.2.2 = some r ∧ y.1 < k + 1) ∧ y.1 < k0 ∧ Fits σ σ' [40] [(17, .int .i64 y.2.1)] [(40, .box [.own 0 y.2.2.1.length, .own 1 y.2.2.2.length])] [.arr 9 1 (y.2.2.1.map en_str), .arr 133 2 (y.2.2.2.map en_S_impl_PlantMark)] rn | e => Q e σ'))) : Lp F hv Q σ := by
  unfold Lp
  refine ⟨Nat × Int × (List ByteArray) × (List S_impl_PlantMark), fun x => impl_PlantIndexOf.l0 x.1 a0_0 a0_1 a0_2 a0_3 l1 x.2.1 x.2.2.1 x.2.2.2 = some r ∧ x.1 < k + 1, fun x => x.1, [40], fun x => [(17, .int .i64 x.2.1)], fun x => [(40, .box [.own 0 x.2.2.1.length, .own 1 x.2.2.2.length])], fun x => [.arr 9 1 (x.2.2.1.map en_str), .arr 133 2 (x.2.2.2.map en_S_impl_PlantMark)], ⟨(k, x17, x1040000, x1040001), rn, ⟨H, Nat.lt_succ_self _⟩, h1⟩, ?_⟩
  rintro ⟨k, x17, x1040000, x1040001⟩ ⟨H, hk⟩
  exact h2 k x17 x1040000 x1040001 hk H
theorem impl_PlantIndexOf.acO {k : Nat} {a0_0 : List ByteArray} {a0_1 : List S_impl_PlantFoe} {a0_2 : List S_impl_PlantPlace} {a0_3 : List S_impl_PlantValve} {l1 : List ByteArray} {r : (List ByteArray) × (List S_impl_PlantMark)} (H : impl_PlantIndexOf.f k a0_0 a0_1 a0_2 a0_3 l1 = some r) : ACalls Try.prog G 42 [] [.agg [(sv_str a0_0), (sv_S_impl_PlantFoe a0_1), (sv_S_impl_PlantPlace a0_2), (sv_S_impl_PlantValve a0_3)], (sv_str l1)] [.arr 9 1 (r.1.map en_str), .arr 133 2 (r.2.map en_S_impl_PlantMark)] (.agg [.own 0 r.1.length, .own 1 r.2.length]) := by
  refine acalls_of tok hP Try.func42 rfl (by kernel_rfl) [.cell 4 65] rfl (by kernel_rfl) (Nat.le_of_ble_eq_true rfl) (.l .n (.l (.c .n .n) (.l .n (.l (.c .n (.l .n (.l .n (.c (.c .n (.c .n .n)) .n)))) (.l (.c .n (.l .n (.l .n (.c (.c .n .n) .n)))) .n))))) rfl ?_
  unfold impl_PlantIndexOf.f at H
  conv => whnf
  revert H; refine bind_elim (fun t9498 A H => ?_)
  refine call_mk (impl_PlantValid.ac A) (avAL_cons (avA_agg (avL_cons (av_shut' rfl) (avL_cons (av_shut' rfl) (avL_cons (av_shut' rfl) (avL_cons (av_shut' rfl) (avL_nil)))))) (avAL_nil)) (Or.inl rfl) rfl rfl (Nat.le_of_ble_eq_true rfl) ?_
  conv => whnf
  refine cut_ 40 [(1, (sv_str l1)), (2, .bp 0 0), (4, .bp 8 0), (12, .bool (!t9498))] [(0, .box [(sv_str a0_0), (sv_S_impl_PlantFoe a0_1), (sv_S_impl_PlantPlace a0_2), (sv_S_impl_PlantValve a0_3)]), (8, .box [.nil, .nil])] rfl ⟨.inl rfl, ⟨.inl rfl, ⟨.inl rfl, ⟨.inl rfl, trivial⟩⟩⟩⟩ ⟨rfl, ⟨rfl, trivial⟩⟩ ?_
  conv => whnf
  refine br_nt H (fun c H => ?_) (fun c H => ?_)
  conv => whnf
  refine cut_ 80 [(1, (sv_str l1)), (2, .bp 0 0), (4, .bp 8 0), (5, .bp 40 0), (15, (sv_S_impl_PlantValve a0_3)), (16, .int .i64 (a0_3.length : Int)), (17, .int .i64 0)] [(0, .box [(sv_str a0_0), (sv_S_impl_PlantFoe a0_1), (sv_S_impl_PlantPlace a0_2), (sv_S_impl_PlantValve a0_3)]), (8, .box [.nil, .nil]), (40, .box [.nil, .nil])] rfl ⟨.inl rfl, ⟨.inl rfl, ⟨.inl rfl, ⟨.inl rfl, ⟨.inl rfl, ⟨.inl rfl, ⟨.inl rfl, trivial⟩⟩⟩⟩⟩⟩⟩ ⟨rfl, ⟨rfl, ⟨rfl, trivial⟩⟩⟩ ?_
  conv => whnf
  refine impl_PlantIndexOf.l0_lpO (a0_0 := a0_0) (a0_1 := a0_1) (a0_2 := a0_2) (a0_3 := a0_3) (l1 := l1) (k := k) H [none, none] (fits_of ⟨.inl ⟨rfl, rfl⟩, trivial⟩ ⟨⟨_, _, rfl⟩, ⟨⟨_, _, rfl⟩, trivial⟩⟩ fi_ ⟨⟨_, rfl⟩, ⟨_, rfl, ⟨⟨rfl, rfl⟩, ⟨⟨rfl, rfl⟩, trivial⟩⟩⟩, trivial⟩ rfl) ?_
  intro k x17 x1040000 x1040001 hk H; rcases k with _ | k; exact none_elim H; rw [impl_PlantIndexOf.l0] at H; conv => whnf
  refine br_d H (fun c H => ?_) (fun c H => ?_)
  conv => whnf
  refine nd_ H (fun c H => ?_)
  conv => whnf
  refine Nd.mk nf_ ?_
  conv => whnf
  refine El.mk (rdm_en_S_impl_PlantValve _ _ nf_ nf_) ?_
  conv => whnf
  refine cut_ 122 [(1, (sv_str l1)), (2, .bp 0 0), (4, .bp 8 0), (5, .bp 40 0), (7, .bp 106 0), (15, (sv_S_impl_PlantValve a0_3)), (16, .int .i64 (a0_3.length : Int)), (17, .int .i64 x17)] [(0, .box [(sv_str a0_0), (sv_S_impl_PlantFoe a0_1), (sv_S_impl_PlantPlace a0_2), (sv_S_impl_PlantValve a0_3)]), (8, .box [.nil, .nil]), (40, .box [.own 80 x1040000.length, .own 81 x1040001.length]), (80, .arr 9 1 (x1040000.map en_str)), (81, .arr 133 2 (x1040001.map en_S_impl_PlantMark)), (106, .box [.str ((rd_impl_PlantValve a0_3 x17).f0), .str ((rd_impl_PlantValve a0_3 x17).f1), .str ((rd_impl_PlantValve a0_3 x17).f2), .str ((rd_impl_PlantValve a0_3 x17).f3)])] rfl ⟨.inl rfl, ⟨.inl rfl, ⟨.inl rfl, ⟨.inl rfl, ⟨.inl rfl, ⟨.inl rfl, ⟨.inl rfl, ⟨.inl rfl, trivial⟩⟩⟩⟩⟩⟩⟩⟩ ⟨rfl, ⟨rfl, ⟨rfl, ⟨rfl, ⟨rfl, ⟨rfl, trivial⟩⟩⟩⟩⟩⟩ ?_
  conv => whnf
  revert H; refine bind_elim (fun t9504 A H => ?_)
  refine call_mk (impl_has.ac A) (avAL_cons (avA_shut' rfl) (avAL_cons (avA_shut' rfl) (avAL_nil))) (Or.inl rfl) rfl rfl (Nat.le_of_ble_eq_true rfl) ?_
  conv => whnf
  refine cut_ 154 [(1, (sv_str l1)), (2, .bp 0 0), (4, .bp 8 0), (5, .bp 40 0), (7, .bp 106 0), (15, (sv_S_impl_PlantValve a0_3)), (16, .int .i64 (a0_3.length : Int)), (17, .int .i64 x17), (24, .bool t9504)] [(0, .box [(sv_str a0_0), (sv_S_impl_PlantFoe a0_1), (sv_S_impl_PlantPlace a0_2), (sv_S_impl_PlantValve a0_3)]), (8, .box [.nil, .nil]), (40, .box [.own 80 x1040000.length, .own 81 x1040001.length]), (80, .arr 9 1 (x1040000.map en_str)), (81, .arr 133 2 (x1040001.map en_S_impl_PlantMark)), (106, .box [.str ((rd_impl_PlantValve a0_3 x17).f0), .str ((rd_impl_PlantValve a0_3 x17).f1), .str ((rd_impl_PlantValve a0_3 x17).f2), .str ((rd_impl_PlantValve a0_3 x17).f3)])] rfl ⟨.inl rfl, ⟨.inl rfl, ⟨.inl rfl, ⟨.inl rfl, ⟨.inl rfl, ⟨.inl rfl, ⟨.inl rfl, ⟨.inl rfl, ⟨.inl rfl, trivial⟩⟩⟩⟩⟩⟩⟩⟩⟩ ⟨rfl, ⟨rfl, ⟨rfl, ⟨rfl, ⟨rfl, ⟨rfl, trivial⟩⟩⟩⟩⟩⟩ ?_
  conv => whnf
  refine br_t H (fun c H => ?_) (fun c H => ?_)
  conv => whnf
  refine Or.inl ?_
  conv => whnf
  refine nd_ H (fun c H => ?_)
  conv => whnf
  refine cut_ 218 [(1, (sv_str l1)), (2, .bp 0 0), (4, .bp 8 0), (5, .bp 40 0), (15, (sv_S_impl_PlantValve a0_3)), (16, .int .i64 (a0_3.length : Int)), (17, .int .i64 x17)] [(0, .box [(sv_str a0_0), (sv_S_impl_PlantFoe a0_1), (sv_S_impl_PlantPlace a0_2), (sv_S_impl_PlantValve a0_3)]), (8, .box [.nil, .nil]), (40, .box [.own 194 (x1040000.length + 1), .own 81 x1040001.length]), (81, .arr 133 2 (x1040001.map en_S_impl_PlantMark)), (194, .arr 9 1 ((x1040000 ++ ([(rd_impl_PlantValve a0_3 x17).f0] : List ByteArray)).map en_str))] rfl ⟨.inl rfl, ⟨.inl rfl, ⟨.inl rfl, ⟨.inl rfl, ⟨.inl rfl, ⟨.inl rfl, ⟨.inl rfl, trivial⟩⟩⟩⟩⟩⟩⟩ ⟨rfl, ⟨rfl, ⟨rfl, ⟨rfl, ⟨fm_, trivial⟩⟩⟩⟩⟩ ?_
  conv => whnf
  exact ⟨(k, wrap64 (x17 + 1), (x1040000 ++ ([(rd_impl_PlantValve a0_3 x17).f0] : List ByteArray)), x1040001), [some 194, some 81], ⟨H, lt_⟩, lt_, (fits_of ⟨.inl ⟨rfl, rfl⟩, trivial⟩ ⟨rfl, ⟨rfl, trivial⟩⟩ fi_ ⟨⟨_, rfl⟩, ⟨_, rfl, ⟨mt_own lm_, ⟨rfl, trivial⟩⟩⟩, trivial⟩ rfl)⟩
  conv => whnf
  refine cut_ 154 [(1, (sv_str l1)), (2, .bp 0 0), (4, .bp 8 0), (5, .bp 40 0), (15, (sv_S_impl_PlantValve a0_3)), (16, .int .i64 (a0_3.length : Int)), (17, .int .i64 x17)] [(0, .box [(sv_str a0_0), (sv_S_impl_PlantFoe a0_1), (sv_S_impl_PlantPlace a0_2), (sv_S_impl_PlantValve a0_3)]), (8, .box [.nil, .nil]), (40, .box [.own 80 x1040000.length, .own 81 x1040001.length]), (80, .arr 9 1 (x1040000.map en_str)), (81, .arr 133 2 (x1040001.map en_S_impl_PlantMark))] rfl ⟨.inl rfl, ⟨.inl rfl, ⟨.inl rfl, ⟨.inl rfl, ⟨.inl rfl, ⟨.inl rfl, ⟨.inl rfl, trivial⟩⟩⟩⟩⟩⟩⟩ ⟨rfl, ⟨rfl, ⟨rfl, ⟨rfl, ⟨rfl, trivial⟩⟩⟩⟩⟩ ?_
  conv => whnf
  exact ⟨(k, wrap64 (x17 + 1), x1040000, x1040001), [some 80, some 81], ⟨H, lt_⟩, lt_, (fits_of ⟨.inl ⟨rfl, rfl⟩, trivial⟩ ⟨rfl, ⟨rfl, trivial⟩⟩ fi_ ⟨⟨_, rfl⟩, ⟨_, rfl, ⟨rfl, ⟨rfl, trivial⟩⟩⟩, trivial⟩ rfl)⟩
  conv => whnf
  refine cut_ 122 [(2, .bp 0 0), (4, .bp 8 0), (5, .bp 40 0), (34, (sv_S_impl_PlantPlace a0_2)), (35, .int .i64 (a0_2.length : Int)), (36, .int .i64 0)] [(0, .box [(sv_str a0_0), (sv_S_impl_PlantFoe a0_1), (sv_S_impl_PlantPlace a0_2), (sv_S_impl_PlantValve a0_3)]), (8, .box [.nil, .nil]), (40, .box [.own 80 x1040000.length, .own 81 x1040001.length]), (80, .arr 9 1 (x1040000.map en_str)), (81, .arr 133 2 (x1040001.map en_S_impl_PlantMark))] rfl ⟨.inl rfl, ⟨.inl rfl, ⟨.inl rfl, ⟨.inl rfl, ⟨.inl rfl, ⟨.inl rfl, trivial⟩⟩⟩⟩⟩⟩ ⟨rfl, ⟨rfl, ⟨rfl, ⟨rfl, ⟨rfl, trivial⟩⟩⟩⟩⟩ ?_
  conv => whnf
  refine impl_PlantIndexOf.l1_lpO (a0_0 := a0_0) (a0_1 := a0_1) (a0_2 := a0_2) (a0_3 := a0_3) (l1 := l1) (k := k) H [some 80, some 81] (fits_of ⟨.inl ⟨rfl, rfl⟩, trivial⟩ ⟨rfl, ⟨rfl, trivial⟩⟩ fi_ ⟨⟨_, rfl⟩, ⟨_, rfl, ⟨rfl, ⟨rfl, trivial⟩⟩⟩, trivial⟩ rfl) ?_
  intro k x36 x1040000_1 x1040001_1 hk H; rcases k with _ | k; exact none_elim H; rw [impl_PlantIndexOf.l1] at H; conv => whnf
  refine br_d H (fun c H => ?_) (fun c H => ?_)
  conv => whnf
  refine nd_ H (fun c H => ?_)
  conv => whnf
  refine Nd.mk nf_ ?_
  conv => whnf
  refine El.mk (rdm_en_S_impl_PlantPlace _ _ nf_ nf_) ?_
  conv => whnf
  refine cut_ 164 [(2, .bp 0 0), (4, .bp 8 0), (5, .bp 40 0), (9, .bp 148 0), (34, (sv_S_impl_PlantPlace a0_2)), (35, .int .i64 (a0_2.length : Int)), (36, .int .i64 x36)] [(0, .box [(sv_str a0_0), (sv_S_impl_PlantFoe a0_1), (sv_S_impl_PlantPlace a0_2), (sv_S_impl_PlantValve a0_3)]), (8, .box [.nil, .nil]), (40, .box [.own 122 x1040000_1.length, .own 123 x1040001_1.length]), (122, .arr 9 1 (x1040000_1.map en_str)), (123, .arr 133 2 (x1040001_1.map en_S_impl_PlantMark)), (148, .box [.str ((rd_impl_PlantPlace a0_2 x36).f0), .int .i64 ((rd_impl_PlantPlace a0_2 x36).f1), .str ((rd_impl_PlantPlace a0_2 x36).f2)])] rfl ⟨.inl rfl, ⟨.inl rfl, ⟨.inl rfl, ⟨.inl rfl, ⟨.inl rfl, ⟨.inl rfl, ⟨.inl rfl, trivial⟩⟩⟩⟩⟩⟩⟩ ⟨rfl, ⟨rfl, ⟨rfl, ⟨rfl, ⟨rfl, ⟨rfl, trivial⟩⟩⟩⟩⟩⟩ ?_
  conv => whnf
  revert H; refine bind_elim (fun t9509 A H => ?_)
  refine call_mk (impl_group.acO A) (avAL_cons (avA_agg (avL_cons (av_shut' rfl) (avL_cons (av_shut' rfl) (avL_cons (av_shut' rfl) (avL_cons (av_shut' rfl) (avL_nil)))))) (avAL_cons (avA_own rfl rfl) (avAL_cons (avA_shut' rfl) (avAL_nil)))) (Or.inr ⟨rfl, bo_cons (bo_arr bare_en_str) (bo_nil)⟩) rfl rfl (Nat.le_of_ble_eq_true rfl) ?_
  conv => whnf
  refine Nd.mk (by decide) ?_
  conv => whnf
  refine nd_ H (fun c H => ?_)
  conv => whnf
  refine El.mk (rdm_en_str _ _ nf_ nf_) ?_
  conv => whnf
  refine Or.inl ?_
  conv => whnf
  refine nd_ H (fun c H => ?_)
  conv => whnf
  refine cut_ 300 [(2, .bp 0 0), (4, .bp 8 0), (5, .bp 40 0), (34, (sv_S_impl_PlantPlace a0_2)), (35, .int .i64 (a0_2.length : Int)), (36, .int .i64 x36)] [(0, .box [(sv_str a0_0), (sv_S_impl_PlantFoe a0_1), (sv_S_impl_PlantPlace a0_2), (sv_S_impl_PlantValve a0_3)]), (8, .box [.nil, .nil]), (40, .box [.own 122 x1040000_1.length, .own 276 (x1040001_1.length + 1)]), (122, .arr 9 1 (x1040000_1.map en_str)), (276, .arr 133 2 ((x1040001_1 ++ ([(⟨(rd_impl_PlantPlace a0_2 x36).f0, rdOf ByteArray.empty t9509 0⟩ : S_impl_PlantMark)] : List S_impl_PlantMark)).map en_S_impl_PlantMark))] rfl ⟨.inl rfl, ⟨.inl rfl, ⟨.inl rfl, ⟨.inl rfl, ⟨.inl rfl, ⟨.inl rfl, trivial⟩⟩⟩⟩⟩⟩ ⟨rfl, ⟨rfl, ⟨rfl, ⟨rfl, ⟨fm_, trivial⟩⟩⟩⟩⟩ ?_
  conv => whnf
  exact ⟨(k, wrap64 (x36 + 1), x1040000_1, (x1040001_1 ++ ([(⟨(rd_impl_PlantPlace a0_2 x36).f0, rdOf ByteArray.empty t9509 0⟩ : S_impl_PlantMark)] : List S_impl_PlantMark))), [some 122, some 276], ⟨H, lt_⟩, lt_, (fits_of ⟨.inl ⟨rfl, rfl⟩, trivial⟩ ⟨rfl, ⟨rfl, trivial⟩⟩ fi_ ⟨⟨_, rfl⟩, ⟨_, rfl, ⟨rfl, ⟨mt_own lm_, trivial⟩⟩⟩, trivial⟩ rfl)⟩
  conv => whnf
  injection H with H; subst H
  exact ret_gen [some 122, some 123] [] ((rtA_agg (rtL_cons (rfl) (rtL_cons (rfl) (rtL_nil))))) ⟨rfl, ⟨rfl, trivial⟩⟩ rfl
  conv => whnf
  injection H with H; subst H
  exact ret_gen [none, none] [] ((rtA_agg (rtL_cons (⟨rfl, rfl⟩) (rtL_cons (⟨rfl, rfl⟩) (rtL_nil))))) ⟨⟨_, _, rfl⟩, ⟨⟨_, _, rfl⟩, trivial⟩⟩ rfl
theorem spec_l2StuffsOk.l1_lp {F : (Exit → St → Prop) → St → Prop} {hv : List Tmp} {Q : Exit → St → Prop} {σ : St} {r : Bool} {k : Nat} {a0_0 : List ByteArray} {a0_1 : List S_impl_PlantFoe} {x4 : Int} (H : spec_l2StuffsOk.l1 k a0_0 a0_1 x4 = some r) (rn : List (Option Nat)) (h1 : Fits σ σ [] [(4, .int .i64 x4)] [] [] rn)
    (h2 : ∀ (k0 : Nat) (x4 : Int), k0 < k + 1 → spec_l2StuffsOk.l1 k0 a0_0 a0_1 x4 = some r → headN σ hv [] [(4, .int .i64 x4)] [] [] (F (fun e σ' => match e with | .normal => ∃ (y : Nat × Int) (rn : List (Option Nat)), (spec_l2StuffsOk.l1 y.1 a0_0 a0_1 y.2 = some r ∧ y.1 < k + 1) ∧ y.1 < k0 ∧ Fits σ σ' [] [(4, .int .i64 y.2)] [] [] rn | e => Q e σ'))) : Lp F hv Q σ := by
  unfold Lp
  refine ⟨Nat × Int, fun x => spec_l2StuffsOk.l1 x.1 a0_0 a0_1 x.2 = some r ∧ x.1 < k + 1, fun x => x.1, [], fun x => [(4, .int .i64 x.2)], fun x => [], fun x => [], ⟨(k, x4), rn, ⟨H, Nat.lt_succ_self _⟩, h1⟩, ?_⟩
  rintro ⟨k, x4⟩ ⟨H, hk⟩
  exact h2 k x4 hk H
theorem spec_l2StuffsOk.l0_lp {F : (Exit → St → Prop) → St → Prop} {hv : List Tmp} {Q : Exit → St → Prop} {σ : St} {r : Bool} {k : Nat} {a0_0 : List ByteArray} {a0_1 : List S_impl_PlantFoe} {x3 : Int} (H : spec_l2StuffsOk.l0 k a0_0 a0_1 x3 = some r) (rn : List (Option Nat)) (h1 : Fits σ σ [] [(3, .int .i64 x3)] [] [] rn)
    (h2 : ∀ (k0 : Nat) (x3 : Int), k0 < k + 1 → spec_l2StuffsOk.l0 k0 a0_0 a0_1 x3 = some r → headN σ hv [] [(3, .int .i64 x3)] [] [] (F (fun e σ' => match e with | .normal => ∃ (y : Nat × Int) (rn : List (Option Nat)), (spec_l2StuffsOk.l0 y.1 a0_0 a0_1 y.2 = some r ∧ y.1 < k + 1) ∧ y.1 < k0 ∧ Fits σ σ' [] [(3, .int .i64 y.2)] [] [] rn | e => Q e σ'))) : Lp F hv Q σ := by
  unfold Lp
  refine ⟨Nat × Int, fun x => spec_l2StuffsOk.l0 x.1 a0_0 a0_1 x.2 = some r ∧ x.1 < k + 1, fun x => x.1, [], fun x => [(3, .int .i64 x.2)], fun x => [], fun x => [], ⟨(k, x3), rn, ⟨H, Nat.lt_succ_self _⟩, h1⟩, ?_⟩
  rintro ⟨k, x3⟩ ⟨H, hk⟩
  exact h2 k x3 hk H
theorem spec_l2StuffsOk.ac {k : Nat} {a0_0 : List ByteArray} {a0_1 : List S_impl_PlantFoe} {a0_2 : List S_impl_PlantPlace} {a0_3 : List S_impl_PlantValve} {r : Bool} (H : spec_l2StuffsOk.f k a0_0 a0_1 a0_2 a0_3 = some r) : ACalls Try.prog G 145 [] [.agg [(sv_str a0_0), (sv_S_impl_PlantFoe a0_1), (sv_S_impl_PlantPlace a0_2), (sv_S_impl_PlantValve a0_3)]] [] (.bool r) := by
  refine acalls_of tok hP Try.func145 rfl (by kernel_rfl) [.tmp 2] rfl (by kernel_rfl) (Nat.le_of_ble_eq_true rfl) (.l .n (.l (.c .n (.l (.c .n .n) .n)) (.l (.l .n (.l .n (.l (.c .n (.l (.c .n .n) .n)) .n))) (.l (.l .n (.l (.c .n .n) (.l (.l .n (.c .n (.l (.c .n .n) .n))) .n))) .n)))) rfl ?_
  unfold spec_l2StuffsOk.f at H
  conv => whnf
  refine br_d H (fun c H => ?_) (fun c H => ?_)
  conv => whnf
  refine Br.t ft_ ?_
  conv => whnf
  refine Br.t ft_ ?_
  conv => whnf
  refine Br.t ft_ ?_
  conv => whnf
  refine Br.t ft_ ?_
  conv => whnf
  refine cut_ 96 [(1, .bp 0 0), (15, .bool true)] [(0, .box [(sv_str a0_0), (sv_S_impl_PlantFoe a0_1), (sv_S_impl_PlantPlace a0_2), (sv_S_impl_PlantValve a0_3)])] rfl ⟨.inl rfl, ⟨.inl rfl, trivial⟩⟩ ⟨rfl, trivial⟩ ?_
  conv => whnf
  refine Br.t rfl ?_
  conv => whnf
  refine cut_ 104 [(2, .bool false)] [] rfl ⟨.inl rfl, trivial⟩ trivial ?_
  conv => whnf
  injection H with H; subst H
  exact ret_fz [] (rtA_eq rfl)
  conv => whnf
  refine Br.f ff_ ?_
  conv => whnf
  refine Br.f ff_ ?_
  conv => whnf
  refine Br.f ff_ ?_
  conv => whnf
  refine Br.f ff_ ?_
  conv => whnf
  refine cut_ 96 [(1, .bp 0 0), (15, .bool (decide ((a0_1.length : Int) > 12)))] [(0, .box [(sv_str a0_0), (sv_S_impl_PlantFoe a0_1), (sv_S_impl_PlantPlace a0_2), (sv_S_impl_PlantValve a0_3)])] rfl ⟨.inl rfl, ⟨.inl rfl, trivial⟩⟩ ⟨rfl, trivial⟩ ?_
  conv => whnf
  refine br_d H (fun c H => ?_) (fun c H => ?_)
  conv => whnf
  refine cut_ 104 [(2, .bool false)] [] rfl ⟨.inl rfl, trivial⟩ trivial ?_
  conv => whnf
  injection H with H; subst H
  exact ret_fz [] (rtA_eq rfl)
  conv => whnf
  refine spec_l2StuffsOk.l0_lp (a0_0 := a0_0) (a0_1 := a0_1) (k := k) H [] (fits_of ⟨.inl ⟨rfl, rfl⟩, trivial⟩ trivial fi_ trivial rfl) ?_
  intro k x3 hk H; rcases k with _ | k; exact none_elim H; rw [spec_l2StuffsOk.l0] at H; conv => whnf
  refine br_d H (fun c H => ?_) (fun c H => ?_)
  conv => whnf
  refine nd_ H (fun c H => ?_)
  conv => whnf
  refine Nd.mk nf_ ?_
  conv => whnf
  refine El.mk (rdm_en_str _ _ nf_ nf_) ?_
  conv => whnf
  revert H; refine bind_elim (fun t9579 A H => ?_)
  refine call_mk (spec_l2NameOk.ac A) (avAL_cons (avA_shut' rfl) (avAL_nil)) (Or.inl rfl) rfl rfl (Nat.le_of_ble_eq_true rfl) ?_
  conv => whnf
  refine br_nt H (fun c H => ?_) (fun c H => ?_)
  conv => whnf
  refine Br.f ff_ ?_
  conv => whnf
  refine Br.f ff_ ?_
  conv => whnf
  refine br_d H (fun c H => ?_) (fun c H => ?_)
  conv => whnf
  refine Br.t ft_ ?_
  conv => whnf
  refine Br.t ft_ ?_
  conv => whnf
  refine Br.t ft_ ?_
  conv => whnf
  refine Br.t ft_ ?_
  conv => whnf
  refine nd_ H (fun c H => ?_)
  conv => whnf
  refine nd_ H (fun c H => ?_)
  conv => whnf
  refine El.mk (rdm_en_str _ _ nf_ nf_) ?_
  conv => whnf
  refine Br.t ft_ ?_
  conv => whnf
  refine Br.t ft_ ?_
  conv => whnf
  refine Br.t ft_ ?_
  conv => whnf
  refine Br.t ft_ ?_
  conv => whnf
  refine Br.t ft_ ?_
  conv => whnf
  refine Nd.mk nf_ ?_
  conv => whnf
  refine Nd.mk nf_ ?_
  conv => whnf
  refine El.mk (rdm_en_str _ _ nf_ nf_) ?_
  conv => whnf
  refine Br.t ft_ ?_
  conv => whnf
  refine Br.t ft_ ?_
  conv => whnf
  refine Br.f ff_ ?_
  conv => whnf
  refine Br.t ft_ ?_
  conv => whnf
  refine Br.f ff_ ?_
  conv => whnf
  refine cut_ 344 [(1, .bp 0 0), (3, .int .i64 x3), (47, .bool (!(Op.bytesLess (rdOf ByteArray.empty a0_0 (wrap64 (x3 - 1))).toList (rdOf ByteArray.empty a0_0 x3).toList)))] [(0, .box [(sv_str a0_0), (sv_S_impl_PlantFoe a0_1), (sv_S_impl_PlantPlace a0_2), (sv_S_impl_PlantValve a0_3)])] rfl ⟨.inl rfl, ⟨.inl rfl, ⟨.inl rfl, trivial⟩⟩⟩ ⟨rfl, trivial⟩ ?_
  conv => whnf
  refine br_nt H (fun c H => ?_) (fun c H => ?_)
  conv => whnf
  exact ⟨(k, wrap64 (x3 + 1)), [], ⟨H, lt_⟩, lt_, (fits_of ⟨.inl ⟨rfl, rfl⟩, trivial⟩ trivial fi_ trivial rfl)⟩
  conv => whnf
  refine cut_ 352 [(2, .bool false)] [] rfl ⟨.inl rfl, trivial⟩ trivial ?_
  conv => whnf
  injection H with H; subst H
  exact ret_fz [] (rtA_eq rfl)
  conv => whnf
  refine Br.f ff_ ?_
  conv => whnf
  refine Br.f ff_ ?_
  conv => whnf
  refine Br.f ff_ ?_
  conv => whnf
  refine Br.f ff_ ?_
  conv => whnf
  refine Br.f ff_ ?_
  conv => whnf
  refine Br.f ff_ ?_
  conv => whnf
  refine Br.f ff_ ?_
  conv => whnf
  refine Br.f ff_ ?_
  conv => whnf
  refine Br.f ff_ ?_
  conv => whnf
  refine Br.f ff_ ?_
  conv => whnf
  refine Br.f ff_ ?_
  conv => whnf
  refine Br.f ff_ ?_
  conv => whnf
  refine Br.f ff_ ?_
  conv => whnf
  refine Br.f ff_ ?_
  conv => whnf
  refine cut_ 344 [(1, .bp 0 0), (3, .int .i64 x3), (47, .bool false)] [(0, .box [(sv_str a0_0), (sv_S_impl_PlantFoe a0_1), (sv_S_impl_PlantPlace a0_2), (sv_S_impl_PlantValve a0_3)])] rfl ⟨.inl rfl, ⟨.inl rfl, ⟨.inl rfl, trivial⟩⟩⟩ ⟨rfl, trivial⟩ ?_
  conv => whnf
  refine Br.f rfl ?_
  conv => whnf
  exact ⟨(k, wrap64 (x3 + 1)), [], ⟨H, lt_⟩, lt_, (fits_of ⟨.inl ⟨rfl, rfl⟩, trivial⟩ trivial fi_ trivial rfl)⟩
  conv => whnf
  refine Br.t ft_ ?_
  conv => whnf
  refine Br.t ft_ ?_
  conv => whnf
  refine Br.t ft_ ?_
  conv => whnf
  refine Br.t ft_ ?_
  conv => whnf
  refine cut_ 344 [(1, .bp 0 0), (3, .int .i64 x3), (47, .bool true)] [(0, .box [(sv_str a0_0), (sv_S_impl_PlantFoe a0_1), (sv_S_impl_PlantPlace a0_2), (sv_S_impl_PlantValve a0_3)])] rfl ⟨.inl rfl, ⟨.inl rfl, ⟨.inl rfl, trivial⟩⟩⟩ ⟨rfl, trivial⟩ ?_
  conv => whnf
  refine Br.t rfl ?_
  conv => whnf
  refine cut_ 352 [(2, .bool false)] [] rfl ⟨.inl rfl, trivial⟩ trivial ?_
  conv => whnf
  injection H with H; subst H
  exact ret_fz [] (rtA_eq rfl)
  conv => whnf
  refine spec_l2StuffsOk.l1_lp (a0_0 := a0_0) (a0_1 := a0_1) (k := k) H [] (fits_of ⟨.inl ⟨rfl, rfl⟩, trivial⟩ trivial fi_ trivial rfl) ?_
  intro k x4 hk H; rcases k with _ | k; exact none_elim H; rw [spec_l2StuffsOk.l1] at H; conv => whnf
  refine cut_ 192 [(1, .bp 0 0), (4, .int .i64 x4), (52, .bool (decide (x4 < (a0_1.length : Int))))] [(0, .box [(sv_str a0_0), (sv_S_impl_PlantFoe a0_1), (sv_S_impl_PlantPlace a0_2), (sv_S_impl_PlantValve a0_3)])] rfl ⟨.inl rfl, ⟨.inl rfl, ⟨.inl rfl, trivial⟩⟩⟩ ⟨rfl, trivial⟩ ?_
  conv => whnf
  refine br_d H (fun c H => ?_) (fun c H => ?_)
  conv => whnf
  refine nd_ H (fun c H => ?_)
  conv => whnf
  refine Nd.mk nf_ ?_
  conv => whnf
  refine El.mk (rdm_en_S_impl_PlantFoe _ _ nf_ nf_) ?_
  conv => whnf
  refine br_nt H (fun c H => ?_) (fun c H => ?_)
  conv => whnf
  refine Br.f ff_ ?_
  conv => whnf
  refine Br.f ff_ ?_
  conv => whnf
  refine Br.f ff_ ?_
  conv => whnf
  refine Br.f ff_ ?_
  conv => whnf
  revert H; refine bind_elim (fun t9589 A H => ?_)
  refine call_mk (spec_l2Has.ac A) (avAL_cons (avA_shut' rfl) (avAL_cons (avA_shut' rfl) (avAL_nil))) (Or.inl rfl) rfl rfl (Nat.le_of_ble_eq_true rfl) ?_
  conv => whnf
  refine Br.f ff_ ?_
  conv => whnf
  refine Br.f ff_ ?_
  conv => whnf
  refine br_nt H (fun c H => ?_) (fun c H => ?_)
  conv => whnf
  refine Br.f ff_ ?_
  conv => whnf
  refine Br.f ff_ ?_
  conv => whnf
  refine Br.f ff_ ?_
  conv => whnf
  refine Br.f ff_ ?_
  conv => whnf
  revert H; refine bind_elim (fun t9590 A H => ?_)
  refine call_mk (spec_l2Has.ac A) (avAL_cons (avA_shut' rfl) (avAL_cons (avA_shut' rfl) (avAL_nil))) (Or.inl rfl) rfl rfl (Nat.le_of_ble_eq_true rfl) ?_
  conv => whnf
  refine Br.f ff_ ?_
  conv => whnf
  refine Br.f ff_ ?_
  conv => whnf
  refine br_nt H (fun c H => ?_) (fun c H => ?_)
  conv => whnf
  refine Br.f ff_ ?_
  conv => whnf
  refine Br.f ff_ ?_
  conv => whnf
  refine br_d H (fun c H => ?_) (fun c H => ?_)
  conv => whnf
  refine Br.t ft_ ?_
  conv => whnf
  refine Br.t ft_ ?_
  conv => whnf
  refine Br.t ft_ ?_
  conv => whnf
  refine Br.t ft_ ?_
  conv => whnf
  refine nd_ H (fun c H => ?_)
  conv => whnf
  refine nd_ H (fun c H => ?_)
  conv => whnf
  refine El.mk (rdm_en_S_impl_PlantFoe _ _ nf_ nf_) ?_
  conv => whnf
  refine Br.t ft_ ?_
  conv => whnf
  refine Br.t ft_ ?_
  conv => whnf
  refine Br.t ft_ ?_
  conv => whnf
  revert H; refine bind_elim (fun t9591 A H => ?_)
  refine call_mk (spec_l2Before.ac A) (avAL_cons (avA_agg (avL_cons (av_shut' rfl) (avL_cons (av_shut' rfl) (avL_nil)))) (avAL_cons (avA_agg (avL_cons (av_shut' rfl) (avL_cons (av_shut' rfl) (avL_nil)))) (avAL_nil))) (Or.inl rfl) rfl rfl (Nat.le_of_ble_eq_true rfl) ?_
  conv => whnf
  refine Br.t ft_ ?_
  conv => whnf
  refine Br.f ff_ ?_
  conv => whnf
  refine Br.t ft_ ?_
  conv => whnf
  refine Br.f ff_ ?_
  conv => whnf
  refine cut_ 536 [(1, .bp 0 0), (4, .int .i64 x4), (95, .bool (!t9591))] [(0, .box [(sv_str a0_0), (sv_S_impl_PlantFoe a0_1), (sv_S_impl_PlantPlace a0_2), (sv_S_impl_PlantValve a0_3)])] rfl ⟨.inl rfl, ⟨.inl rfl, ⟨.inl rfl, trivial⟩⟩⟩ ⟨rfl, trivial⟩ ?_
  conv => whnf
  refine br_nt H (fun c H => ?_) (fun c H => ?_)
  conv => whnf
  exact ⟨(k, wrap64 (x4 + 1)), [], ⟨H, lt_⟩, lt_, (fits_of ⟨.inl ⟨rfl, rfl⟩, trivial⟩ trivial fi_ trivial rfl)⟩
  conv => whnf
  refine cut_ 544 [(2, .bool false)] [] rfl ⟨.inl rfl, trivial⟩ trivial ?_
  conv => whnf
  injection H with H; subst H
  exact ret_fz [] (rtA_eq rfl)
  conv => whnf
  refine Br.f ff_ ?_
  conv => whnf
  refine Br.f ff_ ?_
  conv => whnf
  refine Br.f ff_ ?_
  conv => whnf
  refine Br.f ff_ ?_
  conv => whnf
  refine Br.f ff_ ?_
  conv => whnf
  refine Br.f ff_ ?_
  conv => whnf
  refine Br.f ff_ ?_
  conv => whnf
  refine Br.f ff_ ?_
  conv => whnf
  refine Br.f ff_ ?_
  conv => whnf
  refine Br.f ff_ ?_
  conv => whnf
  refine Br.f ff_ ?_
  conv => whnf
  refine cut_ 536 [(1, .bp 0 0), (4, .int .i64 x4), (95, .bool false)] [(0, .box [(sv_str a0_0), (sv_S_impl_PlantFoe a0_1), (sv_S_impl_PlantPlace a0_2), (sv_S_impl_PlantValve a0_3)])] rfl ⟨.inl rfl, ⟨.inl rfl, ⟨.inl rfl, trivial⟩⟩⟩ ⟨rfl, trivial⟩ ?_
  conv => whnf
  refine Br.f rfl ?_
  conv => whnf
  exact ⟨(k, wrap64 (x4 + 1)), [], ⟨H, lt_⟩, lt_, (fits_of ⟨.inl ⟨rfl, rfl⟩, trivial⟩ trivial fi_ trivial rfl)⟩
  conv => whnf
  refine Br.t ft_ ?_
  conv => whnf
  refine Br.t ft_ ?_
  conv => whnf
  refine Br.t ft_ ?_
  conv => whnf
  refine Br.t ft_ ?_
  conv => whnf
  refine cut_ 536 [(1, .bp 0 0), (4, .int .i64 x4), (95, .bool true)] [(0, .box [(sv_str a0_0), (sv_S_impl_PlantFoe a0_1), (sv_S_impl_PlantPlace a0_2), (sv_S_impl_PlantValve a0_3)])] rfl ⟨.inl rfl, ⟨.inl rfl, ⟨.inl rfl, trivial⟩⟩⟩ ⟨rfl, trivial⟩ ?_
  conv => whnf
  refine Br.t rfl ?_
  conv => whnf
  refine cut_ 544 [(2, .bool false)] [] rfl ⟨.inl rfl, trivial⟩ trivial ?_
  conv => whnf
  injection H with H; subst H
  exact ret_fz [] (rtA_eq rfl)
  conv => whnf
  refine Br.t ft_ ?_
  conv => whnf
  refine Br.t ft_ ?_
  conv => whnf
  refine Br.t ft_ ?_
  conv => whnf
  refine Br.t ft_ ?_
  conv => whnf
  refine Br.t ft_ ?_
  conv => whnf
  refine Br.t ft_ ?_
  conv => whnf
  refine Br.t rfl ?_
  conv => whnf
  refine Br.t rfl ?_
  conv => whnf
  refine Br.t rfl ?_
  conv => whnf
  refine Br.t rfl ?_
  conv => whnf
  refine Br.t rfl ?_
  conv => whnf
  refine cut_ 536 [(1, .bp 0 0), (4, .int .i64 x4), (95, .bool true)] [(0, .box [(sv_str a0_0), (sv_S_impl_PlantFoe a0_1), (sv_S_impl_PlantPlace a0_2), (sv_S_impl_PlantValve a0_3)])] rfl ⟨.inl rfl, ⟨.inl rfl, ⟨.inl rfl, trivial⟩⟩⟩ ⟨rfl, trivial⟩ ?_
  conv => whnf
  refine Br.t rfl ?_
  conv => whnf
  refine cut_ 544 [(2, .bool false)] [] rfl ⟨.inl rfl, trivial⟩ trivial ?_
  conv => whnf
  injection H with H; subst H
  exact ret_fz [] (rtA_eq rfl)
  conv => whnf
  refine Br.t ft_ ?_
  conv => whnf
  refine Br.t ft_ ?_
  conv => whnf
  refine Br.t ft_ ?_
  conv => whnf
  refine Br.t ft_ ?_
  conv => whnf
  refine Br.t ft_ ?_
  conv => whnf
  refine Br.t ft_ ?_
  conv => whnf
  refine Br.t rfl ?_
  conv => whnf
  refine Br.t rfl ?_
  conv => whnf
  refine Br.t rfl ?_
  conv => whnf
  refine Br.t rfl ?_
  conv => whnf
  refine Br.t rfl ?_
  conv => whnf
  refine Br.t rfl ?_
  conv => whnf
  refine Br.t rfl ?_
  conv => whnf
  refine Br.t rfl ?_
  conv => whnf
  refine Br.t rfl ?_
  conv => whnf
  refine Br.t rfl ?_
  conv => whnf
  refine Br.t rfl ?_
  conv => whnf
  refine Br.t rfl ?_
  conv => whnf
  refine cut_ 536 [(1, .bp 0 0), (4, .int .i64 x4), (95, .bool true)] [(0, .box [(sv_str a0_0), (sv_S_impl_PlantFoe a0_1), (sv_S_impl_PlantPlace a0_2), (sv_S_impl_PlantValve a0_3)])] rfl ⟨.inl rfl, ⟨.inl rfl, ⟨.inl rfl, trivial⟩⟩⟩ ⟨rfl, trivial⟩ ?_
  conv => whnf
  refine Br.t rfl ?_
  conv => whnf
  refine cut_ 544 [(2, .bool false)] [] rfl ⟨.inl rfl, trivial⟩ trivial ?_
  conv => whnf
  injection H with H; subst H
  exact ret_fz [] (rtA_eq rfl)
  conv => whnf
  injection H with H; subst H
  exact ret_fz [] (rtA_eq rfl)
theorem spec_l2PlacesOk.l0_lp {F : (Exit → St → Prop) → St → Prop} {hv : List Tmp} {Q : Exit → St → Prop} {σ : St} {r : Bool} {k : Nat} {a0_2 : List S_impl_PlantPlace} {x3 : Int} (H : spec_l2PlacesOk.l0 k a0_2 x3 = some r) (rn : List (Option Nat)) (h1 : Fits σ σ [] [(3, .int .i64 x3)] [] [] rn)
    (h2 : ∀ (k0 : Nat) (x3 : Int), k0 < k + 1 → spec_l2PlacesOk.l0 k0 a0_2 x3 = some r → headN σ hv [] [(3, .int .i64 x3)] [] [] (F (fun e σ' => match e with | .normal => ∃ (y : Nat × Int) (rn : List (Option Nat)), (spec_l2PlacesOk.l0 y.1 a0_2 y.2 = some r ∧ y.1 < k + 1) ∧ y.1 < k0 ∧ Fits σ σ' [] [(3, .int .i64 y.2)] [] [] rn | e => Q e σ'))) : Lp F hv Q σ := by
  unfold Lp
  refine ⟨Nat × Int, fun x => spec_l2PlacesOk.l0 x.1 a0_2 x.2 = some r ∧ x.1 < k + 1, fun x => x.1, [], fun x => [(3, .int .i64 x.2)], fun x => [], fun x => [], ⟨(k, x3), rn, ⟨H, Nat.lt_succ_self _⟩, h1⟩, ?_⟩
  rintro ⟨k, x3⟩ ⟨H, hk⟩
  exact h2 k x3 hk H
theorem spec_l2PlacesOk.ac {k : Nat} {a0_0 : List ByteArray} {a0_1 : List S_impl_PlantFoe} {a0_2 : List S_impl_PlantPlace} {a0_3 : List S_impl_PlantValve} {r : Bool} (H : spec_l2PlacesOk.f k a0_0 a0_1 a0_2 a0_3 = some r) : ACalls Try.prog G 146 [] [.agg [(sv_str a0_0), (sv_S_impl_PlantFoe a0_1), (sv_S_impl_PlantPlace a0_2), (sv_S_impl_PlantValve a0_3)]] [] (.bool r) := by
  refine acalls_of tok hP Try.func146 rfl (by kernel_rfl) [.tmp 2] rfl (by kernel_rfl) (Nat.le_of_ble_eq_true rfl) (.l .n (.l .n (.l (.l .n (.l (.c .n .n) (.l (.l .n (.c .n (.l (.c .n .n) .n))) .n))) .n))) rfl ?_
  unfold spec_l2PlacesOk.f at H
  conv => whnf
  refine br_d H (fun c H => ?_) (fun c H => ?_)
  conv => whnf
  injection H with H; subst H
  exact ret_fz [] (rtA_eq rfl)
  conv => whnf
  refine spec_l2PlacesOk.l0_lp (a0_2 := a0_2) (k := k) H [] (fits_of ⟨.inl ⟨rfl, rfl⟩, trivial⟩ trivial fi_ trivial rfl) ?_
  intro k x3 hk H; rcases k with _ | k; exact none_elim H; rw [spec_l2PlacesOk.l0] at H; conv => whnf
  refine cut_ 96 [(1, .bp 0 0), (3, .int .i64 x3), (13, .bool (decide (x3 < (a0_2.length : Int))))] [(0, .box [(sv_str a0_0), (sv_S_impl_PlantFoe a0_1), (sv_S_impl_PlantPlace a0_2), (sv_S_impl_PlantValve a0_3)])] rfl ⟨.inl rfl, ⟨.inl rfl, ⟨.inl rfl, trivial⟩⟩⟩ ⟨rfl, trivial⟩ ?_
  conv => whnf
  refine br_d H (fun c H => ?_) (fun c H => ?_)
  conv => whnf
  refine nd_ H (fun c H => ?_)
  conv => whnf
  refine Nd.mk nf_ ?_
  conv => whnf
  refine El.mk (rdm_en_S_impl_PlantPlace _ _ nf_ nf_) ?_
  conv => whnf
  revert H; refine bind_elim (fun t9630 A H => ?_)
  refine call_mk (spec_l2NameOk.ac A) (avAL_cons (avA_shut' rfl) (avAL_nil)) (Or.inl rfl) rfl rfl (Nat.le_of_ble_eq_true rfl) ?_
  conv => whnf
  refine br_nt H (fun c H => ?_) (fun c H => ?_)
  conv => whnf
  refine Br.f ff_ ?_
  conv => whnf
  refine Br.f ff_ ?_
  conv => whnf
  refine br_d H (fun c H => ?_) (fun c H => ?_)
  conv => whnf
  refine Br.t ft_ ?_
  conv => whnf
  refine Br.t ft_ ?_
  conv => whnf
  refine Br.t ft_ ?_
  conv => whnf
  refine Br.t ft_ ?_
  conv => whnf
  refine nd_ H (fun c H => ?_)
  conv => whnf
  refine nd_ H (fun c H => ?_)
  conv => whnf
  refine El.mk (rdm_en_S_impl_PlantPlace _ _ nf_ nf_) ?_
  conv => whnf
  refine Br.t ft_ ?_
  conv => whnf
  refine Br.t ft_ ?_
  conv => whnf
  refine Br.t ft_ ?_
  conv => whnf
  refine Br.t ft_ ?_
  conv => whnf
  refine Br.t ft_ ?_
  conv => whnf
  refine Br.f ff_ ?_
  conv => whnf
  refine Br.t ft_ ?_
  conv => whnf
  refine Br.f ff_ ?_
  conv => whnf
  refine br_nt H (fun c H => ?_) (fun c H => ?_)
  conv => whnf
  refine Br.f ff_ ?_
  conv => whnf
  refine Br.f ff_ ?_
  conv => whnf
  revert H; refine bind_elim (fun t9631 A H => ?_)
  refine call_mk (spec_l1In.ac A) (avAL_cons (avA_shut' rfl) (avAL_cons (avA_shut' rfl) (avAL_cons (avA_shut' rfl) (avAL_nil)))) (Or.inl rfl) rfl rfl (Nat.le_of_ble_eq_true rfl) ?_
  conv => whnf
  refine Br.f ff_ ?_
  conv => whnf
  refine Br.f ff_ ?_
  conv => whnf
  refine br_nt H (fun c H => ?_) (fun c H => ?_)
  conv => whnf
  refine Br.f ff_ ?_
  conv => whnf
  refine Br.f ff_ ?_
  conv => whnf
  revert H; refine bind_elim (fun t9632 A H => ?_)
  refine call_mk (spec_l2NameOk.ac A) (avAL_cons (avA_shut' rfl) (avAL_nil)) (Or.inl rfl) rfl rfl (Nat.le_of_ble_eq_true rfl) ?_
  conv => whnf
  refine Br.f ff_ ?_
  conv => whnf
  refine Br.f ff_ ?_
  conv => whnf
  refine cut_ 408 [(1, .bp 0 0), (3, .int .i64 x3), (52, .bool (!t9632))] [(0, .box [(sv_str a0_0), (sv_S_impl_PlantFoe a0_1), (sv_S_impl_PlantPlace a0_2), (sv_S_impl_PlantValve a0_3)])] rfl ⟨.inl rfl, ⟨.inl rfl, ⟨.inl rfl, trivial⟩⟩⟩ ⟨rfl, trivial⟩ ?_
  conv => whnf
  refine br_nt H (fun c H => ?_) (fun c H => ?_)
  conv => whnf
  exact ⟨(k, wrap64 (x3 + 1)), [], ⟨H, lt_⟩, lt_, (fits_of ⟨.inl ⟨rfl, rfl⟩, trivial⟩ trivial fi_ trivial rfl)⟩
  conv => whnf
  refine cut_ 416 [(2, .bool false)] [] rfl ⟨.inl rfl, trivial⟩ trivial ?_
  conv => whnf
  injection H with H; subst H
  exact ret_fz [] (rtA_eq rfl)
  conv => whnf
  refine Br.t ft_ ?_
  conv => whnf
  refine Br.t ft_ ?_
  conv => whnf
  refine Br.t ft_ ?_
  conv => whnf
  refine Br.t ft_ ?_
  conv => whnf
  refine cut_ 408 [(1, .bp 0 0), (3, .int .i64 x3), (52, .bool true)] [(0, .box [(sv_str a0_0), (sv_S_impl_PlantFoe a0_1), (sv_S_impl_PlantPlace a0_2), (sv_S_impl_PlantValve a0_3)])] rfl ⟨.inl rfl, ⟨.inl rfl, ⟨.inl rfl, trivial⟩⟩⟩ ⟨rfl, trivial⟩ ?_
  conv => whnf
  refine Br.t rfl ?_
  conv => whnf
  refine cut_ 416 [(2, .bool false)] [] rfl ⟨.inl rfl, trivial⟩ trivial ?_
  conv => whnf
  injection H with H; subst H
  exact ret_fz [] (rtA_eq rfl)
  conv => whnf
  refine Br.t ft_ ?_
  conv => whnf
  refine Br.t ft_ ?_
  conv => whnf
  refine Br.t ft_ ?_
  conv => whnf
  refine Br.t ft_ ?_
  conv => whnf
  refine Br.t rfl ?_
  conv => whnf
  refine Br.t rfl ?_
  conv => whnf
  refine Br.t rfl ?_
  conv => whnf
  refine Br.t rfl ?_
  conv => whnf
  refine Br.t rfl ?_
  conv => whnf
  refine cut_ 408 [(1, .bp 0 0), (3, .int .i64 x3), (52, .bool true)] [(0, .box [(sv_str a0_0), (sv_S_impl_PlantFoe a0_1), (sv_S_impl_PlantPlace a0_2), (sv_S_impl_PlantValve a0_3)])] rfl ⟨.inl rfl, ⟨.inl rfl, ⟨.inl rfl, trivial⟩⟩⟩ ⟨rfl, trivial⟩ ?_
  conv => whnf
  refine Br.t rfl ?_
  conv => whnf
  refine cut_ 416 [(2, .bool false)] [] rfl ⟨.inl rfl, trivial⟩ trivial ?_
  conv => whnf
  injection H with H; subst H
  exact ret_fz [] (rtA_eq rfl)
  conv => whnf
  refine Br.f ff_ ?_
  conv => whnf
  refine Br.f ff_ ?_
  conv => whnf
  refine Br.f ff_ ?_
  conv => whnf
  refine Br.f ff_ ?_
  conv => whnf
  refine Br.f ff_ ?_
  conv => whnf
  refine Br.f ff_ ?_
  conv => whnf
  refine Br.f ff_ ?_
  conv => whnf
  refine Br.f ff_ ?_
  conv => whnf
  refine Br.f ff_ ?_
  conv => whnf
  refine Br.f ff_ ?_
  conv => whnf
  refine Br.f ff_ ?_
  conv => whnf
  refine Br.f ff_ ?_
  conv => whnf
  refine Br.f rfl ?_
  conv => whnf
  refine Br.f rfl ?_
  conv => whnf
  refine Br.f rfl ?_
  conv => whnf
  revert H; refine bind_elim (fun t9633 A H => ?_)
  refine call_mk (spec_l1In.ac A) (avAL_cons (avA_shut' rfl) (avAL_cons (avA_shut' rfl) (avAL_cons (avA_shut' rfl) (avAL_nil)))) (Or.inl rfl) rfl rfl (Nat.le_of_ble_eq_true rfl) ?_
  conv => whnf
  refine Br.f rfl ?_
  conv => whnf
  refine Br.f rfl ?_
  conv => whnf
  refine br_nt H (fun c H => ?_) (fun c H => ?_)
  conv => whnf
  refine Br.f ff_ ?_
  conv => whnf
  refine Br.f ff_ ?_
  conv => whnf
  revert H; refine bind_elim (fun t9634 A H => ?_)
  refine call_mk (spec_l2NameOk.ac A) (avAL_cons (avA_shut' rfl) (avAL_nil)) (Or.inl rfl) rfl rfl (Nat.le_of_ble_eq_true rfl) ?_
  conv => whnf
  refine Br.f ff_ ?_
  conv => whnf
  refine Br.f ff_ ?_
  conv => whnf
  refine cut_ 408 [(1, .bp 0 0), (3, .int .i64 x3), (52, .bool (!t9634))] [(0, .box [(sv_str a0_0), (sv_S_impl_PlantFoe a0_1), (sv_S_impl_PlantPlace a0_2), (sv_S_impl_PlantValve a0_3)])] rfl ⟨.inl rfl, ⟨.inl rfl, ⟨.inl rfl, trivial⟩⟩⟩ ⟨rfl, trivial⟩ ?_
  conv => whnf
  refine br_nt H (fun c H => ?_) (fun c H => ?_)
  conv => whnf
  exact ⟨(k, wrap64 (x3 + 1)), [], ⟨H, lt_⟩, lt_, (fits_of ⟨.inl ⟨rfl, rfl⟩, trivial⟩ trivial fi_ trivial rfl)⟩
  conv => whnf
  refine cut_ 416 [(2, .bool false)] [] rfl ⟨.inl rfl, trivial⟩ trivial ?_
  conv => whnf
  injection H with H; subst H
  exact ret_fz [] (rtA_eq rfl)
  conv => whnf
  refine Br.t ft_ ?_
  conv => whnf
  refine Br.t ft_ ?_
  conv => whnf
  refine Br.t ft_ ?_
  conv => whnf
  refine Br.t ft_ ?_
  conv => whnf
  refine cut_ 408 [(1, .bp 0 0), (3, .int .i64 x3), (52, .bool true)] [(0, .box [(sv_str a0_0), (sv_S_impl_PlantFoe a0_1), (sv_S_impl_PlantPlace a0_2), (sv_S_impl_PlantValve a0_3)])] rfl ⟨.inl rfl, ⟨.inl rfl, ⟨.inl rfl, trivial⟩⟩⟩ ⟨rfl, trivial⟩ ?_
  conv => whnf
  refine Br.t rfl ?_
  conv => whnf
  refine cut_ 416 [(2, .bool false)] [] rfl ⟨.inl rfl, trivial⟩ trivial ?_
  conv => whnf
  injection H with H; subst H
  exact ret_fz [] (rtA_eq rfl)
  conv => whnf
  refine Br.t ft_ ?_
  conv => whnf
  refine Br.t ft_ ?_
  conv => whnf
  refine Br.t ft_ ?_
  conv => whnf
  refine Br.t ft_ ?_
  conv => whnf
  refine Br.t rfl ?_
  conv => whnf
  refine Br.t rfl ?_
  conv => whnf
  refine Br.t rfl ?_
  conv => whnf
  refine Br.t rfl ?_
  conv => whnf
  refine Br.t rfl ?_
  conv => whnf
  refine Br.t rfl ?_
  conv => whnf
  refine Br.t rfl ?_
  conv => whnf
  refine Br.t rfl ?_
  conv => whnf
  refine Br.t rfl ?_
  conv => whnf
  refine Br.t rfl ?_
  conv => whnf
  refine cut_ 408 [(1, .bp 0 0), (3, .int .i64 x3), (52, .bool true)] [(0, .box [(sv_str a0_0), (sv_S_impl_PlantFoe a0_1), (sv_S_impl_PlantPlace a0_2), (sv_S_impl_PlantValve a0_3)])] rfl ⟨.inl rfl, ⟨.inl rfl, ⟨.inl rfl, trivial⟩⟩⟩ ⟨rfl, trivial⟩ ?_
  conv => whnf
  refine Br.t rfl ?_
  conv => whnf
  refine cut_ 416 [(2, .bool false)] [] rfl ⟨.inl rfl, trivial⟩ trivial ?_
  conv => whnf
  injection H with H; subst H
  exact ret_fz [] (rtA_eq rfl)
  conv => whnf
  injection H with H; subst H
  exact ret_fz [] (rtA_eq rfl)
theorem spec_l2ValvesOk.l0_lp {F : (Exit → St → Prop) → St → Prop} {hv : List Tmp} {Q : Exit → St → Prop} {σ : St} {r : Bool} {k : Nat} {a0_0 : List ByteArray} {a0_1 : List S_impl_PlantFoe} {a0_2 : List S_impl_PlantPlace} {a0_3 : List S_impl_PlantValve} {x3 : Int} (H : spec_l2ValvesOk.l0 k a0_0 a0_1 a0_2 a0_3 x3 = some r) (rn : List (Option Nat)) (h1 : Fits σ σ [] [(3, .int .i64 x3)] [] [] rn)
    (h2 : ∀ (k0 : Nat) (x3 : Int), k0 < k + 1 → spec_l2ValvesOk.l0 k0 a0_0 a0_1 a0_2 a0_3 x3 = some r → headN σ hv [] [(3, .int .i64 x3)] [] [] (F (fun e σ' => match e with | .normal => ∃ (y : Nat × Int) (rn : List (Option Nat)), (spec_l2ValvesOk.l0 y.1 a0_0 a0_1 a0_2 a0_3 y.2 = some r ∧ y.1 < k + 1) ∧ y.1 < k0 ∧ Fits σ σ' [] [(3, .int .i64 y.2)] [] [] rn | e => Q e σ'))) : Lp F hv Q σ := by
  unfold Lp
  refine ⟨Nat × Int, fun x => spec_l2ValvesOk.l0 x.1 a0_0 a0_1 a0_2 a0_3 x.2 = some r ∧ x.1 < k + 1, fun x => x.1, [], fun x => [(3, .int .i64 x.2)], fun x => [], fun x => [], ⟨(k, x3), rn, ⟨H, Nat.lt_succ_self _⟩, h1⟩, ?_⟩
  rintro ⟨k, x3⟩ ⟨H, hk⟩
  exact h2 k x3 hk H
theorem spec_l2ValvesOk.ac {k : Nat} {a0_0 : List ByteArray} {a0_1 : List S_impl_PlantFoe} {a0_2 : List S_impl_PlantPlace} {a0_3 : List S_impl_PlantValve} {r : Bool} (H : spec_l2ValvesOk.f k a0_0 a0_1 a0_2 a0_3 = some r) : ACalls Try.prog G 147 [] [.agg [(sv_str a0_0), (sv_S_impl_PlantFoe a0_1), (sv_S_impl_PlantPlace a0_2), (sv_S_impl_PlantValve a0_3)]] [] (.bool r) := by
  refine acalls_of tok hP Try.func147 rfl (by kernel_rfl) [.tmp 2] rfl (by kernel_rfl) (Nat.le_of_ble_eq_true rfl) (.l .n (.l .n (.l (.l .n (.l (.c .n .n) (.l (.l .n (.c .n (.l (.c .n .n) .n))) .n))) .n))) rfl ?_
  unfold spec_l2ValvesOk.f at H
  conv => whnf
  refine br_d H (fun c H => ?_) (fun c H => ?_)
  conv => whnf
  injection H with H; subst H
  exact ret_fz [] (rtA_eq rfl)
  conv => whnf
  refine spec_l2ValvesOk.l0_lp (a0_0 := a0_0) (a0_1 := a0_1) (a0_2 := a0_2) (a0_3 := a0_3) (k := k) H [] (fits_of ⟨.inl ⟨rfl, rfl⟩, trivial⟩ trivial fi_ trivial rfl) ?_
  intro k x3 hk H; rcases k with _ | k; exact none_elim H; rw [spec_l2ValvesOk.l0] at H; conv => whnf
  refine cut_ 96 [(1, .bp 0 0), (3, .int .i64 x3), (13, .bool (decide (x3 < (a0_3.length : Int))))] [(0, .box [(sv_str a0_0), (sv_S_impl_PlantFoe a0_1), (sv_S_impl_PlantPlace a0_2), (sv_S_impl_PlantValve a0_3)])] rfl ⟨.inl rfl, ⟨.inl rfl, ⟨.inl rfl, trivial⟩⟩⟩ ⟨rfl, trivial⟩ ?_
  conv => whnf
  refine br_d H (fun c H => ?_) (fun c H => ?_)
  conv => whnf
  refine nd_ H (fun c H => ?_)
  conv => whnf
  refine Nd.mk nf_ ?_
  conv => whnf
  refine El.mk (rdm_en_S_impl_PlantValve _ _ nf_ nf_) ?_
  conv => whnf
  revert H; refine bind_elim (fun t9680 A H => ?_)
  refine call_mk (spec_l2NameOk.ac A) (avAL_cons (avA_shut' rfl) (avAL_nil)) (Or.inl rfl) rfl rfl (Nat.le_of_ble_eq_true rfl) ?_
  conv => whnf
  refine br_nt H (fun c H => ?_) (fun c H => ?_)
  conv => whnf
  refine Br.f ff_ ?_
  conv => whnf
  refine Br.f ff_ ?_
  conv => whnf
  refine br_d H (fun c H => ?_) (fun c H => ?_)
  conv => whnf
  refine Br.t ft_ ?_
  conv => whnf
  refine Br.t ft_ ?_
  conv => whnf
  refine Br.t ft_ ?_
  conv => whnf
  refine Br.t ft_ ?_
  conv => whnf
  refine nd_ H (fun c H => ?_)
  conv => whnf
  refine nd_ H (fun c H => ?_)
  conv => whnf
  refine El.mk (rdm_en_S_impl_PlantValve _ _ nf_ nf_) ?_
  conv => whnf
  refine Br.t ft_ ?_
  conv => whnf
  refine Br.t ft_ ?_
  conv => whnf
  refine Br.t ft_ ?_
  conv => whnf
  refine Br.t ft_ ?_
  conv => whnf
  refine Br.t ft_ ?_
  conv => whnf
  refine Br.f ff_ ?_
  conv => whnf
  refine Br.t ft_ ?_
  conv => whnf
  refine Br.f ff_ ?_
  conv => whnf
  refine br_nt H (fun c H => ?_) (fun c H => ?_)
  conv => whnf
  refine Br.f ff_ ?_
  conv => whnf
  refine Br.f ff_ ?_
  conv => whnf
  refine Br.f ff_ ?_
  conv => whnf
  refine Br.f ff_ ?_
  conv => whnf
  refine Br.f ff_ ?_
  conv => whnf
  refine br_nt H (fun c H => ?_) (fun c H => ?_)
  conv => whnf
  refine Br.f ff_ ?_
  conv => whnf
  refine Br.f ff_ ?_
  conv => whnf
  refine Br.f ff_ ?_
  conv => whnf
  revert H; refine bind_elim (fun t9681 A H => ?_)
  refine call_mk (spec_l2Place.ac A) (avAL_cons (avA_agg (avL_cons (av_shut' rfl) (avL_cons (av_shut' rfl) (avL_cons (av_shut' rfl) (avL_cons (av_shut' rfl) (avL_nil)))))) (avAL_cons (avA_shut' rfl) (avAL_nil))) (Or.inl rfl) rfl rfl (Nat.le_of_ble_eq_true rfl) ?_
  conv => whnf
  refine Br.f ff_ ?_
  conv => whnf
  refine Br.f ff_ ?_
  conv => whnf
  refine br_d H (fun c H => ?_) (fun c H => ?_)
  conv => whnf
  refine Br.t ft_ ?_
  conv => whnf
  refine Br.t ft_ ?_
  conv => whnf
  refine Br.t ft_ ?_
  conv => whnf
  refine Br.t ft_ ?_
  conv => whnf
  refine Br.t ft_ ?_
  conv => whnf
  refine Br.t rfl ?_
  conv => whnf
  refine Br.t rfl ?_
  conv => whnf
  refine Br.t rfl ?_
  conv => whnf
  refine Br.t rfl ?_
  conv => whnf
  refine Br.t rfl ?_
  conv => whnf
  refine cut_ 528 [(1, .bp 0 0), (3, .int .i64 x3), (67, .bool true)] [(0, .box [(sv_str a0_0), (sv_S_impl_PlantFoe a0_1), (sv_S_impl_PlantPlace a0_2), (sv_S_impl_PlantValve a0_3)])] rfl ⟨.inl rfl, ⟨.inl rfl, ⟨.inl rfl, trivial⟩⟩⟩ ⟨rfl, trivial⟩ ?_
  conv => whnf
  refine Br.t rfl ?_
  conv => whnf
  refine cut_ 536 [(2, .bool false)] [] rfl ⟨.inl rfl, trivial⟩ trivial ?_
  conv => whnf
  injection H with H; subst H
  exact ret_fz [] (rtA_eq rfl)
  conv => whnf
  refine Br.f ff_ ?_
  conv => whnf
  refine Br.f ff_ ?_
  conv => whnf
  refine Br.f ff_ ?_
  conv => whnf
  revert H; refine bind_elim (fun t9682 A H => ?_)
  refine call_mk (spec_l2Place.ac A) (avAL_cons (avA_agg (avL_cons (av_shut' rfl) (avL_cons (av_shut' rfl) (avL_cons (av_shut' rfl) (avL_cons (av_shut' rfl) (avL_nil)))))) (avAL_cons (avA_shut' rfl) (avAL_nil))) (Or.inl rfl) rfl rfl (Nat.le_of_ble_eq_true rfl) ?_
  conv => whnf
  refine Br.f ff_ ?_
  conv => whnf
  refine Br.f ff_ ?_
  conv => whnf
  refine br_d H (fun c H => ?_) (fun c H => ?_)
  conv => whnf
  refine Br.t ft_ ?_
  conv => whnf
  refine Br.t ft_ ?_
  conv => whnf
  refine Br.t ft_ ?_
  conv => whnf
  refine Br.t ft_ ?_
  conv => whnf
  refine cut_ 528 [(1, .bp 0 0), (3, .int .i64 x3), (67, .bool true)] [(0, .box [(sv_str a0_0), (sv_S_impl_PlantFoe a0_1), (sv_S_impl_PlantPlace a0_2), (sv_S_impl_PlantValve a0_3)])] rfl ⟨.inl rfl, ⟨.inl rfl, ⟨.inl rfl, trivial⟩⟩⟩ ⟨rfl, trivial⟩ ?_
  conv => whnf
  refine Br.t rfl ?_
  conv => whnf
  refine cut_ 536 [(2, .bool false)] [] rfl ⟨.inl rfl, trivial⟩ trivial ?_
  conv => whnf
  injection H with H; subst H
  exact ret_fz [] (rtA_eq rfl)
  conv => whnf
  refine Br.f ff_ ?_
  conv => whnf
  refine Br.f ff_ ?_
  conv => whnf
  revert H; refine bind_elim (fun t9683 A H => ?_)
  refine call_mk (spec_l2NameOk.ac A) (avAL_cons (avA_shut' rfl) (avAL_nil)) (Or.inl rfl) rfl rfl (Nat.le_of_ble_eq_true rfl) ?_
  conv => whnf
  refine Br.f ff_ ?_
  conv => whnf
  refine Br.f ff_ ?_
  conv => whnf
  refine cut_ 528 [(1, .bp 0 0), (3, .int .i64 x3), (67, .bool (!t9683))] [(0, .box [(sv_str a0_0), (sv_S_impl_PlantFoe a0_1), (sv_S_impl_PlantPlace a0_2), (sv_S_impl_PlantValve a0_3)])] rfl ⟨.inl rfl, ⟨.inl rfl, ⟨.inl rfl, trivial⟩⟩⟩ ⟨rfl, trivial⟩ ?_
  conv => whnf
  refine br_nt H (fun c H => ?_) (fun c H => ?_)
  conv => whnf
  exact ⟨(k, wrap64 (x3 + 1)), [], ⟨H, lt_⟩, lt_, (fits_of ⟨.inl ⟨rfl, rfl⟩, trivial⟩ trivial fi_ trivial rfl)⟩
  conv => whnf
  refine cut_ 536 [(2, .bool false)] [] rfl ⟨.inl rfl, trivial⟩ trivial ?_
  conv => whnf
  injection H with H; subst H
  exact ret_fz [] (rtA_eq rfl)
  conv => whnf
  refine Br.t ft_ ?_
  conv => whnf
  refine Br.t ft_ ?_
  conv => whnf
  refine Br.t ft_ ?_
  conv => whnf
  refine Br.t ft_ ?_
  conv => whnf
  refine Br.t ft_ ?_
  conv => whnf
  refine Br.t rfl ?_
  conv => whnf
  refine Br.t rfl ?_
  conv => whnf
  refine Br.t rfl ?_
  conv => whnf
  refine Br.t rfl ?_
  conv => whnf
  refine Br.t rfl ?_
  conv => whnf
  refine Br.t rfl ?_
  conv => whnf
  refine Br.t rfl ?_
  conv => whnf
  refine Br.t rfl ?_
  conv => whnf
  refine Br.t rfl ?_
  conv => whnf
  refine Br.t rfl ?_
  conv => whnf
  refine Br.t rfl ?_
  conv => whnf
  refine cut_ 528 [(1, .bp 0 0), (3, .int .i64 x3), (67, .bool true)] [(0, .box [(sv_str a0_0), (sv_S_impl_PlantFoe a0_1), (sv_S_impl_PlantPlace a0_2), (sv_S_impl_PlantValve a0_3)])] rfl ⟨.inl rfl, ⟨.inl rfl, ⟨.inl rfl, trivial⟩⟩⟩ ⟨rfl, trivial⟩ ?_
  conv => whnf
  refine Br.t rfl ?_
  conv => whnf
  refine cut_ 536 [(2, .bool false)] [] rfl ⟨.inl rfl, trivial⟩ trivial ?_
  conv => whnf
  injection H with H; subst H
  exact ret_fz [] (rtA_eq rfl)
  conv => whnf
  refine Br.t ft_ ?_
  conv => whnf
  refine Br.t ft_ ?_
  conv => whnf
  refine Br.t ft_ ?_
  conv => whnf
  refine Br.t ft_ ?_
  conv => whnf
  refine Br.t ft_ ?_
  conv => whnf
  refine Br.t rfl ?_
  conv => whnf
  refine Br.t rfl ?_
  conv => whnf
  refine Br.t rfl ?_
  conv => whnf
  refine Br.t rfl ?_
  conv => whnf
  refine Br.t rfl ?_
  conv => whnf
  refine Br.t rfl ?_
  conv => whnf
  refine Br.t rfl ?_
  conv => whnf
  refine Br.t rfl ?_
  conv => whnf
  refine Br.t rfl ?_
  conv => whnf
  refine Br.t rfl ?_
  conv => whnf
  refine Br.t rfl ?_
  conv => whnf
  refine Br.t rfl ?_
  conv => whnf
  refine Br.t rfl ?_
  conv => whnf
  refine Br.t rfl ?_
  conv => whnf
  refine Br.t rfl ?_
  conv => whnf
  refine Br.t rfl ?_
  conv => whnf
  refine Br.t rfl ?_
  conv => whnf
  refine cut_ 528 [(1, .bp 0 0), (3, .int .i64 x3), (67, .bool true)] [(0, .box [(sv_str a0_0), (sv_S_impl_PlantFoe a0_1), (sv_S_impl_PlantPlace a0_2), (sv_S_impl_PlantValve a0_3)])] rfl ⟨.inl rfl, ⟨.inl rfl, ⟨.inl rfl, trivial⟩⟩⟩ ⟨rfl, trivial⟩ ?_
  conv => whnf
  refine Br.t rfl ?_
  conv => whnf
  refine cut_ 536 [(2, .bool false)] [] rfl ⟨.inl rfl, trivial⟩ trivial ?_
  conv => whnf
  injection H with H; subst H
  exact ret_fz [] (rtA_eq rfl)
  conv => whnf
  refine Br.f ff_ ?_
  conv => whnf
  refine Br.f ff_ ?_
  conv => whnf
  refine Br.f ff_ ?_
  conv => whnf
  refine Br.f ff_ ?_
  conv => whnf
  refine Br.f ff_ ?_
  conv => whnf
  refine Br.f ff_ ?_
  conv => whnf
  refine Br.f ff_ ?_
  conv => whnf
  refine Br.f ff_ ?_
  conv => whnf
  refine Br.f ff_ ?_
  conv => whnf
  refine Br.f ff_ ?_
  conv => whnf
  refine Br.f ff_ ?_
  conv => whnf
  refine Br.f ff_ ?_
  conv => whnf
  refine Br.f rfl ?_
  conv => whnf
  refine Br.f rfl ?_
  conv => whnf
  refine Br.f rfl ?_
  conv => whnf
  refine Br.f rfl ?_
  conv => whnf
  refine Br.f rfl ?_
  conv => whnf
  refine Br.f rfl ?_
  conv => whnf
  refine br_nt H (fun c H => ?_) (fun c H => ?_)
  conv => whnf
  refine Br.f ff_ ?_
  conv => whnf
  refine Br.f ff_ ?_
  conv => whnf
  refine Br.f ff_ ?_
  conv => whnf
  revert H; refine bind_elim (fun t9684 A H => ?_)
  refine call_mk (spec_l2Place.ac A) (avAL_cons (avA_agg (avL_cons (av_shut' rfl) (avL_cons (av_shut' rfl) (avL_cons (av_shut' rfl) (avL_cons (av_shut' rfl) (avL_nil)))))) (avAL_cons (avA_shut' rfl) (avAL_nil))) (Or.inl rfl) rfl rfl (Nat.le_of_ble_eq_true rfl) ?_
  conv => whnf
  refine Br.f ff_ ?_
  conv => whnf
  refine Br.f ff_ ?_
  conv => whnf
  refine br_d H (fun c H => ?_) (fun c H => ?_)
  conv => whnf
  refine Br.t ft_ ?_
  conv => whnf
  refine Br.t ft_ ?_
  conv => whnf
  refine Br.t ft_ ?_
  conv => whnf
  refine Br.t ft_ ?_
  conv => whnf
  refine Br.t ft_ ?_
  conv => whnf
  refine Br.t rfl ?_
  conv => whnf
  refine Br.t rfl ?_
  conv => whnf
  refine Br.t rfl ?_
  conv => whnf
  refine Br.t rfl ?_
  conv => whnf
  refine Br.t rfl ?_
  conv => whnf
  refine cut_ 528 [(1, .bp 0 0), (3, .int .i64 x3), (67, .bool true)] [(0, .box [(sv_str a0_0), (sv_S_impl_PlantFoe a0_1), (sv_S_impl_PlantPlace a0_2), (sv_S_impl_PlantValve a0_3)])] rfl ⟨.inl rfl, ⟨.inl rfl, ⟨.inl rfl, trivial⟩⟩⟩ ⟨rfl, trivial⟩ ?_
  conv => whnf
  refine Br.t rfl ?_
  conv => whnf
  refine cut_ 536 [(2, .bool false)] [] rfl ⟨.inl rfl, trivial⟩ trivial ?_
  conv => whnf
  injection H with H; subst H
  exact ret_fz [] (rtA_eq rfl)
  conv => whnf
  refine Br.f ff_ ?_
  conv => whnf
  refine Br.f ff_ ?_
  conv => whnf
  refine Br.f ff_ ?_
  conv => whnf
  revert H; refine bind_elim (fun t9685 A H => ?_)
  refine call_mk (spec_l2Place.ac A) (avAL_cons (avA_agg (avL_cons (av_shut' rfl) (avL_cons (av_shut' rfl) (avL_cons (av_shut' rfl) (avL_cons (av_shut' rfl) (avL_nil)))))) (avAL_cons (avA_shut' rfl) (avAL_nil))) (Or.inl rfl) rfl rfl (Nat.le_of_ble_eq_true rfl) ?_
  conv => whnf
  refine Br.f ff_ ?_
  conv => whnf
  refine Br.f ff_ ?_
  conv => whnf
  refine br_d H (fun c H => ?_) (fun c H => ?_)
  conv => whnf
  refine Br.t ft_ ?_
  conv => whnf
  refine Br.t ft_ ?_
  conv => whnf
  refine Br.t ft_ ?_
  conv => whnf
  refine Br.t ft_ ?_
  conv => whnf
  refine cut_ 528 [(1, .bp 0 0), (3, .int .i64 x3), (67, .bool true)] [(0, .box [(sv_str a0_0), (sv_S_impl_PlantFoe a0_1), (sv_S_impl_PlantPlace a0_2), (sv_S_impl_PlantValve a0_3)])] rfl ⟨.inl rfl, ⟨.inl rfl, ⟨.inl rfl, trivial⟩⟩⟩ ⟨rfl, trivial⟩ ?_
  conv => whnf
  refine Br.t rfl ?_
  conv => whnf
  refine cut_ 536 [(2, .bool false)] [] rfl ⟨.inl rfl, trivial⟩ trivial ?_
  conv => whnf
  injection H with H; subst H
  exact ret_fz [] (rtA_eq rfl)
  conv => whnf
  refine Br.f ff_ ?_
  conv => whnf
  refine Br.f ff_ ?_
  conv => whnf
  revert H; refine bind_elim (fun t9686 A H => ?_)
  refine call_mk (spec_l2NameOk.ac A) (avAL_cons (avA_shut' rfl) (avAL_nil)) (Or.inl rfl) rfl rfl (Nat.le_of_ble_eq_true rfl) ?_
  conv => whnf
  refine Br.f ff_ ?_
  conv => whnf
  refine Br.f ff_ ?_
  conv => whnf
  refine cut_ 528 [(1, .bp 0 0), (3, .int .i64 x3), (67, .bool (!t9686))] [(0, .box [(sv_str a0_0), (sv_S_impl_PlantFoe a0_1), (sv_S_impl_PlantPlace a0_2), (sv_S_impl_PlantValve a0_3)])] rfl ⟨.inl rfl, ⟨.inl rfl, ⟨.inl rfl, trivial⟩⟩⟩ ⟨rfl, trivial⟩ ?_
  conv => whnf
  refine br_nt H (fun c H => ?_) (fun c H => ?_)
  conv => whnf
  exact ⟨(k, wrap64 (x3 + 1)), [], ⟨H, lt_⟩, lt_, (fits_of ⟨.inl ⟨rfl, rfl⟩, trivial⟩ trivial fi_ trivial rfl)⟩
  conv => whnf
  refine cut_ 536 [(2, .bool false)] [] rfl ⟨.inl rfl, trivial⟩ trivial ?_
  conv => whnf
  injection H with H; subst H
  exact ret_fz [] (rtA_eq rfl)
  conv => whnf
  refine Br.t ft_ ?_
  conv => whnf
  refine Br.t ft_ ?_
  conv => whnf
  refine Br.t ft_ ?_
  conv => whnf
  refine Br.t ft_ ?_
  conv => whnf
  refine Br.t ft_ ?_
  conv => whnf
  refine Br.t rfl ?_
  conv => whnf
  refine Br.t rfl ?_
  conv => whnf
  refine Br.t rfl ?_
  conv => whnf
  refine Br.t rfl ?_
  conv => whnf
  refine Br.t rfl ?_
  conv => whnf
  refine Br.t rfl ?_
  conv => whnf
  refine Br.t rfl ?_
  conv => whnf
  refine Br.t rfl ?_
  conv => whnf
  refine Br.t rfl ?_
  conv => whnf
  refine Br.t rfl ?_
  conv => whnf
  refine Br.t rfl ?_
  conv => whnf
  refine cut_ 528 [(1, .bp 0 0), (3, .int .i64 x3), (67, .bool true)] [(0, .box [(sv_str a0_0), (sv_S_impl_PlantFoe a0_1), (sv_S_impl_PlantPlace a0_2), (sv_S_impl_PlantValve a0_3)])] rfl ⟨.inl rfl, ⟨.inl rfl, ⟨.inl rfl, trivial⟩⟩⟩ ⟨rfl, trivial⟩ ?_
  conv => whnf
  refine Br.t rfl ?_
  conv => whnf
  refine cut_ 536 [(2, .bool false)] [] rfl ⟨.inl rfl, trivial⟩ trivial ?_
  conv => whnf
  injection H with H; subst H
  exact ret_fz [] (rtA_eq rfl)
  conv => whnf
  refine Br.t ft_ ?_
  conv => whnf
  refine Br.t ft_ ?_
  conv => whnf
  refine Br.t ft_ ?_
  conv => whnf
  refine Br.t ft_ ?_
  conv => whnf
  refine Br.t rfl ?_
  conv => whnf
  refine Br.t rfl ?_
  conv => whnf
  refine Br.t rfl ?_
  conv => whnf
  refine Br.t rfl ?_
  conv => whnf
  refine Br.t rfl ?_
  conv => whnf
  refine Br.t rfl ?_
  conv => whnf
  refine Br.t rfl ?_
  conv => whnf
  refine Br.t rfl ?_
  conv => whnf
  refine Br.t rfl ?_
  conv => whnf
  refine Br.t rfl ?_
  conv => whnf
  refine Br.t rfl ?_
  conv => whnf
  refine Br.t rfl ?_
  conv => whnf
  refine Br.t rfl ?_
  conv => whnf
  refine Br.t rfl ?_
  conv => whnf
  refine Br.t rfl ?_
  conv => whnf
  refine Br.t rfl ?_
  conv => whnf
  refine Br.t rfl ?_
  conv => whnf
  refine Br.t rfl ?_
  conv => whnf
  refine Br.t rfl ?_
  conv => whnf
  refine Br.t rfl ?_
  conv => whnf
  refine Br.t rfl ?_
  conv => whnf
  refine Br.t rfl ?_
  conv => whnf
  refine Br.t rfl ?_
  conv => whnf
  refine cut_ 528 [(1, .bp 0 0), (3, .int .i64 x3), (67, .bool true)] [(0, .box [(sv_str a0_0), (sv_S_impl_PlantFoe a0_1), (sv_S_impl_PlantPlace a0_2), (sv_S_impl_PlantValve a0_3)])] rfl ⟨.inl rfl, ⟨.inl rfl, ⟨.inl rfl, trivial⟩⟩⟩ ⟨rfl, trivial⟩ ?_
  conv => whnf
  refine Br.t rfl ?_
  conv => whnf
  refine cut_ 536 [(2, .bool false)] [] rfl ⟨.inl rfl, trivial⟩ trivial ?_
  conv => whnf
  injection H with H; subst H
  exact ret_fz [] (rtA_eq rfl)
  conv => whnf
  injection H with H; subst H
  exact ret_fz [] (rtA_eq rfl)
theorem spec_PlantValid.ac {k : Nat} {a0_0 : List ByteArray} {a0_1 : List S_impl_PlantFoe} {a0_2 : List S_impl_PlantPlace} {a0_3 : List S_impl_PlantValve} {r : Bool} (H : spec_PlantValid.f k a0_0 a0_1 a0_2 a0_3 = some r) : ACalls Try.prog G 72 [] [.agg [(sv_str a0_0), (sv_S_impl_PlantFoe a0_1), (sv_S_impl_PlantPlace a0_2), (sv_S_impl_PlantValve a0_3)]] [] (.bool r) := by
  refine acalls_of tok hP Try.func72 rfl (by kernel_rfl) [.tmp 2] rfl (by kernel_rfl) (Nat.le_of_ble_eq_true rfl) (.l .n (.c .n .n)) rfl ?_
  unfold spec_PlantValid.f at H
  conv => whnf
  revert H; refine bind_elim (fun t9690 A H => ?_)
  refine call_mk (spec_l2StuffsOk.ac A) (avAL_cons (avA_agg (avL_cons (av_shut' rfl) (avL_cons (av_shut' rfl) (avL_cons (av_shut' rfl) (avL_cons (av_shut' rfl) (avL_nil)))))) (avAL_nil)) (Or.inl rfl) rfl rfl (Nat.le_of_ble_eq_true rfl) ?_
  conv => whnf
  refine br_t H (fun c H => ?_) (fun c H => ?_)
  conv => whnf
  refine Br.t ft_ ?_
  conv => whnf
  revert H; refine bind_elim (fun t9691 A H => ?_)
  refine call_mk (spec_l2PlacesOk.ac A) (avAL_cons (avA_agg (avL_cons (av_shut' rfl) (avL_cons (av_shut' rfl) (avL_cons (av_shut' rfl) (avL_cons (av_shut' rfl) (avL_nil)))))) (avAL_nil)) (Or.inl rfl) rfl rfl (Nat.le_of_ble_eq_true rfl) ?_
  conv => whnf
  refine Br.t ft_ ?_
  conv => whnf
  refine br_t H (fun c H => ?_) (fun c H => ?_)
  conv => whnf
  refine Br.t ft_ ?_
  conv => whnf
  revert H; refine bind_elim (fun t9692 A H => ?_)
  refine call_mk (spec_l2ValvesOk.ac A) (avAL_cons (avA_agg (avL_cons (av_shut' rfl) (avL_cons (av_shut' rfl) (avL_cons (av_shut' rfl) (avL_cons (av_shut' rfl) (avL_nil)))))) (avAL_nil)) (Or.inl rfl) rfl rfl (Nat.le_of_ble_eq_true rfl) ?_
  conv => whnf
  refine Br.t ft_ ?_
  conv => whnf
  refine cut_ 104 [(2, .bool t9692)] [] rfl ⟨.inl rfl, trivial⟩ trivial ?_
  conv => whnf
  injection H with H; subst H
  exact ret_fz [] (rtA_eq rfl)
  conv => whnf
  refine Br.f ff_ ?_
  conv => whnf
  refine Br.f ff_ ?_
  conv => whnf
  refine cut_ 104 [(2, .bool false)] [] rfl ⟨.inl rfl, trivial⟩ trivial ?_
  conv => whnf
  injection H with H; subst H
  exact ret_fz [] (rtA_eq rfl)
  conv => whnf
  refine Br.f ff_ ?_
  conv => whnf
  refine Br.f ff_ ?_
  conv => whnf
  refine Br.f rfl ?_
  conv => whnf
  refine Br.f rfl ?_
  conv => whnf
  refine Br.f rfl ?_
  conv => whnf
  refine cut_ 104 [(2, .bool false)] [] rfl ⟨.inl rfl, trivial⟩ trivial ?_
  conv => whnf
  injection H with H; subst H
  exact ret_fz [] (rtA_eq rfl)
theorem spec_l6Known.l0_lp {F : (Exit → St → Prop) → St → Prop} {hv : List Tmp} {Q : Exit → St → Prop} {σ : St} {r : List ByteArray} {k : Nat} {a0_3 : List S_impl_PlantValve} {l1 : List ByteArray} {x5 : List ByteArray} {x6 : Int} (H : spec_l6Known.l0 k a0_3 l1 x5 x6 = some r) (rn : List (Option Nat)) (h1 : Fits σ σ [16] [(5, .own 0 x5.length), (6, .int .i64 x6)] [] [.arr 9 1 (x5.map en_str)] rn)
    (h2 : ∀ (k0 : Nat) (x5 : List ByteArray) (x6 : Int), k0 < k + 1 → spec_l6Known.l0 k0 a0_3 l1 x5 x6 = some r → headN σ hv [16] [(5, .own 0 x5.length), (6, .int .i64 x6)] [] [.arr 9 1 (x5.map en_str)] (F (fun e σ' => match e with | .normal => ∃ (y : Nat × (List ByteArray) × Int) (rn : List (Option Nat)), (spec_l6Known.l0 y.1 a0_3 l1 y.2.1 y.2.2 = some r ∧ y.1 < k + 1) ∧ y.1 < k0 ∧ Fits σ σ' [16] [(5, .own 0 y.2.1.length), (6, .int .i64 y.2.2)] [] [.arr 9 1 (y.2.1.map en_str)] rn | e => Q e σ'))) : Lp F hv Q σ := by
  unfold Lp
  refine ⟨Nat × (List ByteArray) × Int, fun x => spec_l6Known.l0 x.1 a0_3 l1 x.2.1 x.2.2 = some r ∧ x.1 < k + 1, fun x => x.1, [16], fun x => [(5, .own 0 x.2.1.length), (6, .int .i64 x.2.2)], fun x => [], fun x => [.arr 9 1 (x.2.1.map en_str)], ⟨(k, x5, x6), rn, ⟨H, Nat.lt_succ_self _⟩, h1⟩, ?_⟩
  rintro ⟨k, x5, x6⟩ ⟨H, hk⟩
  exact h2 k x5 x6 hk H
theorem spec_l6Known.ac {k : Nat} {a0_0 : List ByteArray} {a0_1 : List S_impl_PlantFoe} {a0_2 : List S_impl_PlantPlace} {a0_3 : List S_impl_PlantValve} {l1 : List ByteArray} {r : List ByteArray} (H : spec_l6Known.f k a0_0 a0_1 a0_2 a0_3 l1 = some r) : ACalls Try.prog G 104 [] [.agg [(sv_str a0_0), (sv_S_impl_PlantFoe a0_1), (sv_S_impl_PlantPlace a0_2), (sv_S_impl_PlantValve a0_3)], (sv_str l1)] [] ((sv_str r)) := by
  refine acalls_of tok hP Try.func104 rfl (by kernel_rfl) [.tmp 4] rfl (by kernel_rfl) (Nat.le_of_ble_eq_true rfl) (.l .n (.l .n (.l (.l .n (.l (.c .n .n) (.c .n .n))) .n))) rfl ?_
  unfold spec_l6Known.f at H
  conv => whnf
  refine Or.inl ?_
  conv => whnf
  refine spec_l6Known.l0_lp (a0_3 := a0_3) (l1 := l1) (k := k) H [some 16] (fits_of ⟨mt_own lm_, ⟨.inl ⟨rfl, rfl⟩, trivial⟩⟩ ⟨fm_, trivial⟩ fi_ trivial rfl) ?_
  intro k x5 x6 hk H; rcases k with _ | k; exact none_elim H; rw [spec_l6Known.l0] at H; conv => whnf
  refine cut_ 81 [(1, (sv_str l1)), (2, .bp 0 0), (5, .own 40 x5.length), (6, .int .i64 x6), (12, .bool (decide (x6 < (a0_3.length : Int))))] [(0, .box [(sv_str a0_0), (sv_S_impl_PlantFoe a0_1), (sv_S_impl_PlantPlace a0_2), (sv_S_impl_PlantValve a0_3)]), (40, .arr 9 1 (x5.map en_str))] rfl ⟨.inl rfl, ⟨.inl rfl, ⟨.inl rfl, ⟨.inl rfl, ⟨.inl rfl, trivial⟩⟩⟩⟩⟩ ⟨rfl, ⟨rfl, trivial⟩⟩ ?_
  conv => whnf
  refine br_d H (fun c H => ?_) (fun c H => ?_)
  conv => whnf
  refine nd_ H (fun c H => ?_)
  conv => whnf
  refine Nd.mk nf_ ?_
  conv => whnf
  refine El.mk (rdm_en_S_impl_PlantValve _ _ nf_ nf_) ?_
  conv => whnf
  revert H; refine bind_elim (fun t9723 A H => ?_)
  refine call_mk (spec_l2Has.ac A) (avAL_cons (avA_shut' rfl) (avAL_cons (avA_shut' rfl) (avAL_nil))) (Or.inl rfl) rfl rfl (Nat.le_of_ble_eq_true rfl) ?_
  conv => whnf
  refine br_t H (fun c H => ?_) (fun c H => ?_)
  conv => whnf
  refine Nd.mk nf_ ?_
  conv => whnf
  refine Nd.mk nf_ ?_
  conv => whnf
  refine El.mk (rdm_en_S_impl_PlantValve _ _ nf_ nf_) ?_
  conv => whnf
  refine Or.inl ?_
  conv => whnf
  refine nd_ H (fun c H => ?_)
  conv => whnf
  refine cut_ 225 [(1, (sv_str l1)), (2, .bp 0 0), (5, .own 209 (x5.length + 1)), (6, .int .i64 x6)] [(0, .box [(sv_str a0_0), (sv_S_impl_PlantFoe a0_1), (sv_S_impl_PlantPlace a0_2), (sv_S_impl_PlantValve a0_3)]), (209, .arr 9 1 ((x5 ++ ([(rd_impl_PlantValve a0_3 x6).f0] : List ByteArray)).map en_str))] rfl ⟨.inl rfl, ⟨.inl rfl, ⟨.inl rfl, ⟨.inl rfl, trivial⟩⟩⟩⟩ ⟨rfl, ⟨fm_, trivial⟩⟩ ?_
  conv => whnf
  exact ⟨(k, (x5 ++ ([(rd_impl_PlantValve a0_3 x6).f0] : List ByteArray)), wrap64 (x6 + 1)), [some 209], ⟨H, lt_⟩, lt_, (fits_of ⟨mt_own lm_, ⟨.inl ⟨rfl, rfl⟩, trivial⟩⟩ ⟨rfl, trivial⟩ fi_ trivial rfl)⟩
  conv => whnf
  refine cut_ 145 [(1, (sv_str l1)), (2, .bp 0 0), (5, .own 40 x5.length), (6, .int .i64 x6)] [(0, .box [(sv_str a0_0), (sv_S_impl_PlantFoe a0_1), (sv_S_impl_PlantPlace a0_2), (sv_S_impl_PlantValve a0_3)]), (40, .arr 9 1 (x5.map en_str))] rfl ⟨.inl rfl, ⟨.inl rfl, ⟨.inl rfl, ⟨.inl rfl, trivial⟩⟩⟩⟩ ⟨rfl, ⟨rfl, trivial⟩⟩ ?_
  conv => whnf
  exact ⟨(k, x5, wrap64 (x6 + 1)), [some 40], ⟨H, lt_⟩, lt_, (fits_of ⟨rfl, ⟨.inl ⟨rfl, rfl⟩, trivial⟩⟩ ⟨rfl, trivial⟩ fi_ trivial rfl)⟩
  conv => whnf
  injection H with H; subst H
  exact ret_fz [40] (rtA_fz' rfl rfl)
theorem spec_l4Insert.l0_lp {F : (Exit → St → Prop) → St → Prop} {hv : List Tmp} {Q : Exit → St → Prop} {σ : St} {r : List ByteArray} {k : Nat} {l0 : List ByteArray} {a1 : ByteArray} {x5 : Int} (H : spec_l4Insert.l0 k l0 a1 x5 = some r) (rn : List (Option Nat)) (h1 : Fits σ σ [] [(5, .int .i64 x5)] [] [] rn)
    (h2 : ∀ (k0 : Nat) (x5 : Int), k0 < k + 1 → spec_l4Insert.l0 k0 l0 a1 x5 = some r → headN σ hv [] [(5, .int .i64 x5)] [] [] (F (fun e σ' => match e with | .normal => ∃ (y : Nat × Int) (rn : List (Option Nat)), (spec_l4Insert.l0 y.1 l0 a1 y.2 = some r ∧ y.1 < k + 1) ∧ y.1 < k0 ∧ Fits σ σ' [] [(5, .int .i64 y.2)] [] [] rn | e => Q e σ'))) : Lp F hv Q σ := by
  unfold Lp
  refine ⟨Nat × Int, fun x => spec_l4Insert.l0 x.1 l0 a1 x.2 = some r ∧ x.1 < k + 1, fun x => x.1, [], fun x => [(5, .int .i64 x.2)], fun x => [], fun x => [], ⟨(k, x5), rn, ⟨H, Nat.lt_succ_self _⟩, h1⟩, ?_⟩
  rintro ⟨k, x5⟩ ⟨H, hk⟩
  exact h2 k x5 hk H
theorem spec_l4Insert.ac {k : Nat} {l0 : List ByteArray} {a1 : ByteArray} {r : List ByteArray} (H : spec_l4Insert.f k l0 a1 = some r) : ACalls Try.prog G 137 [] [(sv_str l0), .str a1] [] ((sv_str r)) := by
  refine acalls_of tok hP Try.func137 rfl (by kernel_rfl) [.tmp 4] rfl (by kernel_rfl) (Nat.le_of_ble_eq_true rfl) (.l .n (.l .n (.l (.l (.c .n .n) .n) (.l (.c .n .n) (.c .n .n))))) rfl ?_
  unfold spec_l4Insert.f at H
  conv => whnf
  refine spec_l4Insert.l0_lp (l0 := l0) (a1 := a1) (k := k) H [] (fits_of ⟨.inl ⟨rfl, rfl⟩, trivial⟩ trivial fi_ trivial rfl) ?_
  intro k x5 hk H; rcases k with _ | k; exact none_elim H; rw [spec_l4Insert.l0] at H; conv => whnf
  refine br_d H (fun c H => ?_) (fun c H => ?_)
  conv => whnf
  refine Br.t ft_ ?_
  conv => whnf
  refine Br.t ft_ ?_
  conv => whnf
  refine nd_ H (fun c H => ?_)
  conv => whnf
  refine Nd.mk nf_ ?_
  conv => whnf
  refine El.mk (rdm_en_str _ _ nf_ nf_) ?_
  conv => whnf
  refine Br.t ft_ ?_
  conv => whnf
  refine Br.t ft_ ?_
  conv => whnf
  refine Br.t ft_ ?_
  conv => whnf
  refine Br.t ft_ ?_
  conv => whnf
  refine cut_ 112 [(0, (sv_str l0)), (1, .str a1), (5, .int .i64 x5), (17, .bool (Op.bytesLess (rdOf ByteArray.empty l0 x5).toList a1.toList))] [] rfl ⟨.inl rfl, ⟨.inl rfl, ⟨.inl rfl, ⟨.inl rfl, trivial⟩⟩⟩⟩ trivial ?_
  conv => whnf
  refine br_t H (fun c H => ?_) (fun c H => ?_)
  conv => whnf
  exact ⟨(k, wrap64 (x5 + 1)), [], ⟨H, lt_⟩, lt_, (fits_of ⟨.inl ⟨rfl, rfl⟩, trivial⟩ trivial fi_ trivial rfl)⟩
  conv => whnf
  refine Br.t ft_ ?_
  conv => whnf
  refine Br.t ft_ ?_
  conv => whnf
  refine Br.t ft_ ?_
  conv => whnf
  refine Nd.mk nf_ ?_
  conv => whnf
  refine Nd.mk nf_ ?_
  conv => whnf
  refine El.mk (rdm_en_str _ _ nf_ nf_) ?_
  conv => whnf
  refine Br.t ft_ ?_
  conv => whnf
  refine Br.t ft_ ?_
  conv => whnf
  refine Br.t ft_ ?_
  conv => whnf
  refine Br.t ft_ ?_
  conv => whnf
  refine cut_ 208 [(0, (sv_str l0)), (1, .str a1), (5, .int .i64 x5), (31, .bool (decide ((rdOf ByteArray.empty l0 x5).toList = a1.toList)))] [] rfl ⟨.inl rfl, ⟨.inl rfl, ⟨.inl rfl, ⟨.inl rfl, trivial⟩⟩⟩⟩ trivial ?_
  conv => whnf
  refine br_d H (fun c H => ?_) (fun c H => ?_)
  conv => whnf
  injection H with H; subst H
  exact ret_fz [] (rtA_eq rfl)
  conv => whnf
  refine Or.inl ?_
  conv => whnf
  refine Nd.mk nf_ ?_
  conv => whnf
  refine nd_ H (fun c H => ?_)
  conv => whnf
  refine nd_ H (fun c H => ?_)
  conv => whnf
  refine Or.inl ?_
  conv => whnf
  refine nd_ H (fun c H => ?_)
  conv => whnf
  refine Nd.mk nf_ ?_
  conv => whnf
  refine Nd.mk nf_ ?_
  conv => whnf
  refine nd_ H (fun c H => ?_)
  conv => whnf
  refine cut_ 312 [(4, .own 296 (0 + (x5).toNat + 1 + (l0.length - (x5).toNat)))] [(296, .arr 9 1 ((((([] : List ByteArray) ++ (l0.take (x5).toNat)) ++ ([a1] : List ByteArray)) ++ (l0.drop (x5).toNat)).map en_str))] rfl ⟨.inl rfl, trivial⟩ ⟨fm_, trivial⟩ ?_
  conv => whnf
  injection H with H; subst H
  exact ret_fz [296] (rtA_fzD rfl lm_ lm_ rfl)
  conv => whnf
  refine Br.f ff_ ?_
  conv => whnf
  refine Br.f ff_ ?_
  conv => whnf
  refine Br.f ff_ ?_
  conv => whnf
  refine Br.f ff_ ?_
  conv => whnf
  refine Br.f ff_ ?_
  conv => whnf
  refine Br.f ff_ ?_
  conv => whnf
  refine cut_ 112 [(0, (sv_str l0)), (1, .str a1), (5, .int .i64 x5), (17, .bool false)] [] rfl ⟨.inl rfl, ⟨.inl rfl, ⟨.inl rfl, ⟨.inl rfl, trivial⟩⟩⟩⟩ trivial ?_
  conv => whnf
  refine Br.f rfl ?_
  conv => whnf
  refine Br.f ff_ ?_
  conv => whnf
  refine Br.f ff_ ?_
  conv => whnf
  refine Br.f ff_ ?_
  conv => whnf
  refine Br.f ff_ ?_
  conv => whnf
  refine Br.f ff_ ?_
  conv => whnf
  refine Br.f ff_ ?_
  conv => whnf
  refine Br.f ff_ ?_
  conv => whnf
  refine cut_ 208 [(0, (sv_str l0)), (1, .str a1), (5, .int .i64 x5), (31, .bool false)] [] rfl ⟨.inl rfl, ⟨.inl rfl, ⟨.inl rfl, ⟨.inl rfl, trivial⟩⟩⟩⟩ trivial ?_
  conv => whnf
  refine Br.f rfl ?_
  conv => whnf
  refine Or.inl ?_
  conv => whnf
  refine nd_ H (fun c H => ?_)
  conv => whnf
  refine nd_ H (fun c H => ?_)
  conv => whnf
  refine nd_ H (fun c H => ?_)
  conv => whnf
  refine Or.inl ?_
  conv => whnf
  refine nd_ H (fun c H => ?_)
  conv => whnf
  refine Nd.mk nf_ ?_
  conv => whnf
  refine Nd.mk nf_ ?_
  conv => whnf
  refine nd_ H (fun c H => ?_)
  conv => whnf
  refine cut_ 312 [(4, .own 296 (0 + (x5).toNat + 1 + (l0.length - (x5).toNat)))] [(296, .arr 9 1 ((((([] : List ByteArray) ++ (l0.take (x5).toNat)) ++ ([a1] : List ByteArray)) ++ (l0.drop (x5).toNat)).map en_str))] rfl ⟨.inl rfl, trivial⟩ ⟨fm_, trivial⟩ ?_
  conv => whnf
  injection H with H; subst H
  exact ret_fz [296] (rtA_fzD rfl lm_ lm_ rfl)
theorem spec_l4Group.l1_lp {F : (Exit → St → Prop) → St → Prop} {hv : List Tmp} {Q : Exit → St → Prop} {σ : St} {r : List ByteArray} {k : Nat} {a0_2 : List S_impl_PlantPlace} {a0_3 : List S_impl_PlantValve} {l1 : List ByteArray} {x8 : Int} {x7_1 : List ByteArray} {x9 : Int} (H : spec_l4Group.l1 k a0_2 a0_3 l1 x7_1 x8 x9 = some r) (rn : List (Option Nat)) (h1 : Fits σ σ [] [(7, (sv_str x7_1)), (9, .int .i64 x9)] [] [] rn)
    (h2 : ∀ (k0 : Nat) (x7_1 : List ByteArray) (x9 : Int), k0 < k + 1 → spec_l4Group.l1 k0 a0_2 a0_3 l1 x7_1 x8 x9 = some r → headN σ hv [] [(7, (sv_str x7_1)), (9, .int .i64 x9)] [] [] (F (fun e σ' => match e with | .normal => ∃ (y : Nat × (List ByteArray) × Int) (rn : List (Option Nat)), (spec_l4Group.l1 y.1 a0_2 a0_3 l1 y.2.1 x8 y.2.2 = some r ∧ y.1 < k + 1) ∧ y.1 < k0 ∧ Fits σ σ' [] [(7, (sv_str y.2.1)), (9, .int .i64 y.2.2)] [] [] rn | e => Q e σ'))) : Lp F hv Q σ := by
  unfold Lp
  refine ⟨Nat × (List ByteArray) × Int, fun x => spec_l4Group.l1 x.1 a0_2 a0_3 l1 x.2.1 x8 x.2.2 = some r ∧ x.1 < k + 1, fun x => x.1, [], fun x => [(7, (sv_str x.2.1)), (9, .int .i64 x.2.2)], fun x => [], fun x => [], ⟨(k, x7_1, x9), rn, ⟨H, Nat.lt_succ_self _⟩, h1⟩, ?_⟩
  rintro ⟨k, x7_1, x9⟩ ⟨H, hk⟩
  exact h2 k x7_1 x9 hk H
theorem spec_l4Group.l0_lp {F : (Exit → St → Prop) → St → Prop} {hv : List Tmp} {Q : Exit → St → Prop} {σ : St} {r : List ByteArray} {k : Nat} {a0_2 : List S_impl_PlantPlace} {a0_3 : List S_impl_PlantValve} {l1 : List ByteArray} {x7 : List ByteArray} {x8 : Int} (H : spec_l4Group.l0 k a0_2 a0_3 l1 x7 x8 = some r) (rn : List (Option Nat)) (h1 : Fits σ σ [] [(7, (sv_str x7)), (8, .int .i64 x8)] [] [] rn)
    (h2 : ∀ (k0 : Nat) (x7 : List ByteArray) (x8 : Int), k0 < k + 1 → spec_l4Group.l0 k0 a0_2 a0_3 l1 x7 x8 = some r → headN σ hv [] [(7, (sv_str x7)), (8, .int .i64 x8)] [] [] (F (fun e σ' => match e with | .normal => ∃ (y : Nat × (List ByteArray) × Int) (rn : List (Option Nat)), (spec_l4Group.l0 y.1 a0_2 a0_3 l1 y.2.1 y.2.2 = some r ∧ y.1 < k + 1) ∧ y.1 < k0 ∧ Fits σ σ' [] [(7, (sv_str y.2.1)), (8, .int .i64 y.2.2)] [] [] rn | e => Q e σ'))) : Lp F hv Q σ := by
  unfold Lp
  refine ⟨Nat × (List ByteArray) × Int, fun x => spec_l4Group.l0 x.1 a0_2 a0_3 l1 x.2.1 x.2.2 = some r ∧ x.1 < k + 1, fun x => x.1, [], fun x => [(7, (sv_str x.2.1)), (8, .int .i64 x.2.2)], fun x => [], fun x => [], ⟨(k, x7, x8), rn, ⟨H, Nat.lt_succ_self _⟩, h1⟩, ?_⟩
  rintro ⟨k, x7, x8⟩ ⟨H, hk⟩
  exact h2 k x7 x8 hk H
theorem spec_l4Group.ac {k : Nat} {a0_0 : List ByteArray} {a0_1 : List S_impl_PlantFoe} {a0_2 : List S_impl_PlantPlace} {a0_3 : List S_impl_PlantValve} {l1 : List ByteArray} {a2 : ByteArray} {r : List ByteArray} (H : spec_l4Group.f k a0_0 a0_1 a0_2 a0_3 l1 a2 = some r) : ACalls Try.prog G 86 [] [.agg [(sv_str a0_0), (sv_S_impl_PlantFoe a0_1), (sv_S_impl_PlantPlace a0_2), (sv_S_impl_PlantValve a0_3)], (sv_str l1), .str a2] [] ((sv_str r)) := by
  refine acalls_of tok hP Try.func86 rfl (by kernel_rfl) [.tmp 6] rfl (by kernel_rfl) (Nat.le_of_ble_eq_true rfl) (.l .n (.l .n (.l (.f 0 .n (.l .n (.l (.l .n (.l (.c .n .n) (.l (.l .n (.c .n .n)) .n))) .n))) .n))) rfl ?_
  unfold spec_l4Group.f at H
  conv => whnf
  refine Or.inl ?_
  conv => whnf
  refine cutF_ 48 [24] [(1, (sv_str l1)), (3, .bp 0 0), (7, (sv_str ([a2] : List ByteArray))), (8, .int .i64 0)] [(0, .box [(sv_str a0_0), (sv_S_impl_PlantFoe a0_1), (sv_S_impl_PlantPlace a0_2), (sv_S_impl_PlantValve a0_3)])] rfl rfl ⟨.inl (.inl rfl), ⟨.inl (.inl rfl), ⟨.inl (fz_own rfl rfl (.inr lm_) lm_), ⟨.inl (.inl rfl), trivial⟩⟩⟩⟩ ⟨.inl (rfl), trivial⟩ ?_
  conv => whnf
  refine spec_l4Group.l0_lp (a0_2 := a0_2) (a0_3 := a0_3) (l1 := l1) (k := k) H [] (fits_of ⟨.inl ⟨rfl, rfl⟩, ⟨.inl ⟨rfl, rfl⟩, trivial⟩⟩ trivial fi_ trivial rfl) ?_
  intro k x7 x8 hk H; rcases k with _ | k; exact none_elim H; rw [spec_l4Group.l0] at H; conv => whnf
  refine br_d H (fun c H => ?_) (fun c H => ?_)
  conv => whnf
  refine spec_l4Group.l1_lp (a0_2 := a0_2) (a0_3 := a0_3) (l1 := l1) (x8 := x8) (k := k) H [] (fits_of ⟨.inl ⟨rfl, rfl⟩, ⟨.inl ⟨rfl, rfl⟩, trivial⟩⟩ trivial fi_ trivial rfl) ?_
  intro k x7_1 x9 hk H; rcases k with _ | k; exact none_elim H; rw [spec_l4Group.l1] at H; conv => whnf
  refine cut_ 136 [(1, (sv_str l1)), (3, .bp 0 0), (7, (sv_str x7_1)), (8, .int .i64 x8), (9, .int .i64 x9), (24, .bool (decide (x9 < (a0_3.length : Int))))] [(0, .box [(sv_str a0_0), (sv_S_impl_PlantFoe a0_1), (sv_S_impl_PlantPlace a0_2), (sv_S_impl_PlantValve a0_3)])] rfl ⟨.inl rfl, ⟨.inl rfl, ⟨.inl rfl, ⟨.inl rfl, ⟨.inl rfl, ⟨.inl rfl, trivial⟩⟩⟩⟩⟩⟩ ⟨rfl, trivial⟩ ?_
  conv => whnf
  refine br_d H (fun c H => ?_) (fun c H => ?_)
  conv => whnf
  refine nd_ H (fun c H => ?_)
  conv => whnf
  refine Nd.mk nf_ ?_
  conv => whnf
  refine El.mk (rdm_en_S_impl_PlantValve _ _ nf_ nf_) ?_
  conv => whnf
  revert H; refine bind_elim (fun t9947 A H => ?_)
  refine call_mk (spec_l2Has.ac A) (avAL_cons (avA_shut' rfl) (avAL_cons (avA_shut' rfl) (avAL_nil))) (Or.inl rfl) rfl rfl (Nat.le_of_ble_eq_true rfl) ?_
  conv => whnf
  refine br_t H (fun c H => ?_) (fun c H => ?_)
  conv => whnf
  refine Br.t ft_ ?_
  conv => whnf
  refine Br.t ft_ ?_
  conv => whnf
  refine Br.t ft_ ?_
  conv => whnf
  revert H; refine bind_elim (fun t9948 A H => ?_)
  refine call_mk (spec_l2Has.ac A) (avAL_cons (avA_shut' rfl) (avAL_cons (avA_shut' rfl) (avAL_nil))) (Or.inl rfl) rfl rfl (Nat.le_of_ble_eq_true rfl) ?_
  conv => whnf
  refine Br.t ft_ ?_
  conv => whnf
  refine Br.t ft_ ?_
  conv => whnf
  refine Br.t ft_ ?_
  conv => whnf
  refine Br.t ft_ ?_
  conv => whnf
  revert H; refine bind_elim (fun t9949 A H => ?_)
  refine call_mk (spec_l2Has.ac A) (avAL_cons (avA_shut' rfl) (avAL_cons (avA_shut' rfl) (avAL_nil))) (Or.inl rfl) rfl rfl (Nat.le_of_ble_eq_true rfl) ?_
  conv => whnf
  refine Br.t ft_ ?_
  conv => whnf
  refine Br.t ft_ ?_
  conv => whnf
  refine cut_ 312 [(1, (sv_str l1)), (3, .bp 0 0), (7, (sv_str x7_1)), (8, .int .i64 x8), (9, .int .i64 x9), (10, .bp 176 0), (46, .bool (t9948 != t9949))] [(0, .box [(sv_str a0_0), (sv_S_impl_PlantFoe a0_1), (sv_S_impl_PlantPlace a0_2), (sv_S_impl_PlantValve a0_3)]), (176, .box [.str ((rd_impl_PlantValve a0_3 x9).f0), .str ((rd_impl_PlantValve a0_3 x9).f1), .str ((rd_impl_PlantValve a0_3 x9).f2), .str ((rd_impl_PlantValve a0_3 x9).f3)])] rfl ⟨.inl rfl, ⟨.inl rfl, ⟨.inl rfl, ⟨.inl rfl, ⟨.inl rfl, ⟨.inl rfl, ⟨.inl rfl, trivial⟩⟩⟩⟩⟩⟩⟩ ⟨rfl, ⟨rfl, trivial⟩⟩ ?_
  conv => whnf
  refine br_t H (fun c H => ?_) (fun c H => ?_)
  conv => whnf
  revert H; refine bind_elim (fun t9950 A H => ?_)
  refine call_mk (spec_l4Insert.ac A) (avAL_cons (avA_shut' rfl) (avAL_cons (avA_shut' rfl) (avAL_nil))) (Or.inl rfl) rfl rfl (Nat.le_of_ble_eq_true rfl) ?_
  conv => whnf
  revert H; refine bind_elim (fun t9951 A H => ?_)
  refine call_mk (spec_l4Insert.ac A) (avAL_cons (avA_shut' rfl) (avAL_cons (avA_shut' rfl) (avAL_nil))) (Or.inl rfl) rfl rfl (Nat.le_of_ble_eq_true rfl) ?_
  conv => whnf
  exact ⟨(k, t9951, wrap64 (x9 + 1)), [], ⟨H, lt_⟩, lt_, (fits_of ⟨.inl ⟨rfl, rfl⟩, ⟨.inl ⟨rfl, rfl⟩, trivial⟩⟩ trivial fi_ trivial rfl)⟩
  conv => whnf
  exact ⟨(k, _, wrap64 (x9 + 1)), [], ⟨H, lt_⟩, lt_, (fits_of ⟨.inl ⟨rfl, rfl⟩, ⟨.inl ⟨rfl, rfl⟩, trivial⟩⟩ trivial fi_ trivial rfl)⟩
  conv => whnf
  refine Br.f ff_ ?_
  conv => whnf
  refine Br.f ff_ ?_
  conv => whnf
  refine Br.f ff_ ?_
  conv => whnf
  refine Br.f ff_ ?_
  conv => whnf
  refine Br.f ff_ ?_
  conv => whnf
  refine Br.f ff_ ?_
  conv => whnf
  refine Br.f ff_ ?_
  conv => whnf
  refine Br.f ff_ ?_
  conv => whnf
  refine Br.f ff_ ?_
  conv => whnf
  refine cut_ 312 [(1, (sv_str l1)), (3, .bp 0 0), (7, (sv_str x7_1)), (8, .int .i64 x8), (9, .int .i64 x9), (10, .bp 176 0), (46, .bool false)] [(0, .box [(sv_str a0_0), (sv_S_impl_PlantFoe a0_1), (sv_S_impl_PlantPlace a0_2), (sv_S_impl_PlantValve a0_3)]), (176, .box [.str ((rd_impl_PlantValve a0_3 x9).f0), .str ((rd_impl_PlantValve a0_3 x9).f1), .str ((rd_impl_PlantValve a0_3 x9).f2), .str ((rd_impl_PlantValve a0_3 x9).f3)])] rfl ⟨.inl rfl, ⟨.inl rfl, ⟨.inl rfl, ⟨.inl rfl, ⟨.inl rfl, ⟨.inl rfl, ⟨.inl rfl, trivial⟩⟩⟩⟩⟩⟩⟩ ⟨rfl, ⟨rfl, trivial⟩⟩ ?_
  conv => whnf
  refine Br.f rfl ?_
  conv => whnf
  exact ⟨(k, _, wrap64 (x9 + 1)), [], ⟨H, lt_⟩, lt_, (fits_of ⟨.inl ⟨rfl, rfl⟩, ⟨.inl ⟨rfl, rfl⟩, trivial⟩⟩ trivial fi_ trivial rfl)⟩
  conv => whnf
  exact ⟨(k, x7_1, wrap64 (x8 + 1)), [], ⟨H, lt_⟩, lt_, (fits_of ⟨.inl ⟨rfl, rfl⟩, ⟨.inl ⟨rfl, rfl⟩, trivial⟩⟩ trivial fi_ trivial rfl)⟩
  conv => whnf
  injection H with H; subst H
  exact ret_fz [] (rtA_eq rfl)
theorem spec_PlantIndexOf.l0_lp {F : (Exit → St → Prop) → St → Prop} {hv : List Tmp} {Q : Exit → St → Prop} {σ : St} {r : (List ByteArray) × (List S_impl_PlantMark)} {k : Nat} {a0_0 : List ByteArray} {a0_1 : List S_impl_PlantFoe} {a0_2 : List S_impl_PlantPlace} {a0_3 : List S_impl_PlantValve} {l1 : List ByteArray} {x6 : Int} {x1024000 : List ByteArray} {x1024001 : List S_impl_PlantMark} (H : spec_PlantIndexOf.l0 k a0_0 a0_1 a0_2 a0_3 l1 x6 x1024000 x1024001 = some r) (rn : List (Option Nat)) (h1 : Fits σ σ [24] [(6, .int .i64 x6)] [(24, .box [(sv_str x1024000), .own 0 x1024001.length])] [.arr 133 2 (x1024001.map en_S_impl_PlantMark)] rn)
    (h2 : ∀ (k0 : Nat) (x6 : Int) (x1024000 : List ByteArray) (x1024001 : List S_impl_PlantMark), k0 < k + 1 → spec_PlantIndexOf.l0 k0 a0_0 a0_1 a0_2 a0_3 l1 x6 x1024000 x1024001 = some r → headN σ hv [24] [(6, .int .i64 x6)] [(24, .box [(sv_str x1024000), .own 0 x1024001.length])] [.arr 133 2 (x1024001.map en_S_impl_PlantMark)] (F (fun e σ' => match e with | .normal => ∃ (y : Nat × Int × (List ByteArray) × (List S_impl_PlantMark)) (rn : List (Option Nat)), (spec_PlantIndexOf.l0 y.1 a0_0 a0_1 a0_2 a0_3 l1 y.2.1 y.2.2.1 y.2.2.2 = some r ∧ y.1 < k + 1) ∧ y.1 < k0 ∧ Fits σ σ' [24] [(6, .int .i64 y.2.1)] [(24, .box [(sv_str y.2.2.1), .own 0 y.2.2.2.length])] [.arr 133 2 (y.2.2.2.map en_S_impl_PlantMark)] rn | e => Q e σ'))) : Lp F hv Q σ := by
  unfold Lp
  refine ⟨Nat × Int × (List ByteArray) × (List S_impl_PlantMark), fun x => spec_PlantIndexOf.l0 x.1 a0_0 a0_1 a0_2 a0_3 l1 x.2.1 x.2.2.1 x.2.2.2 = some r ∧ x.1 < k + 1, fun x => x.1, [24], fun x => [(6, .int .i64 x.2.1)], fun x => [(24, .box [(sv_str x.2.2.1), .own 0 x.2.2.2.length])], fun x => [.arr 133 2 (x.2.2.2.map en_S_impl_PlantMark)], ⟨(k, x6, x1024000, x1024001), rn, ⟨H, Nat.lt_succ_self _⟩, h1⟩, ?_⟩
  rintro ⟨k, x6, x1024000, x1024001⟩ ⟨H, hk⟩
  exact h2 k x6 x1024000 x1024001 hk H
theorem spec_PlantIndexOf.ac {k : Nat} {a0_0 : List ByteArray} {a0_1 : List S_impl_PlantFoe} {a0_2 : List S_impl_PlantPlace} {a0_3 : List S_impl_PlantValve} {l1 : List ByteArray} {r : (List ByteArray) × (List S_impl_PlantMark)} (H : spec_PlantIndexOf.f k a0_0 a0_1 a0_2 a0_3 l1 = some r) : ACalls Try.prog G 41 [] [.agg [(sv_str a0_0), (sv_S_impl_PlantFoe a0_1), (sv_S_impl_PlantPlace a0_2), (sv_S_impl_PlantValve a0_3)], (sv_str l1)] [] (.agg [(sv_str r.1), (sv_S_impl_PlantMark r.2)]) := by
  refine acalls_of tok hP Try.func41 rfl (by kernel_rfl) [.cell 4 65] rfl (by kernel_rfl) (Nat.le_of_ble_eq_true rfl) (.l .n (.l .n (.l .n (.c .n (.l (.l .n (.l .n (.c (.c .n .n) .n))) .n))))) rfl ?_
  unfold spec_PlantIndexOf.f at H
  conv => whnf
  revert H; refine bind_elim (fun t9954 A H => ?_)
  refine call_mk (spec_PlantValid.ac A) (avAL_cons (avA_agg (avL_cons (av_shut' rfl) (avL_cons (av_shut' rfl) (avL_cons (av_shut' rfl) (avL_cons (av_shut' rfl) (avL_nil)))))) (avAL_nil)) (Or.inl rfl) rfl rfl (Nat.le_of_ble_eq_true rfl) ?_
  conv => whnf
  refine br_nt H (fun c H => ?_) (fun c H => ?_)
  conv => whnf
  revert H; refine bind_elim (fun t9956 A H => ?_)
  refine call_mk (spec_l6Known.ac A) (avAL_cons (avA_agg (avL_cons (av_shut' rfl) (avL_cons (av_shut' rfl) (avL_cons (av_shut' rfl) (avL_cons (av_shut' rfl) (avL_nil)))))) (avAL_cons (avA_shut' rfl) (avAL_nil))) (Or.inl rfl) rfl rfl (Nat.le_of_ble_eq_true rfl) ?_
  conv => whnf
  refine cut_ 104 [(1, (sv_str l1)), (2, .bp 0 0), (4, .bp 8 0), (5, .bp 24 0)] [(0, .box [(sv_str a0_0), (sv_S_impl_PlantFoe a0_1), (sv_S_impl_PlantPlace a0_2), (sv_S_impl_PlantValve a0_3)]), (8, .box [.nil, .nil]), (24, .box [(sv_str t9956), .nil])] rfl ⟨.inl rfl, ⟨.inl rfl, ⟨.inl rfl, ⟨.inl rfl, trivial⟩⟩⟩⟩ ⟨rfl, ⟨rfl, ⟨rfl, trivial⟩⟩⟩ ?_
  conv => whnf
  refine spec_PlantIndexOf.l0_lp (a0_0 := a0_0) (a0_1 := a0_1) (a0_2 := a0_2) (a0_3 := a0_3) (l1 := l1) (k := k) H [none] (fits_of ⟨.inl ⟨rfl, rfl⟩, trivial⟩ ⟨⟨_, _, rfl⟩, trivial⟩ fi_ ⟨⟨_, rfl⟩, ⟨_, rfl, ⟨.inl ⟨rfl, rfl⟩, ⟨⟨rfl, rfl⟩, trivial⟩⟩⟩, trivial⟩ rfl) ?_
  intro k x6 x1024000 x1024001 hk H; rcases k with _ | k; exact none_elim H; rw [spec_PlantIndexOf.l0] at H; conv => whnf
  refine br_d H (fun c H => ?_) (fun c H => ?_)
  conv => whnf
  refine nd_ H (fun c H => ?_)
  conv => whnf
  refine Nd.mk nf_ ?_
  conv => whnf
  refine El.mk (rdm_en_S_impl_PlantPlace _ _ nf_ nf_) ?_
  conv => whnf
  refine cut_ 209 [(1, (sv_str l1)), (2, .bp 0 0), (4, .bp 8 0), (5, .bp 24 0), (6, .int .i64 x6), (7, .str ((rd_impl_PlantPlace a0_2 x6).f0))] [(0, .box [(sv_str a0_0), (sv_S_impl_PlantFoe a0_1), (sv_S_impl_PlantPlace a0_2), (sv_S_impl_PlantValve a0_3)]), (8, .box [.nil, .nil]), (24, .box [(sv_str x1024000), .own 112 x1024001.length]), (112, .arr 133 2 (x1024001.map en_S_impl_PlantMark))] rfl ⟨.inl rfl, ⟨.inl rfl, ⟨.inl rfl, ⟨.inl rfl, ⟨.inl rfl, ⟨.inl rfl, trivial⟩⟩⟩⟩⟩⟩ ⟨rfl, ⟨rfl, ⟨rfl, ⟨rfl, trivial⟩⟩⟩⟩ ?_
  conv => whnf
  revert H; refine bind_elim (fun t9961 A H => ?_)
  refine call_mk (spec_l4Group.ac A) (avAL_cons (avA_agg (avL_cons (av_shut' rfl) (avL_cons (av_shut' rfl) (avL_cons (av_shut' rfl) (avL_cons (av_shut' rfl) (avL_nil)))))) (avAL_cons (avA_shut' rfl) (avAL_cons (avA_shut' rfl) (avAL_nil)))) (Or.inl rfl) rfl rfl (Nat.le_of_ble_eq_true rfl) ?_
  conv => whnf
  refine Nd.mk (by decide) ?_
  conv => whnf
  refine nd_ H (fun c H => ?_)
  conv => whnf
  refine El.mk (rdm_en_str _ _ nf_ nf_) ?_
  conv => whnf
  refine Or.inl ?_
  conv => whnf
  refine nd_ H (fun c H => ?_)
  conv => whnf
  refine cut_ 321 [(1, (sv_str l1)), (2, .bp 0 0), (4, .bp 8 0), (5, .bp 24 0), (6, .int .i64 x6)] [(0, .box [(sv_str a0_0), (sv_S_impl_PlantFoe a0_1), (sv_S_impl_PlantPlace a0_2), (sv_S_impl_PlantValve a0_3)]), (8, .box [.nil, .nil]), (24, .box [(sv_str x1024000), .own 297 (x1024001.length + 1)]), (297, .arr 133 2 ((x1024001 ++ ([(⟨(rd_impl_PlantPlace a0_2 x6).f0, rdOf ByteArray.empty t9961 0⟩ : S_impl_PlantMark)] : List S_impl_PlantMark)).map en_S_impl_PlantMark))] rfl ⟨.inl rfl, ⟨.inl rfl, ⟨.inl rfl, ⟨.inl rfl, ⟨.inl rfl, trivial⟩⟩⟩⟩⟩ ⟨rfl, ⟨rfl, ⟨rfl, ⟨fm_, trivial⟩⟩⟩⟩ ?_
  conv => whnf
  exact ⟨(k, wrap64 (x6 + 1), _, (x1024001 ++ ([(⟨(rd_impl_PlantPlace a0_2 x6).f0, rdOf ByteArray.empty t9961 0⟩ : S_impl_PlantMark)] : List S_impl_PlantMark))), [some 297], ⟨H, lt_⟩, lt_, (fits_of ⟨.inl ⟨rfl, rfl⟩, trivial⟩ ⟨rfl, trivial⟩ fi_ ⟨⟨_, rfl⟩, ⟨_, rfl, ⟨.inl ⟨rfl, rfl⟩, ⟨mt_own lm_, trivial⟩⟩⟩, trivial⟩ rfl)⟩
  conv => whnf
  injection H with H; subst H
  exact ret_fz [112] (rtA_agg (rtL_cons (rt_eq rfl) (rtL_cons (rt_fz' rfl rfl) (rtL_nil))))
  conv => whnf
  injection H with H; subst H
  exact ret_fz [] (rtA_agg (rtL_cons (rt_nil) (rtL_cons (rt_nil) (rtL_nil))))
theorem laws_wpTexts.l0_lp {F : (Exit → St → Prop) → St → Prop} {hv : List Tmp} {Q : Exit → St → Prop} {σ : St} {r : Bool} {k : Nat} {l0 : List ByteArray} {l1 : List ByteArray} {x5 : Int} (H : laws_wpTexts.l0 k l0 l1 x5 = some r) (rn : List (Option Nat)) (h1 : Fits σ σ [] [(5, .int .i64 x5)] [] [] rn)
    (h2 : ∀ (k0 : Nat) (x5 : Int), k0 < k + 1 → laws_wpTexts.l0 k0 l0 l1 x5 = some r → headN σ hv [] [(5, .int .i64 x5)] [] [] (F (fun e σ' => match e with | .normal => ∃ (y : Nat × Int) (rn : List (Option Nat)), (laws_wpTexts.l0 y.1 l0 l1 y.2 = some r ∧ y.1 < k + 1) ∧ y.1 < k0 ∧ Fits σ σ' [] [(5, .int .i64 y.2)] [] [] rn | e => Q e σ'))) : Lp F hv Q σ := by
  unfold Lp
  refine ⟨Nat × Int, fun x => laws_wpTexts.l0 x.1 l0 l1 x.2 = some r ∧ x.1 < k + 1, fun x => x.1, [], fun x => [(5, .int .i64 x.2)], fun x => [], fun x => [], ⟨(k, x5), rn, ⟨H, Nat.lt_succ_self _⟩, h1⟩, ?_⟩
  rintro ⟨k, x5⟩ ⟨H, hk⟩
  exact h2 k x5 hk H
theorem laws_wpTexts.ac {k : Nat} {l0 : List ByteArray} {l1 : List ByteArray} {r : Bool} (H : laws_wpTexts.f k l0 l1 = some r) : ACalls Try.prog G 64 [] [(sv_str l0), (sv_str l1)] [] (.bool r) := by
  refine acalls_of tok hP Try.func64 rfl (by kernel_rfl) [.tmp 4] rfl (by kernel_rfl) (Nat.le_of_ble_eq_true rfl) (.l .n (.l .n (.l (.l .n (.l (.c .n .n) (.l (.l .n (.l (.c .n .n) .n)) .n))) .n))) rfl ?_
  unfold laws_wpTexts.f at H
  conv => whnf
  refine br_nd H (fun c H => ?_) (fun c H => ?_)
  conv => whnf
  refine laws_wpTexts.l0_lp (l0 := l0) (l1 := l1) (k := k) H [] (fits_of ⟨.inl ⟨rfl, rfl⟩, trivial⟩ trivial fi_ trivial rfl) ?_
  intro k x5 hk H; rcases k with _ | k; exact none_elim H; rw [laws_wpTexts.l0] at H; conv => whnf
  refine cut_ 88 [(0, (sv_str l0)), (1, (sv_str l1)), (5, .int .i64 x5), (14, .bool (decide (x5 < (l0.length : Int))))] [] rfl ⟨.inl rfl, ⟨.inl rfl, ⟨.inl rfl, ⟨.inl rfl, trivial⟩⟩⟩⟩ trivial ?_
  conv => whnf
  refine br_d H (fun c H => ?_) (fun c H => ?_)
  conv => whnf
  refine nd_ H (fun c H => ?_)
  conv => whnf
  refine Nd.mk nf_ ?_
  conv => whnf
  refine El.mk (rdm_en_str _ _ nf_ nf_) ?_
  conv => whnf
  refine Nd.mk nf_ ?_
  conv => whnf
  refine nd_ H (fun c H => ?_)
  conv => whnf
  refine El.mk (rdm_en_str _ _ nf_ nf_) ?_
  conv => whnf
  refine br_nd H (fun c H => ?_) (fun c H => ?_)
  conv => whnf
  exact ⟨(k, wrap64 (x5 + 1)), [], ⟨H, lt_⟩, lt_, (fits_of ⟨.inl ⟨rfl, rfl⟩, trivial⟩ trivial fi_ trivial rfl)⟩
  conv => whnf
  refine cut_ 168 [(4, .bool false)] [] rfl ⟨.inl rfl, trivial⟩ trivial ?_
  conv => whnf
  injection H with H; subst H
  exact ret_fz [] (rtA_eq rfl)
  conv => whnf
  injection H with H; subst H
  exact ret_fz [] (rtA_eq rfl)
  conv => whnf
  injection H with H; subst H
  exact ret_fz [] (rtA_eq rfl)
theorem laws_wpIndex.l0_lp {F : (Exit → St → Prop) → St → Prop} {hv : List Tmp} {Q : Exit → St → Prop} {σ : St} {r : Bool} {k : Nat} {a0_1 : List S_impl_PlantMark} {a1_1 : List S_impl_PlantMark} {x5 : Int} (H : laws_wpIndex.l0 k a0_1 a1_1 x5 = some r) (rn : List (Option Nat)) (h1 : Fits σ σ [] [(5, .int .i64 x5)] [] [] rn)
    (h2 : ∀ (k0 : Nat) (x5 : Int), k0 < k + 1 → laws_wpIndex.l0 k0 a0_1 a1_1 x5 = some r → headN σ hv [] [(5, .int .i64 x5)] [] [] (F (fun e σ' => match e with | .normal => ∃ (y : Nat × Int) (rn : List (Option Nat)), (laws_wpIndex.l0 y.1 a0_1 a1_1 y.2 = some r ∧ y.1 < k + 1) ∧ y.1 < k0 ∧ Fits σ σ' [] [(5, .int .i64 y.2)] [] [] rn | e => Q e σ'))) : Lp F hv Q σ := by
  unfold Lp
  refine ⟨Nat × Int, fun x => laws_wpIndex.l0 x.1 a0_1 a1_1 x.2 = some r ∧ x.1 < k + 1, fun x => x.1, [], fun x => [(5, .int .i64 x.2)], fun x => [], fun x => [], ⟨(k, x5), rn, ⟨H, Nat.lt_succ_self _⟩, h1⟩, ?_⟩
  rintro ⟨k, x5⟩ ⟨H, hk⟩
  exact h2 k x5 hk H
theorem laws_wpIndex.ac {k : Nat} {a0_0 : List ByteArray} {a0_1 : List S_impl_PlantMark} {a1_0 : List ByteArray} {a1_1 : List S_impl_PlantMark} {r : Bool} (H : laws_wpIndex.f k a0_0 a0_1 a1_0 a1_1 = some r) : ACalls Try.prog G 70 [] [.agg [(sv_str a0_0), (sv_S_impl_PlantMark a0_1)], .agg [(sv_str a1_0), (sv_S_impl_PlantMark a1_1)]] [] (.bool r) := by
  refine acalls_of tok hP Try.func70 rfl (by kernel_rfl) [.tmp 4] rfl (by kernel_rfl) (Nat.le_of_ble_eq_true rfl) (.l .n (.l (.c .n (.l (.c .n .n) .n)) (.l (.c .n (.l .n (.l (.c .n .n) .n))) .n))) rfl ?_
  unfold laws_wpIndex.f at H
  conv => whnf
  revert H; refine bind_elim (fun t10095 A H => ?_)
  refine call_mk (laws_wpTexts.ac A) (avAL_cons (avA_shut' rfl) (avAL_cons (avA_shut' rfl) (avAL_nil))) (Or.inl rfl) rfl rfl (Nat.le_of_ble_eq_true rfl) ?_
  conv => whnf
  refine br_nt H (fun c H => ?_) (fun c H => ?_)
  conv => whnf
  refine Br.f ff_ ?_
  conv => whnf
  refine Br.f ff_ ?_
  conv => whnf
  refine Br.f ff_ ?_
  conv => whnf
  refine Br.f ff_ ?_
  conv => whnf
  refine Br.f ff_ ?_
  conv => whnf
  refine Br.f ff_ ?_
  conv => whnf
  refine Br.f ff_ ?_
  conv => whnf
  refine cut_ 144 [(2, .bp 0 0), (3, .bp 8 0), (20, .bool (!(decide ((a0_1.length : Int) = (a1_1.length : Int)))))] [(0, .box [(sv_str a0_0), (sv_S_impl_PlantMark a0_1)]), (8, .box [(sv_str a1_0), (sv_S_impl_PlantMark a1_1)])] rfl ⟨.inl rfl, ⟨.inl rfl, ⟨.inl rfl, trivial⟩⟩⟩ ⟨rfl, ⟨rfl, trivial⟩⟩ ?_
  conv => whnf
  refine br_nd H (fun c H => ?_) (fun c H => ?_)
  conv => whnf
  refine cut_ 152 [(2, .bp 0 0), (3, .bp 8 0), (5, .int .i64 0)] [(0, .box [(sv_str a0_0), (sv_S_impl_PlantMark a0_1)]), (8, .box [(sv_str a1_0), (sv_S_impl_PlantMark a1_1)])] rfl ⟨.inl rfl, ⟨.inl rfl, ⟨.inl rfl, trivial⟩⟩⟩ ⟨rfl, ⟨rfl, trivial⟩⟩ ?_
  conv => whnf
  refine laws_wpIndex.l0_lp (a0_1 := a0_1) (a1_1 := a1_1) (k := k) H [] (fits_of ⟨.inl ⟨rfl, rfl⟩, trivial⟩ trivial fi_ trivial rfl) ?_
  intro k x5 hk H; rcases k with _ | k; exact none_elim H; rw [laws_wpIndex.l0] at H; conv => whnf
  refine br_d H (fun c H => ?_) (fun c H => ?_)
  conv => whnf
  refine nd_ H (fun c H => ?_)
  conv => whnf
  refine Nd.mk nf_ ?_
  conv => whnf
  refine El.mk (rdm_en_S_impl_PlantMark _ _ nf_ nf_) ?_
  conv => whnf
  refine Nd.mk nf_ ?_
  conv => whnf
  refine nd_ H (fun c H => ?_)
  conv => whnf
  refine El.mk (rdm_en_S_impl_PlantMark _ _ nf_ nf_) ?_
  conv => whnf
  refine cut_ 280 [(2, .bp 0 0), (3, .bp 8 0), (5, .int .i64 x5), (38, .bool (!(decide (((rd_impl_PlantMark a0_1 x5).f0).toList = ((rd_impl_PlantMark a1_1 x5).f0).toList) && (decide (((rd_impl_PlantMark a0_1 x5).f1).toList = ((rd_impl_PlantMark a1_1 x5).f1).toList) && true))))] [(0, .box [(sv_str a0_0), (sv_S_impl_PlantMark a0_1)]), (8, .box [(sv_str a1_0), (sv_S_impl_PlantMark a1_1)])] rfl ⟨.inl rfl, ⟨.inl rfl, ⟨.inl rfl, ⟨.inl rfl, trivial⟩⟩⟩⟩ ⟨rfl, ⟨rfl, trivial⟩⟩ ?_
  conv => whnf
  refine br_nt H (fun c H => ?_) (fun c H => ?_)
  conv => whnf
  exact ⟨(k, wrap64 (x5 + 1)), [], ⟨H, lt_⟩, lt_, (fits_of ⟨.inl ⟨rfl, rfl⟩, trivial⟩ trivial fi_ trivial rfl)⟩
  conv => whnf
  injection H with H; subst H
  exact ret_fz [] (rtA_eq rfl)
  conv => whnf
  injection H with H; subst H
  exact ret_fz [] (rtA_eq rfl)
  conv => whnf
  refine cut_ 152 [(4, .bool false)] [] rfl ⟨.inl rfl, trivial⟩ trivial ?_
  conv => whnf
  injection H with H; subst H
  exact ret_fz [] (rtA_eq rfl)
  conv => whnf
  refine Br.t ft_ ?_
  conv => whnf
  refine Br.t ft_ ?_
  conv => whnf
  refine Br.t ft_ ?_
  conv => whnf
  refine Br.t ft_ ?_
  conv => whnf
  refine Br.t ft_ ?_
  conv => whnf
  refine Br.t ft_ ?_
  conv => whnf
  refine Br.t ft_ ?_
  conv => whnf
  refine cut_ 144 [(2, .bp 0 0), (3, .bp 8 0), (20, .bool true)] [(0, .box [(sv_str a0_0), (sv_S_impl_PlantMark a0_1)]), (8, .box [(sv_str a1_0), (sv_S_impl_PlantMark a1_1)])] rfl ⟨.inl rfl, ⟨.inl rfl, ⟨.inl rfl, trivial⟩⟩⟩ ⟨rfl, ⟨rfl, trivial⟩⟩ ?_
  conv => whnf
  refine Br.t rfl ?_
  conv => whnf
  refine cut_ 152 [(4, .bool false)] [] rfl ⟨.inl rfl, trivial⟩ trivial ?_
  conv => whnf
  injection H with H; subst H
  exact ret_fz [] (rtA_eq rfl)
theorem impl_without.l0_lp {F : (Exit → St → Prop) → St → Prop} {hv : List Tmp} {Q : Exit → St → Prop} {σ : St} {r : List ByteArray} {k : Nat} {l0 : List ByteArray} {a1 : ByteArray} {x5 : List ByteArray} {x10 : Int} (H : impl_without.l0 k l0 a1 x5 x10 = some r) (rn : List (Option Nat)) (h1 : Fits σ σ [] [(5, .own 0 x5.length), (10, .int .i64 x10)] [] [.arr 9 1 (x5.map en_str)] rn)
    (h2 : ∀ (k0 : Nat) (x5 : List ByteArray) (x10 : Int), k0 < k + 1 → impl_without.l0 k0 l0 a1 x5 x10 = some r → headN σ hv [] [(5, .own 0 x5.length), (10, .int .i64 x10)] [] [.arr 9 1 (x5.map en_str)] (F (fun e σ' => match e with | .normal => ∃ (y : Nat × (List ByteArray) × Int) (rn : List (Option Nat)), (impl_without.l0 y.1 l0 a1 y.2.1 y.2.2 = some r ∧ y.1 < k + 1) ∧ y.1 < k0 ∧ Fits σ σ' [] [(5, .own 0 y.2.1.length), (10, .int .i64 y.2.2)] [] [.arr 9 1 (y.2.1.map en_str)] rn | e => Q e σ'))) : Lp F hv Q σ := by
  unfold Lp
  refine ⟨Nat × (List ByteArray) × Int, fun x => impl_without.l0 x.1 l0 a1 x.2.1 x.2.2 = some r ∧ x.1 < k + 1, fun x => x.1, [], fun x => [(5, .own 0 x.2.1.length), (10, .int .i64 x.2.2)], fun x => [], fun x => [.arr 9 1 (x.2.1.map en_str)], ⟨(k, x5, x10), rn, ⟨H, Nat.lt_succ_self _⟩, h1⟩, ?_⟩
  rintro ⟨k, x5, x10⟩ ⟨H, hk⟩
  exact h2 k x5 x10 hk H
theorem impl_without.ac {k : Nat} {l0 : List ByteArray} {a1 : ByteArray} {r : List ByteArray} (H : impl_without.f k l0 a1 = some r) : ACalls Try.prog G 111 [] [(sv_str l0), .str a1] [] ((sv_str r)) := by
  refine acalls_of tok hP Try.func111 rfl (by kernel_rfl) [.tmp 4] rfl (by kernel_rfl) (Nat.le_of_ble_eq_true rfl) (.l .n (.l .n (.l (.l .n (.l .n (.l .n (.l (.l .n (.c .n .n)) .n)))) .n))) rfl ?_
  unfold impl_without.f at H
  conv => whnf
  refine impl_without.l0_lp (l0 := l0) (a1 := a1) (k := k) H [none] (fits_of ⟨⟨rfl, rfl⟩, ⟨.inl ⟨rfl, rfl⟩, trivial⟩⟩ ⟨⟨_, _, rfl⟩, trivial⟩ fi_ trivial rfl) ?_
  intro k x5 x10 hk H; rcases k with _ | k; exact none_elim H; rw [impl_without.l0] at H; conv => whnf
  refine br_d H (fun c H => ?_) (fun c H => ?_)
  conv => whnf
  refine nd_ H (fun c H => ?_)
  conv => whnf
  refine Nd.mk nf_ ?_
  conv => whnf
  refine El.mk (rdm_en_str _ _ nf_ nf_) ?_
  conv => whnf
  refine cut_ 97 [(1, .str a1), (5, .own 40 x5.length), (7, .str (rdOf ByteArray.empty l0 x10)), (8, (sv_str l0)), (9, .int .i64 (l0.length : Int)), (10, .int .i64 x10), (16, .bool (!(decide ((rdOf ByteArray.empty l0 x10).toList = a1.toList))))] [(40, .arr 9 1 (x5.map en_str))] rfl ⟨.inl rfl, ⟨.inl rfl, ⟨.inl rfl, ⟨.inl rfl, ⟨.inl rfl, ⟨.inl rfl, ⟨.inl rfl, trivial⟩⟩⟩⟩⟩⟩⟩ ⟨rfl, trivial⟩ ?_
  conv => whnf
  refine br_nd H (fun c H => ?_) (fun c H => ?_)
  conv => whnf
  exact ⟨(k, x5, wrap64 (x10 + 1)), [some 40], ⟨H, lt_⟩, lt_, (fits_of ⟨rfl, ⟨.inl ⟨rfl, rfl⟩, trivial⟩⟩ ⟨rfl, trivial⟩ fi_ trivial rfl)⟩
  conv => whnf
  refine Or.inl ?_
  conv => whnf
  refine nd_ H (fun c H => ?_)
  conv => whnf
  exact ⟨(k, (x5 ++ ([rdOf ByteArray.empty l0 x10] : List ByteArray)), wrap64 (x10 + 1)), [some 121], ⟨H, lt_⟩, lt_, (fits_of ⟨mt_own lm_, ⟨.inl ⟨rfl, rfl⟩, trivial⟩⟩ ⟨fm_, trivial⟩ fi_ trivial rfl)⟩
  conv => whnf
  injection H with H; subst H
  exact ret_fz [40] (rtA_fz' rfl rfl)
theorem impl_without.l0_lpO {F : (Exit → St → Prop) → St → Prop} {hv : List Tmp} {Q : Exit → St → Prop} {σ : St} {r : List ByteArray} {k : Nat} {l0 : List ByteArray} {a1 : ByteArray} {x5 : List ByteArray} {x10 : Int} (H : impl_without.l0 k l0 a1 x5 x10 = some r) (rn : List (Option Nat)) (h1 : Fits σ σ [] [(5, .own 0 x5.length), (10, .int .i64 x10)] [] [.arr 9 1 (x5.map en_str)] rn)
    (h2 : ∀ (k0 : Nat) (x5 : List ByteArray) (x10 : Int), k0 < k + 1 → impl_without.l0 k0 l0 a1 x5 x10 = some r → headN σ hv [] [(5, .own 0 x5.length), (10, .int .i64 x10)] [] [.arr 9 1 (x5.map en_str)] (F (fun e σ' => match e with | .normal => ∃ (y : Nat × (List ByteArray) × Int) (rn : List (Option Nat)), (impl_without.l0 y.1 l0 a1 y.2.1 y.2.2 = some r ∧ y.1 < k + 1) ∧ y.1 < k0 ∧ Fits σ σ' [] [(5, .own 0 y.2.1.length), (10, .int .i64 y.2.2)] [] [.arr 9 1 (y.2.1.map en_str)] rn | e => Q e σ'))) : Lp F hv Q σ := by
  unfold Lp
  refine ⟨Nat × (List ByteArray) × Int, fun x => impl_without.l0 x.1 l0 a1 x.2.1 x.2.2 = some r ∧ x.1 < k + 1, fun x => x.1, [], fun x => [(5, .own 0 x.2.1.length), (10, .int .i64 x.2.2)], fun x => [], fun x => [.arr 9 1 (x.2.1.map en_str)], ⟨(k, x5, x10), rn, ⟨H, Nat.lt_succ_self _⟩, h1⟩, ?_⟩
  rintro ⟨k, x5, x10⟩ ⟨H, hk⟩
  exact h2 k x5 x10 hk H
theorem impl_without.acO {k : Nat} {l0 : List ByteArray} {a1 : ByteArray} {r : List ByteArray} (H : impl_without.f k l0 a1 = some r) : ACalls Try.prog G 111 [] [(sv_str l0), .str a1] [.arr 9 1 (r.map en_str)] (.own 0 r.length) := by
  refine acalls_of tok hP Try.func111 rfl (by kernel_rfl) [.tmp 4] rfl (by kernel_rfl) (Nat.le_of_ble_eq_true rfl) (.l .n (.l .n (.l (.l .n (.l .n (.l .n (.l (.l .n (.c .n .n)) .n)))) .n))) rfl ?_
  unfold impl_without.f at H
  conv => whnf
  refine impl_without.l0_lpO (l0 := l0) (a1 := a1) (k := k) H [none] (fits_of ⟨⟨rfl, rfl⟩, ⟨.inl ⟨rfl, rfl⟩, trivial⟩⟩ ⟨⟨_, _, rfl⟩, trivial⟩ fi_ trivial rfl) ?_
  intro k x5 x10 hk H; rcases k with _ | k; exact none_elim H; rw [impl_without.l0] at H; conv => whnf
  refine br_d H (fun c H => ?_) (fun c H => ?_)
  conv => whnf
  refine nd_ H (fun c H => ?_)
  conv => whnf
  refine Nd.mk nf_ ?_
  conv => whnf
  refine El.mk (rdm_en_str _ _ nf_ nf_) ?_
  conv => whnf
  refine cut_ 97 [(1, .str a1), (5, .own 40 x5.length), (7, .str (rdOf ByteArray.empty l0 x10)), (8, (sv_str l0)), (9, .int .i64 (l0.length : Int)), (10, .int .i64 x10), (16, .bool (!(decide ((rdOf ByteArray.empty l0 x10).toList = a1.toList))))] [(40, .arr 9 1 (x5.map en_str))] rfl ⟨.inl rfl, ⟨.inl rfl, ⟨.inl rfl, ⟨.inl rfl, ⟨.inl rfl, ⟨.inl rfl, ⟨.inl rfl, trivial⟩⟩⟩⟩⟩⟩⟩ ⟨rfl, trivial⟩ ?_
  conv => whnf
  refine br_nd H (fun c H => ?_) (fun c H => ?_)
  conv => whnf
  exact ⟨(k, x5, wrap64 (x10 + 1)), [some 40], ⟨H, lt_⟩, lt_, (fits_of ⟨rfl, ⟨.inl ⟨rfl, rfl⟩, trivial⟩⟩ ⟨rfl, trivial⟩ fi_ trivial rfl)⟩
  conv => whnf
  refine Or.inl ?_
  conv => whnf
  refine nd_ H (fun c H => ?_)
  conv => whnf
  exact ⟨(k, (x5 ++ ([rdOf ByteArray.empty l0 x10] : List ByteArray)), wrap64 (x10 + 1)), [some 121], ⟨H, lt_⟩, lt_, (fits_of ⟨mt_own lm_, ⟨.inl ⟨rfl, rfl⟩, trivial⟩⟩ ⟨fm_, trivial⟩ fi_ trivial rfl)⟩
  conv => whnf
  injection H with H; subst H
  exact ret_gen [some 40] [] ((rfl)) ⟨rfl, trivial⟩ rfl
theorem impl_PlantTurn.ac {k : Nat} {a0_0 : List ByteArray} {a0_1 : List S_impl_PlantFoe} {a0_2 : List S_impl_PlantPlace} {a0_3 : List S_impl_PlantValve} {a1_0 : List ByteArray} {a1_1 : List S_impl_PlantMark} {a2 : ByteArray} {a3 : Bool} {r : (List ByteArray) × (List S_impl_PlantMark)} (H : impl_PlantTurn.f k a0_0 a0_1 a0_2 a0_3 a1_0 a1_1 a2 a3 = some r) : ACalls Try.prog G 49 [] [.agg [(sv_str a0_0), (sv_S_impl_PlantFoe a0_1), (sv_S_impl_PlantPlace a0_2), (sv_S_impl_PlantValve a0_3)], .agg [(sv_str a1_0), (sv_S_impl_PlantMark a1_1)], .str a2, .bool a3] [] (.agg [(sv_str r.1), (sv_S_impl_PlantMark r.2)]) := by
  refine acalls_of tok hP Try.func49 rfl (by kernel_rfl) [.cell 8 65] rfl (by kernel_rfl) (Nat.le_of_ble_eq_true rfl) (.l .n (.l .n (.c .n (.c .n .n)))) rfl ?_
  unfold impl_PlantTurn.f at H
  conv => whnf
  revert H; refine bind_elim (fun t10327 A H => ?_)
  refine call_mk (impl_without.acO A) (avAL_cons (avA_shut' rfl) (avAL_cons (avA_shut' rfl) (avAL_nil))) (Or.inl rfl) rfl rfl (Nat.le_of_ble_eq_true rfl) ?_
  conv => whnf
  refine br_t H (fun c H => ?_) (fun c H => ?_)
  conv => whnf
  refine Or.inl ?_
  conv => whnf
  refine nd_ H (fun c H => ?_)
  conv => whnf
  refine cut_ 112 [(4, .bp 0 0), (8, .bp 16 0), (9, .own 96 (t10327.length + 1))] [(0, .box [(sv_str a0_0), (sv_S_impl_PlantFoe a0_1), (sv_S_impl_PlantPlace a0_2), (sv_S_impl_PlantValve a0_3)]), (16, .box [.nil, .nil]), (96, .arr 9 1 ((t10327 ++ ([a2] : List ByteArray)).map en_str))] rfl ⟨.inl rfl, ⟨.inl rfl, ⟨.inl rfl, trivial⟩⟩⟩ ⟨rfl, ⟨rfl, ⟨fm_, trivial⟩⟩⟩ ?_
  conv => whnf
  revert H; refine bind_elim (fun t10330 A H => ?_)
  refine call_mk (impl_PlantIndexOf.acO A) (avAL_cons (avA_agg (avL_cons (av_shut' rfl) (avL_cons (av_shut' rfl) (avL_cons (av_shut' rfl) (avL_cons (av_shut' rfl) (avL_nil)))))) (avAL_cons (avA_ownX rfl rfl lm_ lm_) (avAL_nil))) (Or.inr ⟨rfl, bo_cons (bo_arr bare_en_str) (bo_cons (bo_arr bare_en_S_impl_PlantMark) (bo_nil))⟩) rfl rfl (Nat.le_of_ble_eq_true rfl) ?_
  conv => whnf
  refine cut_ 144 [(8, .bp 16 0)] [(16, .box [.own 128 t10330.1.length, .own 129 t10330.2.length]), (128, .arr 9 1 (t10330.1.map en_str)), (129, .arr 133 2 (t10330.2.map en_S_impl_PlantMark))] rfl ⟨.inl rfl, trivial⟩ ⟨rfl, ⟨rfl, ⟨rfl, trivial⟩⟩⟩ ?_
  conv => whnf
  injection H with H; subst H
  exact ret_fz [128, 129] (rtA_agg (rtL_cons (rt_fz' rfl rfl) (rtL_cons (rt_fz' rfl rfl) (rtL_nil))))
  conv => whnf
  refine cut_ 72 [(4, .bp 0 0), (8, .bp 16 0), (9, .own 48 t10327.length)] [(0, .box [(sv_str a0_0), (sv_S_impl_PlantFoe a0_1), (sv_S_impl_PlantPlace a0_2), (sv_S_impl_PlantValve a0_3)]), (16, .box [.nil, .nil]), (48, .arr 9 1 (t10327.map en_str))] rfl ⟨.inl rfl, ⟨.inl rfl, ⟨.inl rfl, trivial⟩⟩⟩ ⟨rfl, ⟨rfl, ⟨rfl, trivial⟩⟩⟩ ?_
  conv => whnf
  revert H; refine bind_elim (fun t10331 A H => ?_)
  refine call_mk (impl_PlantIndexOf.acO A) (avAL_cons (avA_agg (avL_cons (av_shut' rfl) (avL_cons (av_shut' rfl) (avL_cons (av_shut' rfl) (avL_cons (av_shut' rfl) (avL_nil)))))) (avAL_cons (avA_own rfl rfl) (avAL_nil))) (Or.inr ⟨rfl, bo_cons (bo_arr bare_en_str) (bo_cons (bo_arr bare_en_S_impl_PlantMark) (bo_nil))⟩) rfl rfl (Nat.le_of_ble_eq_true rfl) ?_
  conv => whnf
  refine cut_ 104 [(8, .bp 16 0)] [(16, .box [.own 88 t10331.1.length, .own 89 t10331.2.length]), (88, .arr 9 1 (t10331.1.map en_str)), (89, .arr 133 2 (t10331.2.map en_S_impl_PlantMark))] rfl ⟨.inl rfl, trivial⟩ ⟨rfl, ⟨rfl, ⟨rfl, trivial⟩⟩⟩ ?_
  conv => whnf
  injection H with H; subst H
  exact ret_fz [88, 89] (rtA_agg (rtL_cons (rt_fz' rfl rfl) (rtL_cons (rt_fz' rfl rfl) (rtL_nil))))
theorem impl_PlantTurn.acO {k : Nat} {a0_0 : List ByteArray} {a0_1 : List S_impl_PlantFoe} {a0_2 : List S_impl_PlantPlace} {a0_3 : List S_impl_PlantValve} {a1_0 : List ByteArray} {a1_1 : List S_impl_PlantMark} {a2 : ByteArray} {a3 : Bool} {r : (List ByteArray) × (List S_impl_PlantMark)} (H : impl_PlantTurn.f k a0_0 a0_1 a0_2 a0_3 a1_0 a1_1 a2 a3 = some r) : ACalls Try.prog G 49 [] [.agg [(sv_str a0_0), (sv_S_impl_PlantFoe a0_1), (sv_S_impl_PlantPlace a0_2), (sv_S_impl_PlantValve a0_3)], .agg [(sv_str a1_0), (sv_S_impl_PlantMark a1_1)], .str a2, .bool a3] [.arr 9 1 (r.1.map en_str), .arr 133 2 (r.2.map en_S_impl_PlantMark)] (.agg [.own 0 r.1.length, .own 1 r.2.length]) := by
  refine acalls_of tok hP Try.func49 rfl (by kernel_rfl) [.cell 8 65] rfl (by kernel_rfl) (Nat.le_of_ble_eq_true rfl) (.l .n (.l .n (.c .n (.c .n .n)))) rfl ?_
  unfold impl_PlantTurn.f at H
  conv => whnf
  revert H; refine bind_elim (fun t10519 A H => ?_)
  refine call_mk (impl_without.acO A) (avAL_cons (avA_shut' rfl) (avAL_cons (avA_shut' rfl) (avAL_nil))) (Or.inl rfl) rfl rfl (Nat.le_of_ble_eq_true rfl) ?_
  conv => whnf
  refine br_t H (fun c H => ?_) (fun c H => ?_)
  conv => whnf
  refine Or.inl ?_
  conv => whnf
  refine nd_ H (fun c H => ?_)
  conv => whnf
  refine cut_ 112 [(4, .bp 0 0), (8, .bp 16 0), (9, .own 96 (t10519.length + 1))] [(0, .box [(sv_str a0_0), (sv_S_impl_PlantFoe a0_1), (sv_S_impl_PlantPlace a0_2), (sv_S_impl_PlantValve a0_3)]), (16, .box [.nil, .nil]), (96, .arr 9 1 ((t10519 ++ ([a2] : List ByteArray)).map en_str))] rfl ⟨.inl rfl, ⟨.inl rfl, ⟨.inl rfl, trivial⟩⟩⟩ ⟨rfl, ⟨rfl, ⟨fm_, trivial⟩⟩⟩ ?_
  conv => whnf
  revert H; refine bind_elim (fun t10522 A H => ?_)
  refine call_mk (impl_PlantIndexOf.acO A) (avAL_cons (avA_agg (avL_cons (av_shut' rfl) (avL_cons (av_shut' rfl) (avL_cons (av_shut' rfl) (avL_cons (av_shut' rfl) (avL_nil)))))) (avAL_cons (avA_ownX rfl rfl lm_ lm_) (avAL_nil))) (Or.inr ⟨rfl, bo_cons (bo_arr bare_en_str) (bo_cons (bo_arr bare_en_S_impl_PlantMark) (bo_nil))⟩) rfl rfl (Nat.le_of_ble_eq_true rfl) ?_
  conv => whnf
  refine cut_ 144 [(8, .bp 16 0)] [(16, .box [.own 128 t10522.1.length, .own 129 t10522.2.length]), (128, .arr 9 1 (t10522.1.map en_str)), (129, .arr 133 2 (t10522.2.map en_S_impl_PlantMark))] rfl ⟨.inl rfl, trivial⟩ ⟨rfl, ⟨rfl, ⟨rfl, trivial⟩⟩⟩ ?_
  conv => whnf
  injection H with H; subst H
  exact ret_gen [some 128, some 129] [] ((rtA_agg (rtL_cons (rfl) (rtL_cons (rfl) (rtL_nil))))) ⟨rfl, ⟨rfl, trivial⟩⟩ rfl
  conv => whnf
  refine cut_ 72 [(4, .bp 0 0), (8, .bp 16 0), (9, .own 48 t10519.length)] [(0, .box [(sv_str a0_0), (sv_S_impl_PlantFoe a0_1), (sv_S_impl_PlantPlace a0_2), (sv_S_impl_PlantValve a0_3)]), (16, .box [.nil, .nil]), (48, .arr 9 1 (t10519.map en_str))] rfl ⟨.inl rfl, ⟨.inl rfl, ⟨.inl rfl, trivial⟩⟩⟩ ⟨rfl, ⟨rfl, ⟨rfl, trivial⟩⟩⟩ ?_
  conv => whnf
  revert H; refine bind_elim (fun t10523 A H => ?_)
  refine call_mk (impl_PlantIndexOf.acO A) (avAL_cons (avA_agg (avL_cons (av_shut' rfl) (avL_cons (av_shut' rfl) (avL_cons (av_shut' rfl) (avL_cons (av_shut' rfl) (avL_nil)))))) (avAL_cons (avA_own rfl rfl) (avAL_nil))) (Or.inr ⟨rfl, bo_cons (bo_arr bare_en_str) (bo_cons (bo_arr bare_en_S_impl_PlantMark) (bo_nil))⟩) rfl rfl (Nat.le_of_ble_eq_true rfl) ?_
  conv => whnf
  refine cut_ 104 [(8, .bp 16 0)] [(16, .box [.own 88 t10523.1.length, .own 89 t10523.2.length]), (88, .arr 9 1 (t10523.1.map en_str)), (89, .arr 133 2 (t10523.2.map en_S_impl_PlantMark))] rfl ⟨.inl rfl, trivial⟩ ⟨rfl, ⟨rfl, ⟨rfl, trivial⟩⟩⟩ ?_
  conv => whnf
  injection H with H; subst H
  exact ret_gen [some 88, some 89] [] ((rtA_agg (rtL_cons (rfl) (rtL_cons (rfl) (rtL_nil))))) ⟨rfl, ⟨rfl, trivial⟩⟩ rfl
theorem laws_wpHas.l0_lp {F : (Exit → St → Prop) → St → Prop} {hv : List Tmp} {Q : Exit → St → Prop} {σ : St} {r : Bool} {k : Nat} {l0 : List ByteArray} {a1 : ByteArray} {x5 : Int} (H : laws_wpHas.l0 k l0 a1 x5 = some r) (rn : List (Option Nat)) (h1 : Fits σ σ [] [(5, .int .i64 x5)] [] [] rn)
    (h2 : ∀ (k0 : Nat) (x5 : Int), k0 < k + 1 → laws_wpHas.l0 k0 l0 a1 x5 = some r → headN σ hv [] [(5, .int .i64 x5)] [] [] (F (fun e σ' => match e with | .normal => ∃ (y : Nat × Int) (rn : List (Option Nat)), (laws_wpHas.l0 y.1 l0 a1 y.2 = some r ∧ y.1 < k + 1) ∧ y.1 < k0 ∧ Fits σ σ' [] [(5, .int .i64 y.2)] [] [] rn | e => Q e σ'))) : Lp F hv Q σ := by
  unfold Lp
  refine ⟨Nat × Int, fun x => laws_wpHas.l0 x.1 l0 a1 x.2 = some r ∧ x.1 < k + 1, fun x => x.1, [], fun x => [(5, .int .i64 x.2)], fun x => [], fun x => [], ⟨(k, x5), rn, ⟨H, Nat.lt_succ_self _⟩, h1⟩, ?_⟩
  rintro ⟨k, x5⟩ ⟨H, hk⟩
  exact h2 k x5 hk H
theorem laws_wpHas.ac {k : Nat} {l0 : List ByteArray} {a1 : ByteArray} {r : Bool} (H : laws_wpHas.f k l0 a1 = some r) : ACalls Try.prog G 67 [] [(sv_str l0), .str a1] [] (.bool r) := by
  refine acalls_of tok hP Try.func67 rfl (by kernel_rfl) [.tmp 4] rfl (by kernel_rfl) (Nat.le_of_ble_eq_true rfl) (.l .n (.l (.l .n (.l .n (.l (.c .n .n) .n))) .n)) rfl ?_
  unfold laws_wpHas.f at H
  conv => whnf
  refine laws_wpHas.l0_lp (l0 := l0) (a1 := a1) (k := k) H [] (fits_of ⟨.inl ⟨rfl, rfl⟩, trivial⟩ trivial fi_ trivial rfl) ?_
  intro k x5 hk H; rcases k with _ | k; exact none_elim H; rw [laws_wpHas.l0] at H; conv => whnf
  refine br_d H (fun c H => ?_) (fun c H => ?_)
  conv => whnf
  refine nd_ H (fun c H => ?_)
  conv => whnf
  refine Nd.mk nf_ ?_
  conv => whnf
  refine El.mk (rdm_en_str _ _ nf_ nf_) ?_
  conv => whnf
  refine cut_ 96 [(0, (sv_str l0)), (1, .str a1), (5, .int .i64 x5), (17, .bool (decide ((rdOf ByteArray.empty l0 x5).toList = a1.toList)))] [] rfl ⟨.inl rfl, ⟨.inl rfl, ⟨.inl rfl, ⟨.inl rfl, trivial⟩⟩⟩⟩ trivial ?_
  conv => whnf
  refine br_d H (fun c H => ?_) (fun c H => ?_)
  conv => whnf
  injection H with H; subst H
  exact ret_fz [] (rtA_eq rfl)
  conv => whnf
  exact ⟨(k, wrap64 (x5 + 1)), [], ⟨H, lt_⟩, lt_, (fits_of ⟨.inl ⟨rfl, rfl⟩, trivial⟩ trivial fi_ trivial rfl)⟩
  conv => whnf
  injection H with H; subst H
  exact ret_fz [] (rtA_eq rfl)
theorem laws_wpValve.l0_lp {F : (Exit → St → Prop) → St → Prop} {hv : List Tmp} {Q : Exit → St → Prop} {σ : St} {r : Bool} {k : Nat} {a0_3 : List S_impl_PlantValve} {a1 : ByteArray} {x5 : Int} (H : laws_wpValve.l0 k a0_3 a1 x5 = some r) (rn : List (Option Nat)) (h1 : Fits σ σ [] [(5, .int .i64 x5)] [] [] rn)
    (h2 : ∀ (k0 : Nat) (x5 : Int), k0 < k + 1 → laws_wpValve.l0 k0 a0_3 a1 x5 = some r → headN σ hv [] [(5, .int .i64 x5)] [] [] (F (fun e σ' => match e with | .normal => ∃ (y : Nat × Int) (rn : List (Option Nat)), (laws_wpValve.l0 y.1 a0_3 a1 y.2 = some r ∧ y.1 < k + 1) ∧ y.1 < k0 ∧ Fits σ σ' [] [(5, .int .i64 y.2)] [] [] rn | e => Q e σ'))) : Lp F hv Q σ := by
  unfold Lp
  refine ⟨Nat × Int, fun x => laws_wpValve.l0 x.1 a0_3 a1 x.2 = some r ∧ x.1 < k + 1, fun x => x.1, [], fun x => [(5, .int .i64 x.2)], fun x => [], fun x => [], ⟨(k, x5), rn, ⟨H, Nat.lt_succ_self _⟩, h1⟩, ?_⟩
  rintro ⟨k, x5⟩ ⟨H, hk⟩
  exact h2 k x5 hk H
theorem laws_wpValve.ac {k : Nat} {a0_0 : List ByteArray} {a0_1 : List S_impl_PlantFoe} {a0_2 : List S_impl_PlantPlace} {a0_3 : List S_impl_PlantValve} {a1 : ByteArray} {r : Bool} (H : laws_wpValve.f k a0_0 a0_1 a0_2 a0_3 a1 = some r) : ACalls Try.prog G 73 [] [.agg [(sv_str a0_0), (sv_S_impl_PlantFoe a0_1), (sv_S_impl_PlantPlace a0_2), (sv_S_impl_PlantValve a0_3)], .str a1] [] (.bool r) := by
  refine acalls_of tok hP Try.func73 rfl (by kernel_rfl) [.tmp 4] rfl (by kernel_rfl) (Nat.le_of_ble_eq_true rfl) (.l .n (.l (.l .n (.l .n (.l (.c .n .n) .n))) .n)) rfl ?_
  unfold laws_wpValve.f at H
  conv => whnf
  refine laws_wpValve.l0_lp (a0_3 := a0_3) (a1 := a1) (k := k) H [] (fits_of ⟨.inl ⟨rfl, rfl⟩, trivial⟩ trivial fi_ trivial rfl) ?_
  intro k x5 hk H; rcases k with _ | k; exact none_elim H; rw [laws_wpValve.l0] at H; conv => whnf
  refine br_d H (fun c H => ?_) (fun c H => ?_)
  conv => whnf
  refine nd_ H (fun c H => ?_)
  conv => whnf
  refine Nd.mk nf_ ?_
  conv => whnf
  refine El.mk (rdm_en_S_impl_PlantValve _ _ nf_ nf_) ?_
  conv => whnf
  refine cut_ 128 [(1, .str a1), (2, .bp 0 0), (5, .int .i64 x5), (20, .bool (decide (((rd_impl_PlantValve a0_3 x5).f0).toList = a1.toList)))] [(0, .box [(sv_str a0_0), (sv_S_impl_PlantFoe a0_1), (sv_S_impl_PlantPlace a0_2), (sv_S_impl_PlantValve a0_3)])] rfl ⟨.inl rfl, ⟨.inl rfl, ⟨.inl rfl, ⟨.inl rfl, trivial⟩⟩⟩⟩ ⟨rfl, trivial⟩ ?_
  conv => whnf
  refine br_d H (fun c H => ?_) (fun c H => ?_)
  conv => whnf
  injection H with H; subst H
  exact ret_fz [] (rtA_eq rfl)
  conv => whnf
  exact ⟨(k, wrap64 (x5 + 1)), [], ⟨H, lt_⟩, lt_, (fits_of ⟨.inl ⟨rfl, rfl⟩, trivial⟩ trivial fi_ trivial rfl)⟩
  conv => whnf
  injection H with H; subst H
  exact ret_fz [] (rtA_eq rfl)
theorem impl_PlantGroups.l0_lp {F : (Exit → St → Prop) → St → Prop} {hv : List Tmp} {Q : Exit → St → Prop} {σ : St} {r : List S_impl_PlantSet} {k : Nat} {a0_0 : List ByteArray} {a0_1 : List S_impl_PlantFoe} {a0_2 : List S_impl_PlantPlace} {a0_3 : List S_impl_PlantValve} {l1 : List ByteArray} {x5 : List S_impl_PlantSet} {x15 : Int} (H : impl_PlantGroups.l0 k a0_0 a0_1 a0_2 a0_3 l1 x5 x15 = some r) (rn : List (Option Nat)) (h1 : Fits σ σ [] [(5, .own 0 x5.length), (15, .int .i64 x15)] [] [.arr 107 1 (x5.map en_S_impl_PlantSet)] rn)
    (h2 : ∀ (k0 : Nat) (x5 : List S_impl_PlantSet) (x15 : Int), k0 < k + 1 → impl_PlantGroups.l0 k0 a0_0 a0_1 a0_2 a0_3 l1 x5 x15 = some r → headN σ hv [] [(5, .own 0 x5.length), (15, .int .i64 x15)] [] [.arr 107 1 (x5.map en_S_impl_PlantSet)] (F (fun e σ' => match e with | .normal => ∃ (y : Nat × (List S_impl_PlantSet) × Int) (rn : List (Option Nat)), (impl_PlantGroups.l0 y.1 a0_0 a0_1 a0_2 a0_3 l1 y.2.1 y.2.2 = some r ∧ y.1 < k + 1) ∧ y.1 < k0 ∧ Fits σ σ' [] [(5, .own 0 y.2.1.length), (15, .int .i64 y.2.2)] [] [.arr 107 1 (y.2.1.map en_S_impl_PlantSet)] rn | e => Q e σ'))) : Lp F hv Q σ := by
  unfold Lp
  refine ⟨Nat × (List S_impl_PlantSet) × Int, fun x => impl_PlantGroups.l0 x.1 a0_0 a0_1 a0_2 a0_3 l1 x.2.1 x.2.2 = some r ∧ x.1 < k + 1, fun x => x.1, [], fun x => [(5, .own 0 x.2.1.length), (15, .int .i64 x.2.2)], fun x => [], fun x => [.arr 107 1 (x.2.1.map en_S_impl_PlantSet)], ⟨(k, x5, x15), rn, ⟨H, Nat.lt_succ_self _⟩, h1⟩, ?_⟩
  rintro ⟨k, x5, x15⟩ ⟨H, hk⟩
  exact h2 k x5 x15 hk H
theorem impl_PlantGroups.ac {k : Nat} {a0_0 : List ByteArray} {a0_1 : List S_impl_PlantFoe} {a0_2 : List S_impl_PlantPlace} {a0_3 : List S_impl_PlantValve} {l1 : List ByteArray} {r : List S_impl_PlantSet} (H : impl_PlantGroups.f k a0_0 a0_1 a0_2 a0_3 l1 = some r) : ACalls Try.prog G 32 [] [.agg [(sv_str a0_0), (sv_S_impl_PlantFoe a0_1), (sv_S_impl_PlantPlace a0_2), (sv_S_impl_PlantValve a0_3)], (sv_str l1)] [] ((sv_S_impl_PlantSet r)) := by
  refine acalls_of tok hP Try.func32 rfl (by kernel_rfl) [.tmp 4] rfl (by kernel_rfl) (Nat.le_of_ble_eq_true rfl) (.l .n (.l .n (.l .n (.l (.c .n (.l .n (.l .n (.c (.l .n (.c .n .n)) .n)))) .n)))) rfl ?_
  unfold impl_PlantGroups.f at H
  conv => whnf
  revert H; refine bind_elim (fun t10759 A H => ?_)
  refine call_mk (impl_PlantValid.ac A) (avAL_cons (avA_agg (avL_cons (av_shut' rfl) (avL_cons (av_shut' rfl) (avL_cons (av_shut' rfl) (avL_cons (av_shut' rfl) (avL_nil)))))) (avAL_nil)) (Or.inl rfl) rfl rfl (Nat.le_of_ble_eq_true rfl) ?_
  conv => whnf
  refine br_nt H (fun c H => ?_) (fun c H => ?_)
  conv => whnf
  refine cut_ 80 [(1, (sv_str l1)), (2, .bp 0 0), (5, .nil), (13, (sv_S_impl_PlantPlace a0_2)), (14, .int .i64 (a0_2.length : Int)), (15, .int .i64 0)] [(0, .box [(sv_str a0_0), (sv_S_impl_PlantFoe a0_1), (sv_S_impl_PlantPlace a0_2), (sv_S_impl_PlantValve a0_3)])] rfl ⟨.inl rfl, ⟨.inl rfl, ⟨.inl rfl, ⟨.inl rfl, ⟨.inl rfl, ⟨.inl rfl, trivial⟩⟩⟩⟩⟩⟩ ⟨rfl, trivial⟩ ?_
  conv => whnf
  refine impl_PlantGroups.l0_lp (a0_0 := a0_0) (a0_1 := a0_1) (a0_2 := a0_2) (a0_3 := a0_3) (l1 := l1) (k := k) H [none] (fits_of ⟨⟨rfl, rfl⟩, ⟨.inl ⟨rfl, rfl⟩, trivial⟩⟩ ⟨⟨_, _, rfl⟩, trivial⟩ fi_ trivial rfl) ?_
  intro k x5 x15 hk H; rcases k with _ | k; exact none_elim H; rw [impl_PlantGroups.l0] at H; conv => whnf
  refine br_d H (fun c H => ?_) (fun c H => ?_)
  conv => whnf
  refine nd_ H (fun c H => ?_)
  conv => whnf
  refine Nd.mk nf_ ?_
  conv => whnf
  refine El.mk (rdm_en_S_impl_PlantPlace _ _ nf_ nf_) ?_
  conv => whnf
  revert H; refine bind_elim (fun t10765 A H => ?_)
  refine call_mk (impl_group.ac A) (avAL_cons (avA_agg (avL_cons (av_shut' rfl) (avL_cons (av_shut' rfl) (avL_cons (av_shut' rfl) (avL_cons (av_shut' rfl) (avL_nil)))))) (avAL_cons (avA_shut' rfl) (avAL_cons (avA_shut' rfl) (avAL_nil)))) (Or.inl rfl) rfl rfl (Nat.le_of_ble_eq_true rfl) ?_
  conv => whnf
  refine cut_ 169 [(1, (sv_str l1)), (2, .bp 0 0), (5, .own 80 x5.length), (7, .bp 105 0), (8, (sv_str t10765)), (13, (sv_S_impl_PlantPlace a0_2)), (14, .int .i64 (a0_2.length : Int)), (15, .int .i64 x15)] [(0, .box [(sv_str a0_0), (sv_S_impl_PlantFoe a0_1), (sv_S_impl_PlantPlace a0_2), (sv_S_impl_PlantValve a0_3)]), (80, .arr 107 1 (x5.map en_S_impl_PlantSet)), (105, .box [.str ((rd_impl_PlantPlace a0_2 x15).f0), .int .i64 ((rd_impl_PlantPlace a0_2 x15).f1), .str ((rd_impl_PlantPlace a0_2 x15).f2)])] rfl ⟨.inl rfl, ⟨.inl rfl, ⟨.inl rfl, ⟨.inl rfl, ⟨.inl rfl, ⟨.inl rfl, ⟨.inl rfl, ⟨.inl rfl, trivial⟩⟩⟩⟩⟩⟩⟩⟩ ⟨rfl, ⟨rfl, ⟨rfl, trivial⟩⟩⟩ ?_
  conv => whnf
  refine Nd.mk (by decide) ?_
  conv => whnf
  refine nd_ H (fun c H => ?_)
  conv => whnf
  refine El.mk (rdm_en_str _ _ nf_ nf_) ?_
  conv => whnf
  refine br_d H (fun c H => ?_) (fun c H => ?_)
  conv => whnf
  refine Or.inl ?_
  conv => whnf
  refine nd_ H (fun c H => ?_)
  conv => whnf
  refine cut_ 265 [(1, (sv_str l1)), (2, .bp 0 0), (5, .own 249 (x5.length + 1)), (13, (sv_S_impl_PlantPlace a0_2)), (14, .int .i64 (a0_2.length : Int)), (15, .int .i64 x15)] [(0, .box [(sv_str a0_0), (sv_S_impl_PlantFoe a0_1), (sv_S_impl_PlantPlace a0_2), (sv_S_impl_PlantValve a0_3)]), (249, .arr 107 1 ((x5 ++ ([(⟨t10765⟩ : S_impl_PlantSet)] : List S_impl_PlantSet)).map en_S_impl_PlantSet))] rfl ⟨.inl rfl, ⟨.inl rfl, ⟨.inl rfl, ⟨.inl rfl, ⟨.inl rfl, ⟨.inl rfl, trivial⟩⟩⟩⟩⟩⟩ ⟨rfl, ⟨fm_, trivial⟩⟩ ?_
  conv => whnf
  exact ⟨(k, (x5 ++ ([(⟨t10765⟩ : S_impl_PlantSet)] : List S_impl_PlantSet)), wrap64 (x15 + 1)), [some 249], ⟨H, lt_⟩, lt_, (fits_of ⟨mt_own lm_, ⟨.inl ⟨rfl, rfl⟩, trivial⟩⟩ ⟨rfl, trivial⟩ fi_ trivial rfl)⟩
  conv => whnf
  refine cut_ 217 [(1, (sv_str l1)), (2, .bp 0 0), (5, .own 80 x5.length), (13, (sv_S_impl_PlantPlace a0_2)), (14, .int .i64 (a0_2.length : Int)), (15, .int .i64 x15)] [(0, .box [(sv_str a0_0), (sv_S_impl_PlantFoe a0_1), (sv_S_impl_PlantPlace a0_2), (sv_S_impl_PlantValve a0_3)]), (80, .arr 107 1 (x5.map en_S_impl_PlantSet))] rfl ⟨.inl rfl, ⟨.inl rfl, ⟨.inl rfl, ⟨.inl rfl, ⟨.inl rfl, ⟨.inl rfl, trivial⟩⟩⟩⟩⟩⟩ ⟨rfl, ⟨rfl, trivial⟩⟩ ?_
  conv => whnf
  exact ⟨(k, x5, wrap64 (x15 + 1)), [some 80], ⟨H, lt_⟩, lt_, (fits_of ⟨rfl, ⟨.inl ⟨rfl, rfl⟩, trivial⟩⟩ ⟨rfl, trivial⟩ fi_ trivial rfl)⟩
  conv => whnf
  injection H with H; subst H
  exact ret_fz [80] (rtA_fz' rfl rfl)
  conv => whnf
  injection H with H; subst H
  exact ret_fz [] (rtA_nil)
theorem impl_PlantGroups.l0_lpO {F : (Exit → St → Prop) → St → Prop} {hv : List Tmp} {Q : Exit → St → Prop} {σ : St} {r : List S_impl_PlantSet} {k : Nat} {a0_0 : List ByteArray} {a0_1 : List S_impl_PlantFoe} {a0_2 : List S_impl_PlantPlace} {a0_3 : List S_impl_PlantValve} {l1 : List ByteArray} {x5 : List S_impl_PlantSet} {x15 : Int} (H : impl_PlantGroups.l0 k a0_0 a0_1 a0_2 a0_3 l1 x5 x15 = some r) (rn : List (Option Nat)) (h1 : Fits σ σ [] [(5, .own 0 x5.length), (15, .int .i64 x15)] [] [.arr 107 1 (x5.map en_S_impl_PlantSet)] rn)
    (h2 : ∀ (k0 : Nat) (x5 : List S_impl_PlantSet) (x15 : Int), k0 < k + 1 → impl_PlantGroups.l0 k0 a0_0 a0_1 a0_2 a0_3 l1 x5 x15 = some r → headN σ hv [] [(5, .own 0 x5.length), (15, .int .i64 x15)] [] [.arr 107 1 (x5.map en_S_impl_PlantSet)] (F (fun e σ' => match e with | .normal => ∃ (y : Nat × (List S_impl_PlantSet) × Int) (rn : List (Option Nat)), (impl_PlantGroups.l0 y.1 a0_0 a0_1 a0_2 a0_3 l1 y.2.1 y.2.2 = some r ∧ y.1 < k + 1) ∧ y.1 < k0 ∧ Fits σ σ' [] [(5, .own 0 y.2.1.length), (15, .int .i64 y.2.2)] [] [.arr 107 1 (y.2.1.map en_S_impl_PlantSet)] rn | e => Q e σ'))) : Lp F hv Q σ := by
  unfold Lp
  refine ⟨Nat × (List S_impl_PlantSet) × Int, fun x => impl_PlantGroups.l0 x.1 a0_0 a0_1 a0_2 a0_3 l1 x.2.1 x.2.2 = some r ∧ x.1 < k + 1, fun x => x.1, [], fun x => [(5, .own 0 x.2.1.length), (15, .int .i64 x.2.2)], fun x => [], fun x => [.arr 107 1 (x.2.1.map en_S_impl_PlantSet)], ⟨(k, x5, x15), rn, ⟨H, Nat.lt_succ_self _⟩, h1⟩, ?_⟩
  rintro ⟨k, x5, x15⟩ ⟨H, hk⟩
  exact h2 k x5 x15 hk H
theorem impl_PlantGroups.acO {k : Nat} {a0_0 : List ByteArray} {a0_1 : List S_impl_PlantFoe} {a0_2 : List S_impl_PlantPlace} {a0_3 : List S_impl_PlantValve} {l1 : List ByteArray} {r : List S_impl_PlantSet} (H : impl_PlantGroups.f k a0_0 a0_1 a0_2 a0_3 l1 = some r) : ACalls Try.prog G 32 [] [.agg [(sv_str a0_0), (sv_S_impl_PlantFoe a0_1), (sv_S_impl_PlantPlace a0_2), (sv_S_impl_PlantValve a0_3)], (sv_str l1)] [.arr 107 1 (r.map en_S_impl_PlantSet)] (.own 0 r.length) := by
  refine acalls_of tok hP Try.func32 rfl (by kernel_rfl) [.tmp 4] rfl (by kernel_rfl) (Nat.le_of_ble_eq_true rfl) (.l .n (.l .n (.l .n (.l (.c .n (.l .n (.l .n (.c (.l .n (.c .n .n)) .n)))) .n)))) rfl ?_
  unfold impl_PlantGroups.f at H
  conv => whnf
  revert H; refine bind_elim (fun t10937 A H => ?_)
  refine call_mk (impl_PlantValid.ac A) (avAL_cons (avA_agg (avL_cons (av_shut' rfl) (avL_cons (av_shut' rfl) (avL_cons (av_shut' rfl) (avL_cons (av_shut' rfl) (avL_nil)))))) (avAL_nil)) (Or.inl rfl) rfl rfl (Nat.le_of_ble_eq_true rfl) ?_
  conv => whnf
  refine br_nt H (fun c H => ?_) (fun c H => ?_)
  conv => whnf
  refine cut_ 80 [(1, (sv_str l1)), (2, .bp 0 0), (5, .nil), (13, (sv_S_impl_PlantPlace a0_2)), (14, .int .i64 (a0_2.length : Int)), (15, .int .i64 0)] [(0, .box [(sv_str a0_0), (sv_S_impl_PlantFoe a0_1), (sv_S_impl_PlantPlace a0_2), (sv_S_impl_PlantValve a0_3)])] rfl ⟨.inl rfl, ⟨.inl rfl, ⟨.inl rfl, ⟨.inl rfl, ⟨.inl rfl, ⟨.inl rfl, trivial⟩⟩⟩⟩⟩⟩ ⟨rfl, trivial⟩ ?_
  conv => whnf
  refine impl_PlantGroups.l0_lpO (a0_0 := a0_0) (a0_1 := a0_1) (a0_2 := a0_2) (a0_3 := a0_3) (l1 := l1) (k := k) H [none] (fits_of ⟨⟨rfl, rfl⟩, ⟨.inl ⟨rfl, rfl⟩, trivial⟩⟩ ⟨⟨_, _, rfl⟩, trivial⟩ fi_ trivial rfl) ?_
  intro k x5 x15 hk H; rcases k with _ | k; exact none_elim H; rw [impl_PlantGroups.l0] at H; conv => whnf
  refine br_d H (fun c H => ?_) (fun c H => ?_)
  conv => whnf
  refine nd_ H (fun c H => ?_)
  conv => whnf
  refine Nd.mk nf_ ?_
  conv => whnf
  refine El.mk (rdm_en_S_impl_PlantPlace _ _ nf_ nf_) ?_
  conv => whnf
  revert H; refine bind_elim (fun t10943 A H => ?_)
  refine call_mk (impl_group.ac A) (avAL_cons (avA_agg (avL_cons (av_shut' rfl) (avL_cons (av_shut' rfl) (avL_cons (av_shut' rfl) (avL_cons (av_shut' rfl) (avL_nil)))))) (avAL_cons (avA_shut' rfl) (avAL_cons (avA_shut' rfl) (avAL_nil)))) (Or.inl rfl) rfl rfl (Nat.le_of_ble_eq_true rfl) ?_
  conv => whnf
  refine cut_ 169 [(1, (sv_str l1)), (2, .bp 0 0), (5, .own 80 x5.length), (7, .bp 105 0), (8, (sv_str t10943)), (13, (sv_S_impl_PlantPlace a0_2)), (14, .int .i64 (a0_2.length : Int)), (15, .int .i64 x15)] [(0, .box [(sv_str a0_0), (sv_S_impl_PlantFoe a0_1), (sv_S_impl_PlantPlace a0_2), (sv_S_impl_PlantValve a0_3)]), (80, .arr 107 1 (x5.map en_S_impl_PlantSet)), (105, .box [.str ((rd_impl_PlantPlace a0_2 x15).f0), .int .i64 ((rd_impl_PlantPlace a0_2 x15).f1), .str ((rd_impl_PlantPlace a0_2 x15).f2)])] rfl ⟨.inl rfl, ⟨.inl rfl, ⟨.inl rfl, ⟨.inl rfl, ⟨.inl rfl, ⟨.inl rfl, ⟨.inl rfl, ⟨.inl rfl, trivial⟩⟩⟩⟩⟩⟩⟩⟩ ⟨rfl, ⟨rfl, ⟨rfl, trivial⟩⟩⟩ ?_
  conv => whnf
  refine Nd.mk (by decide) ?_
  conv => whnf
  refine nd_ H (fun c H => ?_)
  conv => whnf
  refine El.mk (rdm_en_str _ _ nf_ nf_) ?_
  conv => whnf
  refine br_d H (fun c H => ?_) (fun c H => ?_)
  conv => whnf
  refine Or.inl ?_
  conv => whnf
  refine nd_ H (fun c H => ?_)
  conv => whnf
  refine cut_ 265 [(1, (sv_str l1)), (2, .bp 0 0), (5, .own 249 (x5.length + 1)), (13, (sv_S_impl_PlantPlace a0_2)), (14, .int .i64 (a0_2.length : Int)), (15, .int .i64 x15)] [(0, .box [(sv_str a0_0), (sv_S_impl_PlantFoe a0_1), (sv_S_impl_PlantPlace a0_2), (sv_S_impl_PlantValve a0_3)]), (249, .arr 107 1 ((x5 ++ ([(⟨t10943⟩ : S_impl_PlantSet)] : List S_impl_PlantSet)).map en_S_impl_PlantSet))] rfl ⟨.inl rfl, ⟨.inl rfl, ⟨.inl rfl, ⟨.inl rfl, ⟨.inl rfl, ⟨.inl rfl, trivial⟩⟩⟩⟩⟩⟩ ⟨rfl, ⟨fm_, trivial⟩⟩ ?_
  conv => whnf
  exact ⟨(k, (x5 ++ ([(⟨t10943⟩ : S_impl_PlantSet)] : List S_impl_PlantSet)), wrap64 (x15 + 1)), [some 249], ⟨H, lt_⟩, lt_, (fits_of ⟨mt_own lm_, ⟨.inl ⟨rfl, rfl⟩, trivial⟩⟩ ⟨rfl, trivial⟩ fi_ trivial rfl)⟩
  conv => whnf
  refine cut_ 217 [(1, (sv_str l1)), (2, .bp 0 0), (5, .own 80 x5.length), (13, (sv_S_impl_PlantPlace a0_2)), (14, .int .i64 (a0_2.length : Int)), (15, .int .i64 x15)] [(0, .box [(sv_str a0_0), (sv_S_impl_PlantFoe a0_1), (sv_S_impl_PlantPlace a0_2), (sv_S_impl_PlantValve a0_3)]), (80, .arr 107 1 (x5.map en_S_impl_PlantSet))] rfl ⟨.inl rfl, ⟨.inl rfl, ⟨.inl rfl, ⟨.inl rfl, ⟨.inl rfl, ⟨.inl rfl, trivial⟩⟩⟩⟩⟩⟩ ⟨rfl, ⟨rfl, trivial⟩⟩ ?_
  conv => whnf
  exact ⟨(k, x5, wrap64 (x15 + 1)), [some 80], ⟨H, lt_⟩, lt_, (fits_of ⟨rfl, ⟨.inl ⟨rfl, rfl⟩, trivial⟩⟩ ⟨rfl, trivial⟩ fi_ trivial rfl)⟩
  conv => whnf
  injection H with H; subst H
  exact ret_gen [some 80] [] ((rfl)) ⟨rfl, trivial⟩ rfl
  conv => whnf
  injection H with H; subst H
  exact ret_gen [none] [] ((⟨rfl, rfl⟩)) ⟨⟨_, _, rfl⟩, trivial⟩ rfl

end Go.Proofs.Ytodeegjblililaa.QU

