import Derived.Test.YtamkmmkchdnkmaaZFnExactCtlStations1
import Derived.Shelf.Lay
import Derived.Shelf.Sort.AssemblyIn
import Derived.Ground.SoProg
import Derived.Test.YtamkmmkchdnkmaaProg
import Derived.KernelRfl
set_option linter.unusedVariables false
set_option linter.unusedSimpArgs false
namespace Go.Proofs.Ytamkmmkchdnkmaa.CS
open Go Go.Aw Go.RowKit Go.Proofs
set_option maxRecDepth 100000
set_option maxHeartbeats 40000000
variable {G : Nat → Option Obj}
attribute [local irreducible] callE Lp Sq Cut RetOk Fits
theorem laws_markPlantValveS.ac {k : Nat} {l0 : List S_impl_PlantValve} {a1 : Int} {r : Int × (List S_impl_PlantValve)} (H : laws_markPlantValveS.f k l0 a1 = some r) : ACalls Try.prog G 130 [.arr 175 4 (l0.map en_S_impl_PlantValve)] [.own 0 l0.length, .int .i64 a1] [.arr 175 4 (r.2.map en_S_impl_PlantValve)] (.int .i64 r.1) := by
  refine acalls_of tok hP Try.func130 rfl (by kernel_rfl) [.tmp 4] rfl (by kernel_rfl) (Nat.le_of_ble_eq_true rfl) (.l .n (.l (.l .n (.l .n (.l (.c .n (.l .n (.l .n (.c .n (.l .n (.l .n (.c .n .n))))))) .n))) .n)) rfl ?_
  unfold laws_markPlantValveS.f at H
  conv => whnf
  refine laws_markPlantValveS.l0_lp (l0 := l0) (k := k) H [] (fits_of ⟨.inl ⟨rfl, rfl⟩, ⟨.inl ⟨rfl, rfl⟩, trivial⟩⟩ trivial fi_ ⟨⟨_, rfl⟩, rfl, trivial⟩ rfl) ?_
  intro k x1 x5 x1000 hk H; rcases k with _ | k; exact none_elim H; rw [laws_markPlantValveS.l0] at H; conv => whnf
  refine chk_ H (fun c H => ?_)
  refine br_d H (fun c H => ?_) (fun c H => ?_)
  conv => whnf
  revert H; refine bind_elim (fun t1046 A H => ?_)
  refine call_mk (laws_markText.ac A) (avAL_cons (avA_shut' rfl) (avAL_nil)) (Or.inl rfl) rfl rfl (Nat.le_of_ble_eq_true rfl) ?_
  conv => whnf
  refine nd_ H (fun c H => ?_)
  conv => whnf
  refine Nd.mk nf_ ?_
  conv => whnf
  refine El.mk (rdm_en_S_impl_PlantValve _ _ nf_ nf_) ?_
  conv => whnf
  refine cut_ 105 [(0, .own 0 l0.length), (1, .int .i64 x1), (5, .int .i64 x5)] [(0, .arr 175 4 ((x1000.set (x5).toNat (⟨t1046, (rd_impl_PlantValve x1000 x5).f1, (rd_impl_PlantValve x1000 x5).f2, (rd_impl_PlantValve x1000 x5).f3⟩ : S_impl_PlantValve)).map en_S_impl_PlantValve))] rfl ⟨.inl rfl, ⟨.inl rfl, ⟨.inl rfl, trivial⟩⟩⟩ ⟨fm_, trivial⟩ ?_
  conv => whnf
  revert H; refine bind_elim (fun t1047 A H => ?_)
  refine call_mk (laws_markText.ac A) (avAL_cons (avA_shut' rfl) (avAL_nil)) (Or.inl rfl) rfl rfl (Nat.le_of_ble_eq_true rfl) ?_
  conv => whnf
  refine Nd.mk nf_ ?_
  conv => whnf
  refine Nd.mk nf_ ?_
  conv => whnf
  refine El.mk (el_of (ys := (x1000.set (x5).toNat (⟨t1046, (rd_impl_PlantValve x1000 x5).f1, (rd_impl_PlantValve x1000 x5).f2, (rd_impl_PlantValve x1000 x5).f3⟩ : S_impl_PlantValve)).map en_S_impl_PlantValve) lm_ (rdms en_S_impl_PlantValve _ _ _ nf_ nf_)) ?_
  conv => whnf
  refine cut_ 209 [(0, .own 0 l0.length), (1, .int .i64 (wrap64 ((wrap64 (x1 + 1)) + 1))), (5, .int .i64 x5)] [(0, .arr 175 4 ((x1000.set (x5).toNat (⟨t1046, t1047, (rd_impl_PlantValve x1000 x5).f2, (rd_impl_PlantValve x1000 x5).f3⟩ : S_impl_PlantValve)).map en_S_impl_PlantValve))] rfl ⟨.inl rfl, ⟨.inl rfl, ⟨.inl rfl, trivial⟩⟩⟩ ⟨fm_, trivial⟩ ?_
  conv => whnf
  revert H; refine bind_elim (fun t1048 A H => ?_)
  refine call_mk (laws_markText.ac A) (avAL_cons (avA_shut' rfl) (avAL_nil)) (Or.inl rfl) rfl rfl (Nat.le_of_ble_eq_true rfl) ?_
  conv => whnf
  refine Nd.mk nf_ ?_
  conv => whnf
  refine Nd.mk nf_ ?_
  conv => whnf
  refine El.mk (el_of (ys := (x1000.set (x5).toNat (⟨t1046, t1047, (rd_impl_PlantValve x1000 x5).f2, (rd_impl_PlantValve x1000 x5).f3⟩ : S_impl_PlantValve)).map en_S_impl_PlantValve) lm_ (rdms en_S_impl_PlantValve _ _ _ nf_ nf_)) ?_
  conv => whnf
  revert H; refine bind_elim (fun t1049 A H => ?_)
  refine call_mk (laws_markText.ac A) (avAL_cons (avA_shut' rfl) (avAL_nil)) (Or.inl rfl) rfl rfl (Nat.le_of_ble_eq_true rfl) ?_
  conv => whnf
  refine Nd.mk nf_ ?_
  conv => whnf
  refine Nd.mk nf_ ?_
  conv => whnf
  refine El.mk (el_of (ys := (x1000.set (x5).toNat (⟨t1046, t1047, t1048, (rd_impl_PlantValve x1000 x5).f3⟩ : S_impl_PlantValve)).map en_S_impl_PlantValve) lm_ (rdms en_S_impl_PlantValve _ _ _ nf_ nf_)) ?_
  conv => whnf
  refine cut_ 345 [(0, .own 0 l0.length), (1, .int .i64 (wrap64 ((wrap64 ((wrap64 (x1 + 1)) + 1)) + 1))), (5, .int .i64 x5)] [(0, .arr 175 4 ((x1000.set (x5).toNat (⟨t1046, t1047, t1048, t1049⟩ : S_impl_PlantValve)).map en_S_impl_PlantValve))] rfl ⟨.inl rfl, ⟨.inl rfl, ⟨.inl rfl, trivial⟩⟩⟩ ⟨fm_, trivial⟩ ?_
  conv => whnf
  exact ⟨(k, wrap64 ((wrap64 ((wrap64 ((wrap64 (x1 + 1)) + 1)) + 1)) + 1), wrap64 (x5 + 1), (x1000.set (x5).toNat (⟨t1046, t1047, t1048, t1049⟩ : S_impl_PlantValve))), [], ⟨H, lt_⟩, lt_, (fits_of ⟨.inl ⟨rfl, rfl⟩, ⟨.inl ⟨rfl, rfl⟩, trivial⟩⟩ trivial fi_ ⟨⟨_, rfl⟩, rfl, trivial⟩ rfl)⟩
  conv => whnf
  injection H with H; subst H
  exact ret_gen [some 0] [] ((rtA_eq rfl)) ⟨rfl, trivial⟩ rfl
theorem laws_markPlant.ac {k : Nat} {a0_0 : List ByteArray} {a0_1 : List S_impl_PlantFoe} {a0_2 : List S_impl_PlantPlace} {a0_3 : List S_impl_PlantValve} {a1 : Int} {r : Int × (List ByteArray) × (List S_impl_PlantFoe) × (List S_impl_PlantPlace) × (List S_impl_PlantValve)} (H : laws_markPlant.f k a0_0 a0_1 a0_2 a0_3 a1 = some r) : ACalls Try.prog G 46 [.arr 9 1 (a0_0.map en_str), .arr 170 2 (a0_1.map en_S_impl_PlantFoe), .arr 173 3 (a0_2.map en_S_impl_PlantPlace), .arr 175 4 (a0_3.map en_S_impl_PlantValve)] [.agg [.own 0 a0_0.length, .own 1 a0_1.length, .own 2 a0_2.length, .own 3 a0_3.length], .int .i64 a1] [.arr 9 1 (r.2.1.map en_str), .arr 170 2 (r.2.2.1.map en_S_impl_PlantFoe), .arr 173 3 (r.2.2.2.1.map en_S_impl_PlantPlace), .arr 175 4 (r.2.2.2.2.map en_S_impl_PlantValve)] (.int .i64 r.1) := by
  refine acalls_of tok hP Try.func46 rfl (by kernel_rfl) [.tmp 4] rfl (by kernel_rfl) (Nat.le_of_ble_eq_true rfl) (.l .n (.l .n (.c .n (.l .n (.c .n .n))))) rfl ?_
  unfold laws_markPlant.f at H
  conv => whnf
  revert H; refine bind_elim (fun t1076 A H => ?_)
  refine call_mk2 [0] (laws_markStringS.ac A) ⟨rfl, trivial⟩ rfl rfl rfl rfl rfl rfl rfl rfl ?_
  conv => whnf
  revert H; refine bind_elim (fun t1078 A H => ?_)
  refine call_mk2 [1] (laws_markPlantFoeS.ac A) ⟨rfl, trivial⟩ rfl rfl rfl rfl rfl rfl rfl rfl ?_
  conv => whnf
  refine cut_ 100 [(1, .int .i64 t1078.1), (2, .bp 4 0)] [(0, .arr 9 1 (t1076.2.map en_str)), (1, .arr 170 2 (t1078.2.map en_S_impl_PlantFoe)), (2, .arr 173 3 (a0_2.map en_S_impl_PlantPlace)), (3, .arr 175 4 (a0_3.map en_S_impl_PlantValve)), (4, .box [.own 0 a0_0.length, .own 1 a0_1.length, .own 2 a0_2.length, .own 3 a0_3.length])] rfl ⟨.inl rfl, ⟨.inl rfl, trivial⟩⟩ ⟨rfl, ⟨rfl, ⟨rfl, ⟨rfl, ⟨rfl, trivial⟩⟩⟩⟩⟩ ?_
  conv => whnf
  revert H; refine bind_elim (fun t1080 A H => ?_)
  refine call_mk2 [2] (laws_markPlantPlaceS.ac A) ⟨rfl, trivial⟩ rfl rfl rfl rfl rfl rfl rfl rfl ?_
  conv => whnf
  revert H; refine bind_elim (fun t1082 A H => ?_)
  refine call_mk2 [3] (laws_markPlantValveS.ac A) ⟨rfl, trivial⟩ rfl rfl rfl rfl rfl rfl rfl rfl ?_
  conv => whnf
  refine cut_ 180 [(1, .int .i64 t1082.1)] [(0, .arr 9 1 (t1076.2.map en_str)), (1, .arr 170 2 (t1078.2.map en_S_impl_PlantFoe)), (2, .arr 173 3 (t1080.2.map en_S_impl_PlantPlace)), (3, .arr 175 4 (t1082.2.map en_S_impl_PlantValve))] rfl ⟨.inl rfl, trivial⟩ ⟨rfl, ⟨rfl, ⟨rfl, ⟨rfl, trivial⟩⟩⟩⟩ ?_
  conv => whnf
  injection H with H; subst H
  exact ret_gen [some 0, some 1, some 2, some 3] [] ((rtA_eq rfl)) ⟨rfl, ⟨rfl, ⟨rfl, ⟨rfl, trivial⟩⟩⟩⟩ rfl
theorem laws_heldStringS.l0_lp {F : (Exit → St → Prop) → St → Prop} {hv : List Tmp} {Q : Exit → St → Prop} {σ : St} {r : Int} {k : Nat} {l0 : List ByteArray} {x1 : Int} {x5 : Int} (H : laws_heldStringS.l0 k l0 x1 x5 = some r) (rn : List (Option Nat)) (h1 : Fits σ σ [] [(1, .int .i64 x1), (5, .int .i64 x5)] [] [] rn)
    (h2 : ∀ (k0 : Nat) (x1 : Int) (x5 : Int), k0 < k + 1 → laws_heldStringS.l0 k0 l0 x1 x5 = some r → headN σ hv [] [(1, .int .i64 x1), (5, .int .i64 x5)] [] [] (F (fun e σ' => match e with | .normal => ∃ (y : Nat × Int × Int) (rn : List (Option Nat)), (laws_heldStringS.l0 y.1 l0 y.2.1 y.2.2 = some r ∧ y.1 < k + 1) ∧ y.1 < k0 ∧ Fits σ σ' [] [(1, .int .i64 y.2.1), (5, .int .i64 y.2.2)] [] [] rn | e => Q e σ'))) : Lp F hv Q σ := by
  unfold Lp
  refine ⟨Nat × Int × Int, fun x => laws_heldStringS.l0 x.1 l0 x.2.1 x.2.2 = some r ∧ x.1 < k + 1, fun x => x.1, [], fun x => [(1, .int .i64 x.2.1), (5, .int .i64 x.2.2)], fun x => [], fun x => [], ⟨(k, x1, x5), rn, ⟨H, Nat.lt_succ_self _⟩, h1⟩, ?_⟩
  rintro ⟨k, x1, x5⟩ ⟨H, hk⟩
  exact h2 k x1 x5 hk H
theorem laws_heldStringS.ac {k : Nat} {l0 : List ByteArray} {a1 : Int} {r : Int} (H : laws_heldStringS.f k l0 a1 = some r) : ACalls Try.prog G 27 [] [(sv_str l0), .int .i64 a1] [] (.int .i64 r) := by
  refine acalls_of tok hP Try.func27 rfl (by kernel_rfl) [.tmp 4] rfl (by kernel_rfl) (Nat.le_of_ble_eq_true rfl) (.l .n (.l (.l .n (.l .n (.l (.l (.c .n .n) .n) .n))) .n)) rfl ?_
  unfold laws_heldStringS.f at H
  conv => whnf
  refine laws_heldStringS.l0_lp (l0 := l0) (k := k) H [] (fits_of ⟨.inl ⟨rfl, rfl⟩, ⟨.inl ⟨rfl, rfl⟩, trivial⟩⟩ trivial fi_ trivial rfl) ?_
  intro k x1 x5 hk H; rcases k with _ | k; exact none_elim H; rw [laws_heldStringS.l0] at H; conv => whnf
  refine br_d H (fun c H => ?_) (fun c H => ?_)
  conv => whnf
  refine nd_ H (fun c H => ?_)
  conv => whnf
  refine Nd.mk nf_ ?_
  conv => whnf
  refine El.mk (rdm_en_str _ _ nf_ nf_) ?_
  conv => whnf
  revert H; refine bind_elim (fun t1376 A H => ?_)
  refine call_mk (laws_markText.ac A) (avAL_cons (avA_shut' rfl) (avAL_nil)) (Or.inl rfl) rfl rfl (Nat.le_of_ble_eq_true rfl) ?_
  conv => whnf
  refine cut_ 104 [(0, (sv_str l0)), (1, .int .i64 x1), (5, .int .i64 x5), (18, .bool (!(decide ((rdOf ByteArray.empty l0 x5).toList = t1376.toList))))] [] rfl ⟨.inl rfl, ⟨.inl rfl, ⟨.inl rfl, ⟨.inl rfl, trivial⟩⟩⟩⟩ trivial ?_
  conv => whnf
  refine br_nd H (fun c H => ?_) (fun c H => ?_)
  conv => whnf
  exact ⟨(k, wrap64 (x1 + 1), wrap64 (x5 + 1)), [], ⟨H, lt_⟩, lt_, (fits_of ⟨.inl ⟨rfl, rfl⟩, ⟨.inl ⟨rfl, rfl⟩, trivial⟩⟩ trivial fi_ trivial rfl)⟩
  conv => whnf
  injection H with H; subst H
  exact ret_fz [] (rtA_eq rfl)
  conv => whnf
  injection H with H; subst H
  exact ret_fz [] (rtA_eq rfl)
theorem laws_FnExactCtlStations.ac {k : Nat} {a0_0 : List ByteArray} {a0_1 : List S_laws_PlantFoe} {a0_2 : List S_laws_PlantPlace} {a0_3 : List S_laws_PlantValve} {r : Bool} (H : laws_FnExactCtlStations.f k a0_0 a0_1 a0_2 a0_3 = some r) : ACalls Try.prog G 11 [] [.agg [(sv_str a0_0), (sv_S_laws_PlantFoe a0_1), (sv_S_laws_PlantPlace a0_2), (sv_S_laws_PlantValve a0_3)]] [] (.bool r) := by
  refine acalls_of tok hP Try.func11 rfl (by kernel_rfl) [.tmp 2] rfl (by kernel_rfl) (Nat.le_of_ble_eq_true rfl) (.l .n (.l .n (.l .n (.l (.l .n (.l (.c .n .n) .n)) (.c .n (.l .n (.l .n (.l (.c .n .n) (.l .n (.l .n (.c .n (.l .n (.l .n (.c .n (.l .n (.l .n (.l .n (.l (.c .n .n) (.l .n (.l .n (.l .n (.c .n .n)))))))))))))))))))))) rfl ?_
  unfold laws_FnExactCtlStations.f at H
  conv => whnf
  revert H; refine bind_elim (fun t1378 A H => ?_)
  refine call_mk (laws_szPlant.ac A) (avAL_cons (avA_agg (avL_cons (av_shut' rfl) (avL_cons (av_shut' rfl) (avL_cons (av_shut' rfl) (avL_cons (av_shut' rfl) (avL_nil)))))) (avAL_cons (avA_shut' rfl) (avAL_nil))) (Or.inl rfl) rfl rfl (Nat.le_of_ble_eq_true rfl) ?_
  conv => whnf
  refine br_d H (fun c H => ?_) (fun c H => ?_)
  conv => whnf
  refine cut_ 80 [(2, .bool true)] [] rfl ⟨.inl rfl, trivial⟩ trivial ?_
  conv => whnf
  injection H with H; subst H
  exact ret_fz [] (rtA_eq rfl)
  conv => whnf
  revert H; refine bind_elim (fun t1381 A H => ?_)
  refine call_mk (laws_toPlant.ac A) (avAL_cons (avA_agg (avL_cons (av_shut' rfl) (avL_cons (av_shut' rfl) (avL_cons (av_shut' rfl) (avL_cons (av_shut' rfl) (avL_nil)))))) (avAL_nil)) (Or.inl rfl) rfl rfl (Nat.le_of_ble_eq_true rfl) ?_
  conv => whnf
  revert H; refine bind_elim (fun t1382 A H => ?_)
  refine call_mk (spec_CtlStations.ac A) (avAL_cons (avA_agg (avL_cons (av_shut' rfl) (avL_cons (av_shut' rfl) (avL_cons (av_shut' rfl) (avL_cons (av_shut' rfl) (avL_nil)))))) (avAL_nil)) (Or.inl rfl) rfl rfl (Nat.le_of_ble_eq_true rfl) ?_
  conv => whnf
  refine cut_ 104 [(1, .bp 0 0), (4, (sv_str t1382))] [(0, .box [(sv_str a0_0), (sv_S_laws_PlantFoe a0_1), (sv_S_laws_PlantPlace a0_2), (sv_S_laws_PlantValve a0_3)])] rfl ⟨.inl rfl, ⟨.inl rfl, trivial⟩⟩ ⟨rfl, trivial⟩ ?_
  conv => whnf
  revert H; refine bind_elim (fun t1384 A H => ?_)
  refine call_mk (laws_toPlant.acO A) (avAL_cons (avA_agg (avL_cons (av_shut' rfl) (avL_cons (av_shut' rfl) (avL_cons (av_shut' rfl) (avL_cons (av_shut' rfl) (avL_nil)))))) (avAL_nil)) (Or.inl rfl) rfl rfl (Nat.le_of_ble_eq_true rfl) ?_
  conv => whnf
  revert H; refine bind_elim (fun t1386 A H => ?_)
  refine call_mk (impl_CtlStations.acO A) (avAL_cons (avA_agg (avL_cons (av_own rfl rfl) (avL_cons (av_own rfl rfl) (avL_cons (av_own rfl rfl) (avL_cons (av_own rfl rfl) (avL_nil)))))) (avAL_nil)) (Or.inr ⟨rfl, bo_cons (bo_arr bare_en_str) (bo_nil)⟩) rfl rfl (Nat.le_of_ble_eq_true rfl) ?_
  conv => whnf
  revert H; refine bind_elim (fun t1389 A H => ?_)
  refine call_mk (laws_eqStringS.ac A) (avAL_cons (avA_own rfl rfl) (avAL_cons (avA_shut' rfl) (avAL_nil))) (Or.inr ⟨rfl, bo_nil⟩) rfl rfl (Nat.le_of_ble_eq_true rfl) ?_
  conv => whnf
  refine cut_ 192 [(1, .bp 0 0), (4, (sv_str t1382)), (5, .bp 120 0), (6, .own 144 t1386.length), (26, .bool (!t1389))] [(0, .box [(sv_str a0_0), (sv_S_laws_PlantFoe a0_1), (sv_S_laws_PlantPlace a0_2), (sv_S_laws_PlantValve a0_3)]), (112, .arr 9 1 (t1384.1.map en_str)), (113, .arr 170 2 (t1384.2.1.map en_S_impl_PlantFoe)), (114, .arr 173 3 (t1384.2.2.1.map en_S_impl_PlantPlace)), (115, .arr 175 4 (t1384.2.2.2.map en_S_impl_PlantValve)), (120, .box [.own 112 t1384.1.length, .own 113 t1384.2.1.length, .own 114 t1384.2.2.1.length, .own 115 t1384.2.2.2.length]), (144, .arr 9 1 (t1386.map en_str))] rfl ⟨.inl rfl, ⟨.inl rfl, ⟨.inl rfl, ⟨.inl rfl, ⟨.inl rfl, trivial⟩⟩⟩⟩⟩ ⟨rfl, ⟨rfl, ⟨rfl, ⟨rfl, ⟨rfl, ⟨rfl, ⟨rfl, trivial⟩⟩⟩⟩⟩⟩⟩ ?_
  conv => whnf
  refine br_nt H (fun c H => ?_) (fun c H => ?_)
  conv => whnf
  revert H; refine bind_elim (fun t1394 A H => ?_)
  refine call_mk (laws_toPlant.ac A) (avAL_cons (avA_agg (avL_cons (av_shut' rfl) (avL_cons (av_shut' rfl) (avL_cons (av_shut' rfl) (avL_cons (av_shut' rfl) (avL_nil)))))) (avAL_nil)) (Or.inl rfl) rfl rfl (Nat.le_of_ble_eq_true rfl) ?_
  conv => whnf
  revert H; refine bind_elim (fun t1395 A H => ?_)
  refine call_mk (laws_eqPlant.ac A) (avAL_cons (avA_agg (avL_cons (av_own rfl rfl) (avL_cons (av_own rfl rfl) (avL_cons (av_own rfl rfl) (avL_cons (av_own rfl rfl) (avL_nil)))))) (avAL_cons (avA_agg (avL_cons (av_shut' rfl) (avL_cons (av_shut' rfl) (avL_cons (av_shut' rfl) (avL_cons (av_shut' rfl) (avL_nil)))))) (avAL_nil))) (Or.inr ⟨rfl, bo_nil⟩) rfl rfl (Nat.le_of_ble_eq_true rfl) ?_
  conv => whnf
  refine br_nt H (fun c H => ?_) (fun c H => ?_)
  conv => whnf
  revert H; refine bind_elim (fun t1397 A H => ?_)
  refine call_mk2 [112, 113, 114, 115] (laws_markPlant.ac A) ⟨rfl, ⟨rfl, ⟨rfl, ⟨rfl, trivial⟩⟩⟩⟩ rfl rfl rfl rfl rfl rfl rfl rfl ?_
  conv => whnf
  refine cut_ 272 [(1, .bp 0 0), (4, (sv_str t1382)), (6, .own 144 t1386.length), (7, .int .i64 t1397.1)] [(0, .box [(sv_str a0_0), (sv_S_laws_PlantFoe a0_1), (sv_S_laws_PlantPlace a0_2), (sv_S_laws_PlantValve a0_3)]), (144, .arr 9 1 (t1386.map en_str))] rfl ⟨.inl rfl, ⟨.inl rfl, ⟨.inl rfl, ⟨.inl rfl, trivial⟩⟩⟩⟩ ⟨rfl, ⟨rfl, trivial⟩⟩ ?_
  conv => whnf
  refine br_d H (fun c H => ?_) (fun c H => ?_)
  conv => whnf
  refine Br.t ft_ ?_
  conv => whnf
  refine Br.t ft_ ?_
  conv => whnf
  refine Br.t ft_ ?_
  conv => whnf
  refine Br.t ft_ ?_
  conv => whnf
  refine Br.t rfl ?_
  conv => whnf
  injection H with H; subst H
  exact ret_fz [] (rtA_eq rfl)
  conv => whnf
  refine Br.f ff_ ?_
  conv => whnf
  refine Br.f ff_ ?_
  conv => whnf
  revert H; refine bind_elim (fun t1400 A H => ?_)
  refine call_mk (laws_eqStringS.ac A) (avAL_cons (avA_own rfl rfl) (avAL_cons (avA_shut' rfl) (avAL_nil))) (Or.inr ⟨rfl, bo_nil⟩) rfl rfl (Nat.le_of_ble_eq_true rfl) ?_
  conv => whnf
  refine Br.f ff_ ?_
  conv => whnf
  refine Br.f ff_ ?_
  conv => whnf
  refine br_nt H (fun c H => ?_) (fun c H => ?_)
  conv => whnf
  revert H; refine bind_elim (fun t1402 A H => ?_)
  refine call_mk2 [144] (laws_markStringS.ac A) ⟨rfl, trivial⟩ rfl rfl rfl rfl rfl rfl rfl rfl ?_
  conv => whnf
  refine cut_ 376 [(1, .bp 0 0), (4, (sv_str t1382)), (6, .own 144 t1386.length), (8, .int .i64 t1402.1)] [(0, .box [(sv_str a0_0), (sv_S_laws_PlantFoe a0_1), (sv_S_laws_PlantPlace a0_2), (sv_S_laws_PlantValve a0_3)]), (144, .arr 9 1 (t1402.2.map en_str))] rfl ⟨.inl rfl, ⟨.inl rfl, ⟨.inl rfl, ⟨.inl rfl, trivial⟩⟩⟩⟩ ⟨rfl, ⟨rfl, trivial⟩⟩ ?_
  conv => whnf
  revert H; refine bind_elim (fun t1404 A H => ?_)
  refine call_mk (laws_heldStringS.ac A) (avAL_cons (avA_ownX rfl rfl lm_ lm_) (avAL_cons (avA_shut' rfl) (avAL_nil))) (Or.inr ⟨rfl, bo_nil⟩) rfl rfl (Nat.le_of_ble_eq_true rfl) ?_
  conv => whnf
  refine br_d H (fun c H => ?_) (fun c H => ?_)
  conv => whnf
  injection H with H; subst H
  exact ret_fz [] (rtA_eq rfl)
  conv => whnf
  refine cut_ 456 [(1, .bp 0 0), (4, (sv_str t1382)), (6, .own 144 t1386.length), (8, .int .i64 t1402.1), (53, .bool (!(decide (t1404 = t1402.1))))] [(0, .box [(sv_str a0_0), (sv_S_laws_PlantFoe a0_1), (sv_S_laws_PlantPlace a0_2), (sv_S_laws_PlantValve a0_3)]), (144, .arr 9 1 (t1402.2.map en_str))] rfl ⟨.inl rfl, ⟨.inl rfl, ⟨.inl rfl, ⟨.inl rfl, ⟨.inl rfl, trivial⟩⟩⟩⟩⟩ ⟨rfl, ⟨rfl, trivial⟩⟩ ?_
  conv => whnf
  refine br_nd H (fun c H => ?_) (fun c H => ?_)
  conv => whnf
  revert H; refine bind_elim (fun t1407 A H => ?_)
  refine call_mk (laws_toPlant.ac A) (avAL_cons (avA_agg (avL_cons (av_shut' rfl) (avL_cons (av_shut' rfl) (avL_cons (av_shut' rfl) (avL_cons (av_shut' rfl) (avL_nil)))))) (avAL_nil)) (Or.inl rfl) rfl rfl (Nat.le_of_ble_eq_true rfl) ?_
  conv => whnf
  revert H; refine bind_elim (fun t1408 A H => ?_)
  refine call_mk (impl_CtlStations.ac A) (avAL_cons (avA_agg (avL_cons (av_shut' rfl) (avL_cons (av_shut' rfl) (avL_cons (av_shut' rfl) (avL_cons (av_shut' rfl) (avL_nil)))))) (avAL_nil)) (Or.inl rfl) rfl rfl (Nat.le_of_ble_eq_true rfl) ?_
  conv => whnf
  revert H; refine bind_elim (fun t1411 A H => ?_)
  refine call_mk (laws_eqStringS.ac A) (avAL_cons (avA_shut' rfl) (avAL_cons (avA_shut' rfl) (avAL_nil))) (Or.inl rfl) rfl rfl (Nat.le_of_ble_eq_true rfl) ?_
  conv => whnf
  refine br_nt H (fun c H => ?_) (fun c H => ?_)
  conv => whnf
  revert H; refine bind_elim (fun t1413 A H => ?_)
  refine call_mk (laws_heldStringS.ac A) (avAL_cons (avA_ownX rfl rfl lm_ lm_) (avAL_cons (avA_shut' rfl) (avAL_nil))) (Or.inr ⟨rfl, bo_nil⟩) rfl rfl (Nat.le_of_ble_eq_true rfl) ?_
  conv => whnf
  refine cut_ 560 [(8, .int .i64 t1402.1), (9, .int .i64 t1413)] [] rfl ⟨.inl rfl, ⟨.inl rfl, trivial⟩⟩ trivial ?_
  conv => whnf
  refine br_d H (fun c H => ?_) (fun c H => ?_)
  conv => whnf
  injection H with H; subst H
  exact ret_fz [] (rtA_eq rfl)
  conv => whnf
  refine br_nd H (fun c H => ?_) (fun c H => ?_)
  conv => whnf
  injection H with H; subst H
  exact ret_fz [] (rtA_eq rfl)
  conv => whnf
  injection H with H; subst H
  exact ret_fz [] (rtA_eq rfl)
  conv => whnf
  injection H with H; subst H
  exact ret_fz [] (rtA_eq rfl)
  conv => whnf
  injection H with H; subst H
  exact ret_fz [] (rtA_eq rfl)
  conv => whnf
  injection H with H; subst H
  exact ret_fz [] (rtA_eq rfl)
  conv => whnf
  injection H with H; subst H
  exact ret_fz [] (rtA_eq rfl)
  conv => whnf
  injection H with H; subst H
  exact ret_fz [] (rtA_eq rfl)

end Go.Proofs.Ytamkmmkchdnkmaa.CS

