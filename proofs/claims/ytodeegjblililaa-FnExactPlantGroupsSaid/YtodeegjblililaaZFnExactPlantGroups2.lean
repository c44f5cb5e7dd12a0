import Derived.Test.YtodeegjblililaaZFnExactPlantGroups1
import Derived.Shelf.Lay
import Derived.Shelf.Sort.AssemblyIn
import Derived.Ground.SoProg
import Derived.Test.YtodeegjblililaaProg
import Derived.KernelRfl
set_option linter.unusedVariables false
set_option linter.unusedSimpArgs false
namespace Go.Proofs.Ytodeegjblililaa.PS
open Go Go.Aw Go.RowKit Go.Proofs
set_option maxRecDepth 100000
set_option maxHeartbeats 40000000
variable {G : Nat → Option Obj}
attribute [local irreducible] callE Lp Sq Cut RetOk Fits
theorem laws_eqPlantValveS.l0_lp {F : (Exit → St → Prop) → St → Prop} {hv : List Tmp} {Q : Exit → St → Prop} {σ : St} {r : Bool} {k : Nat} {l0 : List S_impl_PlantValve} {l1 : List S_impl_PlantValve} {x5 : Int} (H : laws_eqPlantValveS.l0 k l0 l1 x5 = some r) (rn : List (Option Nat)) (h1 : Fits σ σ [] [(5, .int .i64 x5)] [] [] rn)
    (h2 : ∀ (k0 : Nat) (x5 : Int), k0 < k + 1 → laws_eqPlantValveS.l0 k0 l0 l1 x5 = some r → headN σ hv [] [(5, .int .i64 x5)] [] [] (F (fun e σ' => match e with | .normal => ∃ (y : Nat × Int) (rn : List (Option Nat)), (laws_eqPlantValveS.l0 y.1 l0 l1 y.2 = some r ∧ y.1 < k + 1) ∧ y.1 < k0 ∧ Fits σ σ' [] [(5, .int .i64 y.2)] [] [] rn | e => Q e σ'))) : Lp F hv Q σ := by
  unfold Lp
  refine ⟨Nat × Int, fun x => laws_eqPlantValveS.l0 x.1 l0 l1 x.2 = some r ∧ x.1 < k + 1, fun x => x.1, [], fun x => [(5, .int .i64 x.2)], fun x => [], fun x => [], ⟨(k, x5), rn, ⟨H, Nat.lt_succ_self _⟩, h1⟩, ?_⟩
  rintro ⟨k, x5⟩ ⟨H, hk⟩
  exact h2 k x5 hk H
theorem laws_eqPlantValveS.ac {k : Nat} {l0 : List S_impl_PlantValve} {l1 : List S_impl_PlantValve} {r : Bool} (H : laws_eqPlantValveS.f k l0 l1 = some r) : ACalls Try.prog G 93 [] [(sv_S_impl_PlantValve l0), (sv_S_impl_PlantValve l1)] [] (.bool r) := by
  refine acalls_of tok hP Try.func93 rfl (by kernel_rfl) [.tmp 4] rfl (by kernel_rfl) (Nat.le_of_ble_eq_true rfl) (.l .n (.l .n (.l (.l .n (.l (.c .n .n) (.l (.c .n .n) .n))) .n))) rfl ?_
  unfold laws_eqPlantValveS.f at H
  conv => whnf
  refine br_nd H (fun c H => ?_) (fun c H => ?_)
  conv => whnf
  refine laws_eqPlantValveS.l0_lp (l0 := l0) (l1 := l1) (k := k) H [] (fits_of ⟨.inl ⟨rfl, rfl⟩, trivial⟩ trivial fi_ trivial rfl) ?_
  intro k x5 hk H; rcases k with _ | k; exact none_elim H; rw [laws_eqPlantValveS.l0] at H; conv => whnf
  refine cut_ 88 [(0, (sv_S_impl_PlantValve l0)), (1, (sv_S_impl_PlantValve l1)), (5, .int .i64 x5), (14, .bool (decide (x5 < (l0.length : Int))))] [] rfl ⟨.inl rfl, ⟨.inl rfl, ⟨.inl rfl, ⟨.inl rfl, trivial⟩⟩⟩⟩ trivial ?_
  conv => whnf
  refine br_d H (fun c H => ?_) (fun c H => ?_)
  conv => whnf
  refine nd_ H (fun c H => ?_)
  conv => whnf
  refine Nd.mk nf_ ?_
  conv => whnf
  refine El.mk (rdm_en_S_impl_PlantValve _ _ nf_ nf_) ?_
  conv => whnf
  refine Nd.mk nf_ ?_
  conv => whnf
  refine nd_ H (fun c H => ?_)
  conv => whnf
  refine El.mk (rdm_en_S_impl_PlantValve _ _ nf_ nf_) ?_
  conv => whnf
  revert H; refine bind_elim (fun t1146 A H => ?_)
  refine call_mk (laws_eqPlantValve.ac A) (avAL_cons (avA_agg (avL_cons (av_shut' rfl) (avL_cons (av_shut' rfl) (avL_cons (av_shut' rfl) (avL_cons (av_shut' rfl) (avL_nil)))))) (avAL_cons (avA_agg (avL_cons (av_shut' rfl) (avL_cons (av_shut' rfl) (avL_cons (av_shut' rfl) (avL_cons (av_shut' rfl) (avL_nil)))))) (avAL_nil))) (Or.inl rfl) rfl rfl (Nat.le_of_ble_eq_true rfl) ?_
  conv => whnf
  refine cut_ 168 [(0, (sv_S_impl_PlantValve l0)), (1, (sv_S_impl_PlantValve l1)), (5, .int .i64 x5), (26, .bool (!t1146))] [] rfl ⟨.inl rfl, ⟨.inl rfl, ⟨.inl rfl, ⟨.inl rfl, trivial⟩⟩⟩⟩ trivial ?_
  conv => whnf
  refine br_nt H (fun c H => ?_) (fun c H => ?_)
  conv => whnf
  exact ⟨(k, wrap64 (x5 + 1)), [], ⟨H, lt_⟩, lt_, (fits_of ⟨.inl ⟨rfl, rfl⟩, trivial⟩ trivial fi_ trivial rfl)⟩
  conv => whnf
  injection H with H; subst H
  exact ret_fz [] (rtA_eq rfl)
  conv => whnf
  injection H with H; subst H
  exact ret_fz [] (rtA_eq rfl)
  conv => whnf
  injection H with H; subst H
  exact ret_fz [] (rtA_eq rfl)
theorem laws_eqPlant.ac {k : Nat} {a0_0 : List ByteArray} {a0_1 : List S_impl_PlantFoe} {a0_2 : List S_impl_PlantPlace} {a0_3 : List S_impl_PlantValve} {a1_0 : List ByteArray} {a1_1 : List S_impl_PlantFoe} {a1_2 : List S_impl_PlantPlace} {a1_3 : List S_impl_PlantValve} {r : Bool} (H : laws_eqPlant.f k a0_0 a0_1 a0_2 a0_3 a1_0 a1_1 a1_2 a1_3 = some r) : ACalls Try.prog G 29 [] [.agg [(sv_str a0_0), (sv_S_impl_PlantFoe a0_1), (sv_S_impl_PlantPlace a0_2), (sv_S_impl_PlantValve a0_3)], .agg [(sv_str a1_0), (sv_S_impl_PlantFoe a1_1), (sv_S_impl_PlantPlace a1_2), (sv_S_impl_PlantValve a1_3)]] [] (.bool r) := by
  refine acalls_of tok hP Try.func29 rfl (by kernel_rfl) [.tmp 4] rfl (by kernel_rfl) (Nat.le_of_ble_eq_true rfl) (.l .n (.l (.l .n (.l (.c .n .n) .n)) (.l (.c .n .n) (.l .n (.l (.c .n .n) .n))))) rfl ?_
  unfold laws_eqPlant.f at H
  conv => whnf
  revert H; refine bind_elim (fun t1149 A H => ?_)
  refine call_mk (laws_eqStringS.ac A) (avAL_cons (avA_shut' rfl) (avAL_cons (avA_shut' rfl) (avAL_nil))) (Or.inl rfl) rfl rfl (Nat.le_of_ble_eq_true rfl) ?_
  conv => whnf
  refine br_nt H (fun c H => ?_) (fun c H => ?_)
  conv => whnf
  revert H; refine bind_elim (fun t1152 A H => ?_)
  refine call_mk (laws_eqPlantFoeS.ac A) (avAL_cons (avA_shut' rfl) (avAL_cons (avA_shut' rfl) (avAL_nil))) (Or.inl rfl) rfl rfl (Nat.le_of_ble_eq_true rfl) ?_
  conv => whnf
  refine cut_ 120 [(2, .bp 0 0), (3, .bp 8 0), (16, .bool (!t1152))] [(0, .box [(sv_str a0_0), (sv_S_impl_PlantFoe a0_1), (sv_S_impl_PlantPlace a0_2), (sv_S_impl_PlantValve a0_3)]), (8, .box [(sv_str a1_0), (sv_S_impl_PlantFoe a1_1), (sv_S_impl_PlantPlace a1_2), (sv_S_impl_PlantValve a1_3)])] rfl ⟨.inl rfl, ⟨.inl rfl, ⟨.inl rfl, trivial⟩⟩⟩ ⟨rfl, ⟨rfl, trivial⟩⟩ ?_
  conv => whnf
  refine br_nt H (fun c H => ?_) (fun c H => ?_)
  conv => whnf
  revert H; refine bind_elim (fun t1155 A H => ?_)
  refine call_mk (laws_eqPlantPlaceS.ac A) (avAL_cons (avA_shut' rfl) (avAL_cons (avA_shut' rfl) (avAL_nil))) (Or.inl rfl) rfl rfl (Nat.le_of_ble_eq_true rfl) ?_
  conv => whnf
  refine br_nt H (fun c H => ?_) (fun c H => ?_)
  conv => whnf
  revert H; refine bind_elim (fun t1158 A H => ?_)
  refine call_mk (laws_eqPlantValveS.ac A) (avAL_cons (avA_shut' rfl) (avAL_cons (avA_shut' rfl) (avAL_nil))) (Or.inl rfl) rfl rfl (Nat.le_of_ble_eq_true rfl) ?_
  conv => whnf
  refine cut_ 216 [(28, .bool (!t1158))] [] rfl ⟨.inl rfl, trivial⟩ trivial ?_
  conv => whnf
  refine br_nt H (fun c H => ?_) (fun c H => ?_)
  conv => whnf
  injection H with H; subst H
  exact ret_fz [] (rtA_eq rfl)
  conv => whnf
  injection H with H; subst H
  exact ret_fz [] (rtA_eq rfl)
  conv => whnf
  injection H with H; subst H
  exact ret_fz [] (rtA_eq rfl)
  conv => whnf
  injection H with H; subst H
  exact ret_fz [] (rtA_eq rfl)
  conv => whnf
  refine cut_ 80 [(4, .bool false)] [] rfl ⟨.inl rfl, trivial⟩ trivial ?_
  conv => whnf
  injection H with H; subst H
  exact ret_fz [] (rtA_eq rfl)
theorem laws_markText.l0_lp {F : (Exit → St → Prop) → St → Prop} {hv : List Tmp} {Q : Exit → St → Prop} {σ : St} {r : ByteArray} {k : Nat} {x0 : Int} {x3 : ByteArray} (H : laws_markText.l0 k x0 x3 = some r) (rn : List (Option Nat)) (h1 : Fits σ σ [] [(0, .int .i64 x0), (3, .str x3)] [] [] rn)
    (h2 : ∀ (k0 : Nat) (x0 : Int) (x3 : ByteArray), k0 < k + 1 → laws_markText.l0 k0 x0 x3 = some r → headN σ hv [] [(0, .int .i64 x0), (3, .str x3)] [] [] (F (fun e σ' => match e with | .normal => ∃ (y : Nat × Int × ByteArray) (rn : List (Option Nat)), (laws_markText.l0 y.1 y.2.1 y.2.2 = some r ∧ y.1 < k + 1) ∧ y.1 < k0 ∧ Fits σ σ' [] [(0, .int .i64 y.2.1), (3, .str y.2.2)] [] [] rn | e => Q e σ'))) : Lp F hv Q σ := by
  unfold Lp
  refine ⟨Nat × Int × ByteArray, fun x => laws_markText.l0 x.1 x.2.1 x.2.2 = some r ∧ x.1 < k + 1, fun x => x.1, [], fun x => [(0, .int .i64 x.2.1), (3, .str x.2.2)], fun x => [], fun x => [], ⟨(k, x0, x3), rn, ⟨H, Nat.lt_succ_self _⟩, h1⟩, ?_⟩
  rintro ⟨k, x0, x3⟩ ⟨H, hk⟩
  exact h2 k x0 x3 hk H
theorem laws_markText.ac {k : Nat} {a0 : Int} {r : ByteArray} (H : laws_markText.f k a0 = some r) : ACalls Try.prog G 81 [] [.int .i64 a0] [] (.str r) := by
  refine acalls_of tok hP Try.func81 rfl (by kernel_rfl) [.tmp 2] rfl (by kernel_rfl) (Nat.le_of_ble_eq_true rfl) (.l .n (.l .n (.l .n (.l (.l .n (.c .n .n)) .n)))) rfl ?_
  unfold laws_markText.f at H
  conv => whnf
  refine br_d H (fun c H => ?_) (fun c H => ?_)
  conv => whnf
  injection H with H; subst H
  exact ret_fz [] (rtA_eq rfl)
  conv => whnf
  refine laws_markText.l0_lp (k := k) H [] (fits_of ⟨.inl ⟨rfl, rfl⟩, ⟨.inl ⟨rfl, rfl⟩, trivial⟩⟩ trivial fi_ trivial rfl) ?_
  intro k x0 x3 hk H; rcases k with _ | k; exact none_elim H; rw [laws_markText.l0] at H; conv => whnf
  refine br_d H (fun c H => ?_) (fun c H => ?_)
  conv => whnf
  refine Nd.mk (by decide) ?_
  conv => whnf
  refine Or.inl ?_
  conv => whnf
  refine nd_ H (fun c H => ?_)
  conv => whnf
  refine cut_ 120 [(0, .int .i64 x0), (3, .str ((⟨#[UInt8.ofNat (IntKind.wrap .u8 (wrap64 (48 + (Int.tmod x0 10)))).toNat]⟩ : ByteArray) ++ x3))] [] rfl ⟨.inl rfl, ⟨.inl rfl, trivial⟩⟩ trivial ?_
  conv => whnf
  refine Nd.mk (by decide) ?_
  conv => whnf
  exact ⟨(k, wrap64 (Int.tdiv x0 10), (⟨#[UInt8.ofNat (IntKind.wrap .u8 (wrap64 (48 + (Int.tmod x0 10)))).toNat]⟩ : ByteArray) ++ x3), [], ⟨H, lt_⟩, lt_, (fits_of ⟨.inl ⟨rfl, rfl⟩, ⟨.inl ⟨rfl, rfl⟩, trivial⟩⟩ trivial fi_ trivial rfl)⟩
  conv => whnf
  refine nd_ H (fun c H => ?_)
  conv => whnf
  injection H with H; subst H
  exact ret_fz [] (rtA_eq rfl)
theorem laws_markStringS.l0_lp {F : (Exit → St → Prop) → St → Prop} {hv : List Tmp} {Q : Exit → St → Prop} {σ : St} {r : Int × (List ByteArray)} {k : Nat} {l0 : List ByteArray} {x1 : Int} {x5 : Int} {x1000 : List ByteArray} (H : laws_markStringS.l0 k l0 x1 x5 x1000 = some r) (rn : List (Option Nat)) (h1 : Fits σ σ [0] [(1, .int .i64 x1), (5, .int .i64 x5)] [(0, .arr 9 1 (x1000.map en_str))] [] rn)
    (h2 : ∀ (k0 : Nat) (x1 : Int) (x5 : Int) (x1000 : List ByteArray), k0 < k + 1 → laws_markStringS.l0 k0 l0 x1 x5 x1000 = some r → headN σ hv [0] [(1, .int .i64 x1), (5, .int .i64 x5)] [(0, .arr 9 1 (x1000.map en_str))] [] (F (fun e σ' => match e with | .normal => ∃ (y : Nat × Int × Int × (List ByteArray)) (rn : List (Option Nat)), (laws_markStringS.l0 y.1 l0 y.2.1 y.2.2.1 y.2.2.2 = some r ∧ y.1 < k + 1) ∧ y.1 < k0 ∧ Fits σ σ' [0] [(1, .int .i64 y.2.1), (5, .int .i64 y.2.2.1)] [(0, .arr 9 1 (y.2.2.2.map en_str))] [] rn | e => Q e σ'))) : Lp F hv Q σ := by
  unfold Lp
  refine ⟨Nat × Int × Int × (List ByteArray), fun x => laws_markStringS.l0 x.1 l0 x.2.1 x.2.2.1 x.2.2.2 = some r ∧ x.1 < k + 1, fun x => x.1, [0], fun x => [(1, .int .i64 x.2.1), (5, .int .i64 x.2.2.1)], fun x => [(0, .arr 9 1 (x.2.2.2.map en_str))], fun x => [], ⟨(k, x1, x5, x1000), rn, ⟨H, Nat.lt_succ_self _⟩, h1⟩, ?_⟩
  rintro ⟨k, x1, x5, x1000⟩ ⟨H, hk⟩
  exact h2 k x1 x5 x1000 hk H
theorem laws_markStringS.ac {k : Nat} {l0 : List ByteArray} {a1 : Int} {r : Int × (List ByteArray)} (H : laws_markStringS.f k l0 a1 = some r) : ACalls Try.prog G 21 [.arr 9 1 (l0.map en_str)] [.own 0 l0.length, .int .i64 a1] [.arr 9 1 (r.2.map en_str)] (.int .i64 r.1) := by
  refine acalls_of tok hP Try.func21 rfl (by kernel_rfl) [.tmp 4] rfl (by kernel_rfl) (Nat.le_of_ble_eq_true rfl) (.l .n (.l (.l .n (.l .n (.l (.c .n .n) .n))) .n)) rfl ?_
  unfold laws_markStringS.f at H
  conv => whnf
  refine laws_markStringS.l0_lp (l0 := l0) (k := k) H [] (fits_of ⟨.inl ⟨rfl, rfl⟩, ⟨.inl ⟨rfl, rfl⟩, trivial⟩⟩ trivial fi_ ⟨⟨_, rfl⟩, rfl, trivial⟩ rfl) ?_
  intro k x1 x5 x1000 hk H; rcases k with _ | k; exact none_elim H; rw [laws_markStringS.l0] at H; conv => whnf
  refine chk_ H (fun c H => ?_)
  refine br_d H (fun c H => ?_) (fun c H => ?_)
  conv => whnf
  revert H; refine bind_elim (fun t1289 A H => ?_)
  refine call_mk (laws_markText.ac A) (avAL_cons (avA_shut' rfl) (avAL_nil)) (Or.inl rfl) rfl rfl (Nat.le_of_ble_eq_true rfl) ?_
  conv => whnf
  refine nd_ H (fun c H => ?_)
  conv => whnf
  refine Nd.mk nf_ ?_
  conv => whnf
  refine El.mk (rdm_en_str _ _ nf_ nf_) ?_
  conv => whnf
  refine cut_ 97 [(0, .own 0 l0.length), (1, .int .i64 x1), (5, .int .i64 x5)] [(0, .arr 9 1 ((x1000.set (x5).toNat t1289).map en_str))] rfl ⟨.inl rfl, ⟨.inl rfl, ⟨.inl rfl, trivial⟩⟩⟩ ⟨fm_, trivial⟩ ?_
  conv => whnf
  exact ⟨(k, wrap64 (x1 + 1), wrap64 (x5 + 1), (x1000.set (x5).toNat t1289)), [], ⟨H, lt_⟩, lt_, (fits_of ⟨.inl ⟨rfl, rfl⟩, ⟨.inl ⟨rfl, rfl⟩, trivial⟩⟩ trivial fi_ ⟨⟨_, rfl⟩, rfl, trivial⟩ rfl)⟩
  conv => whnf
  injection H with H; subst H
  exact ret_gen [some 0] [] ((rtA_eq rfl)) ⟨rfl, trivial⟩ rfl
theorem laws_markPlantFoeS.l0_lp {F : (Exit → St → Prop) → St → Prop} {hv : List Tmp} {Q : Exit → St → Prop} {σ : St} {r : Int × (List S_impl_PlantFoe)} {k : Nat} {l0 : List S_impl_PlantFoe} {x1 : Int} {x5 : Int} {x1000 : List S_impl_PlantFoe} (H : laws_markPlantFoeS.l0 k l0 x1 x5 x1000 = some r) (rn : List (Option Nat)) (h1 : Fits σ σ [0] [(1, .int .i64 x1), (5, .int .i64 x5)] [(0, .arr 168 2 (x1000.map en_S_impl_PlantFoe))] [] rn)
    (h2 : ∀ (k0 : Nat) (x1 : Int) (x5 : Int) (x1000 : List S_impl_PlantFoe), k0 < k + 1 → laws_markPlantFoeS.l0 k0 l0 x1 x5 x1000 = some r → headN σ hv [0] [(1, .int .i64 x1), (5, .int .i64 x5)] [(0, .arr 168 2 (x1000.map en_S_impl_PlantFoe))] [] (F (fun e σ' => match e with | .normal => ∃ (y : Nat × Int × Int × (List S_impl_PlantFoe)) (rn : List (Option Nat)), (laws_markPlantFoeS.l0 y.1 l0 y.2.1 y.2.2.1 y.2.2.2 = some r ∧ y.1 < k + 1) ∧ y.1 < k0 ∧ Fits σ σ' [0] [(1, .int .i64 y.2.1), (5, .int .i64 y.2.2.1)] [(0, .arr 168 2 (y.2.2.2.map en_S_impl_PlantFoe))] [] rn | e => Q e σ'))) : Lp F hv Q σ := by
  unfold Lp
  refine ⟨Nat × Int × Int × (List S_impl_PlantFoe), fun x => laws_markPlantFoeS.l0 x.1 l0 x.2.1 x.2.2.1 x.2.2.2 = some r ∧ x.1 < k + 1, fun x => x.1, [0], fun x => [(1, .int .i64 x.2.1), (5, .int .i64 x.2.2.1)], fun x => [(0, .arr 168 2 (x.2.2.2.map en_S_impl_PlantFoe))], fun x => [], ⟨(k, x1, x5, x1000), rn, ⟨H, Nat.lt_succ_self _⟩, h1⟩, ?_⟩
  rintro ⟨k, x1, x5, x1000⟩ ⟨H, hk⟩
  exact h2 k x1 x5 x1000 hk H
theorem laws_markPlantFoeS.ac {k : Nat} {l0 : List S_impl_PlantFoe} {a1 : Int} {r : Int × (List S_impl_PlantFoe)} (H : laws_markPlantFoeS.f k l0 a1 = some r) : ACalls Try.prog G 94 [.arr 168 2 (l0.map en_S_impl_PlantFoe)] [.own 0 l0.length, .int .i64 a1] [.arr 168 2 (r.2.map en_S_impl_PlantFoe)] (.int .i64 r.1) := by
  refine acalls_of tok hP Try.func94 rfl (by kernel_rfl) [.tmp 4] rfl (by kernel_rfl) (Nat.le_of_ble_eq_true rfl) (.l .n (.l (.l .n (.l .n (.c (.c .n .n) .n))) .n)) rfl ?_
  unfold laws_markPlantFoeS.f at H
  conv => whnf
  refine laws_markPlantFoeS.l0_lp (l0 := l0) (k := k) H [] (fits_of ⟨.inl ⟨rfl, rfl⟩, ⟨.inl ⟨rfl, rfl⟩, trivial⟩⟩ trivial fi_ ⟨⟨_, rfl⟩, rfl, trivial⟩ rfl) ?_
  intro k x1 x5 x1000 hk H; rcases k with _ | k; exact none_elim H; rw [laws_markPlantFoeS.l0] at H; conv => whnf
  refine chk_ H (fun c H => ?_)
  refine br_d H (fun c H => ?_) (fun c H => ?_)
  conv => whnf
  revert H; refine bind_elim (fun t1398 A H => ?_)
  refine call_mk (laws_markText.ac A) (avAL_cons (avA_shut' rfl) (avAL_nil)) (Or.inl rfl) rfl rfl (Nat.le_of_ble_eq_true rfl) ?_
  conv => whnf
  refine nd_ H (fun c H => ?_)
  conv => whnf
  refine Nd.mk nf_ ?_
  conv => whnf
  refine El.mk (rdm_en_S_impl_PlantFoe _ _ nf_ nf_) ?_
  conv => whnf
  refine cut_ 105 [(0, .own 0 l0.length), (1, .int .i64 x1), (5, .int .i64 x5)] [(0, .arr 168 2 ((x1000.set (x5).toNat (⟨t1398, (rd_impl_PlantFoe x1000 x5).f1⟩ : S_impl_PlantFoe)).map en_S_impl_PlantFoe))] rfl ⟨.inl rfl, ⟨.inl rfl, ⟨.inl rfl, trivial⟩⟩⟩ ⟨fm_, trivial⟩ ?_
  conv => whnf
  revert H; refine bind_elim (fun t1399 A H => ?_)
  refine call_mk (laws_markText.ac A) (avAL_cons (avA_shut' rfl) (avAL_nil)) (Or.inl rfl) rfl rfl (Nat.le_of_ble_eq_true rfl) ?_
  conv => whnf
  refine Nd.mk nf_ ?_
  conv => whnf
  refine Nd.mk nf_ ?_
  conv => whnf
  refine El.mk (el_of (ys := (x1000.set (x5).toNat (⟨t1398, (rd_impl_PlantFoe x1000 x5).f1⟩ : S_impl_PlantFoe)).map en_S_impl_PlantFoe) lm_ (rdms en_S_impl_PlantFoe _ _ _ nf_ nf_)) ?_
  conv => whnf
  refine cut_ 209 [(0, .own 0 l0.length), (1, .int .i64 (wrap64 ((wrap64 (x1 + 1)) + 1))), (5, .int .i64 x5)] [(0, .arr 168 2 ((x1000.set (x5).toNat (⟨t1398, t1399⟩ : S_impl_PlantFoe)).map en_S_impl_PlantFoe))] rfl ⟨.inl rfl, ⟨.inl rfl, ⟨.inl rfl, trivial⟩⟩⟩ ⟨fm_, trivial⟩ ?_
  conv => whnf
  exact ⟨(k, wrap64 ((wrap64 (x1 + 1)) + 1), wrap64 (x5 + 1), (x1000.set (x5).toNat (⟨t1398, t1399⟩ : S_impl_PlantFoe))), [], ⟨H, lt_⟩, lt_, (fits_of ⟨.inl ⟨rfl, rfl⟩, ⟨.inl ⟨rfl, rfl⟩, trivial⟩⟩ trivial fi_ ⟨⟨_, rfl⟩, rfl, trivial⟩ rfl)⟩
  conv => whnf
  injection H with H; subst H
  exact ret_gen [some 0] [] ((rtA_eq rfl)) ⟨rfl, trivial⟩ rfl
theorem laws_markPlantPlaceS.l0_lp {F : (Exit → St → Prop) → St → Prop} {hv : List Tmp} {Q : Exit → St → Prop} {σ : St} {r : Int × (List S_impl_PlantPlace)} {k : Nat} {l0 : List S_impl_PlantPlace} {x1 : Int} {x5 : Int} {x1000 : List S_impl_PlantPlace} (H : laws_markPlantPlaceS.l0 k l0 x1 x5 x1000 = some r) (rn : List (Option Nat)) (h1 : Fits σ σ [0] [(1, .int .i64 x1), (5, .int .i64 x5)] [(0, .arr 109 3 (x1000.map en_S_impl_PlantPlace))] [] rn)
    (h2 : ∀ (k0 : Nat) (x1 : Int) (x5 : Int) (x1000 : List S_impl_PlantPlace), k0 < k + 1 → laws_markPlantPlaceS.l0 k0 l0 x1 x5 x1000 = some r → headN σ hv [0] [(1, .int .i64 x1), (5, .int .i64 x5)] [(0, .arr 109 3 (x1000.map en_S_impl_PlantPlace))] [] (F (fun e σ' => match e with | .normal => ∃ (y : Nat × Int × Int × (List S_impl_PlantPlace)) (rn : List (Option Nat)), (laws_markPlantPlaceS.l0 y.1 l0 y.2.1 y.2.2.1 y.2.2.2 = some r ∧ y.1 < k + 1) ∧ y.1 < k0 ∧ Fits σ σ' [0] [(1, .int .i64 y.2.1), (5, .int .i64 y.2.2.1)] [(0, .arr 109 3 (y.2.2.2.map en_S_impl_PlantPlace))] [] rn | e => Q e σ'))) : Lp F hv Q σ := by
  unfold Lp
  refine ⟨Nat × Int × Int × (List S_impl_PlantPlace), fun x => laws_markPlantPlaceS.l0 x.1 l0 x.2.1 x.2.2.1 x.2.2.2 = some r ∧ x.1 < k + 1, fun x => x.1, [0], fun x => [(1, .int .i64 x.2.1), (5, .int .i64 x.2.2.1)], fun x => [(0, .arr 109 3 (x.2.2.2.map en_S_impl_PlantPlace))], fun x => [], ⟨(k, x1, x5, x1000), rn, ⟨H, Nat.lt_succ_self _⟩, h1⟩, ?_⟩
  rintro ⟨k, x1, x5, x1000⟩ ⟨H, hk⟩
  exact h2 k x1 x5 x1000 hk H
theorem laws_markPlantPlaceS.ac {k : Nat} {l0 : List S_impl_PlantPlace} {a1 : Int} {r : Int × (List S_impl_PlantPlace)} (H : laws_markPlantPlaceS.f k l0 a1 = some r) : ACalls Try.prog G 95 [.arr 109 3 (l0.map en_S_impl_PlantPlace)] [.own 0 l0.length, .int .i64 a1] [.arr 109 3 (r.2.map en_S_impl_PlantPlace)] (.int .i64 r.1) := by
  refine acalls_of tok hP Try.func95 rfl (by kernel_rfl) [.tmp 4] rfl (by kernel_rfl) (Nat.le_of_ble_eq_true rfl) (.l .n (.l (.l .n (.l .n (.l (.c .n (.l .n (.l .n (.c .n .n)))) .n))) .n)) rfl ?_
  unfold laws_markPlantPlaceS.f at H
  conv => whnf
  refine laws_markPlantPlaceS.l0_lp (l0 := l0) (k := k) H [] (fits_of ⟨.inl ⟨rfl, rfl⟩, ⟨.inl ⟨rfl, rfl⟩, trivial⟩⟩ trivial fi_ ⟨⟨_, rfl⟩, rfl, trivial⟩ rfl) ?_
  intro k x1 x5 x1000 hk H; rcases k with _ | k; exact none_elim H; rw [laws_markPlantPlaceS.l0] at H; conv => whnf
  refine chk_ H (fun c H => ?_)
  refine br_d H (fun c H => ?_) (fun c H => ?_)
  conv => whnf
  revert H; refine bind_elim (fun t1514 A H => ?_)
  refine call_mk (laws_markText.ac A) (avAL_cons (avA_shut' rfl) (avAL_nil)) (Or.inl rfl) rfl rfl (Nat.le_of_ble_eq_true rfl) ?_
  conv => whnf
  refine nd_ H (fun c H => ?_)
  conv => whnf
  refine Nd.mk nf_ ?_
  conv => whnf
  refine El.mk (rdm_en_S_impl_PlantPlace _ _ nf_ nf_) ?_
  conv => whnf
  refine cut_ 105 [(0, .own 0 l0.length), (1, .int .i64 x1), (5, .int .i64 x5)] [(0, .arr 109 3 ((x1000.set (x5).toNat (⟨t1514, (rd_impl_PlantPlace x1000 x5).f1, (rd_impl_PlantPlace x1000 x5).f2⟩ : S_impl_PlantPlace)).map en_S_impl_PlantPlace))] rfl ⟨.inl rfl, ⟨.inl rfl, ⟨.inl rfl, trivial⟩⟩⟩ ⟨fm_, trivial⟩ ?_
  conv => whnf
  refine Nd.mk nf_ ?_
  conv => whnf
  refine Nd.mk nf_ ?_
  conv => whnf
  refine El.mk (el_of (ys := (x1000.set (x5).toNat (⟨t1514, (rd_impl_PlantPlace x1000 x5).f1, (rd_impl_PlantPlace x1000 x5).f2⟩ : S_impl_PlantPlace)).map en_S_impl_PlantPlace) lm_ (rdms en_S_impl_PlantPlace _ _ _ nf_ nf_)) ?_
  conv => whnf
  refine cut_ 201 [(0, .own 0 l0.length), (1, .int .i64 (wrap64 ((wrap64 (x1 + 1)) + 1))), (5, .int .i64 x5)] [(0, .arr 109 3 ((x1000.set (x5).toNat (⟨t1514, wrap64 (x1 + 1), (rd_impl_PlantPlace x1000 x5).f2⟩ : S_impl_PlantPlace)).map en_S_impl_PlantPlace))] rfl ⟨.inl rfl, ⟨.inl rfl, ⟨.inl rfl, trivial⟩⟩⟩ ⟨fm_, trivial⟩ ?_
  conv => whnf
  revert H; refine bind_elim (fun t1515 A H => ?_)
  refine call_mk (laws_markText.ac A) (avAL_cons (avA_shut' rfl) (avAL_nil)) (Or.inl rfl) rfl rfl (Nat.le_of_ble_eq_true rfl) ?_
  conv => whnf
  refine Nd.mk nf_ ?_
  conv => whnf
  refine Nd.mk nf_ ?_
  conv => whnf
  refine El.mk (el_of (ys := (x1000.set (x5).toNat (⟨t1514, wrap64 (x1 + 1), (rd_impl_PlantPlace x1000 x5).f2⟩ : S_impl_PlantPlace)).map en_S_impl_PlantPlace) lm_ (rdms en_S_impl_PlantPlace _ _ _ nf_ nf_)) ?_
  conv => whnf
  exact ⟨(k, wrap64 ((wrap64 ((wrap64 (x1 + 1)) + 1)) + 1), wrap64 (x5 + 1), (x1000.set (x5).toNat (⟨t1514, wrap64 (x1 + 1), t1515⟩ : S_impl_PlantPlace))), [], ⟨H, lt_⟩, lt_, (fits_of ⟨.inl ⟨rfl, rfl⟩, ⟨.inl ⟨rfl, rfl⟩, trivial⟩⟩ trivial fi_ ⟨⟨_, rfl⟩, fm_, trivial⟩ rfl)⟩
  conv => whnf
  injection H with H; subst H
  exact ret_gen [some 0] [] ((rtA_eq rfl)) ⟨rfl, trivial⟩ rfl
theorem laws_markPlantValveS.l0_lp {F : (Exit → St → Prop) → St → Prop} {hv : List Tmp} {Q : Exit → St → Prop} {σ : St} {r : Int × (List S_impl_PlantValve)} {k : Nat} {l0 : List S_impl_PlantValve} {x1 : Int} {x5 : Int} {x1000 : List S_impl_PlantValve} (H : laws_markPlantValveS.l0 k l0 x1 x5 x1000 = some r) (rn : List (Option Nat)) (h1 : Fits σ σ [0] [(1, .int .i64 x1), (5, .int .i64 x5)] [(0, .arr 135 4 (x1000.map en_S_impl_PlantValve))] [] rn)
    (h2 : ∀ (k0 : Nat) (x1 : Int) (x5 : Int) (x1000 : List S_impl_PlantValve), k0 < k + 1 → laws_markPlantValveS.l0 k0 l0 x1 x5 x1000 = some r → headN σ hv [0] [(1, .int .i64 x1), (5, .int .i64 x5)] [(0, .arr 135 4 (x1000.map en_S_impl_PlantValve))] [] (F (fun e σ' => match e with | .normal => ∃ (y : Nat × Int × Int × (List S_impl_PlantValve)) (rn : List (Option Nat)), (laws_markPlantValveS.l0 y.1 l0 y.2.1 y.2.2.1 y.2.2.2 = some r ∧ y.1 < k + 1) ∧ y.1 < k0 ∧ Fits σ σ' [0] [(1, .int .i64 y.2.1), (5, .int .i64 y.2.2.1)] [(0, .arr 135 4 (y.2.2.2.map en_S_impl_PlantValve))] [] rn | e => Q e σ'))) : Lp F hv Q σ := by
  unfold Lp
  refine ⟨Nat × Int × Int × (List S_impl_PlantValve), fun x => laws_markPlantValveS.l0 x.1 l0 x.2.1 x.2.2.1 x.2.2.2 = some r ∧ x.1 < k + 1, fun x => x.1, [0], fun x => [(1, .int .i64 x.2.1), (5, .int .i64 x.2.2.1)], fun x => [(0, .arr 135 4 (x.2.2.2.map en_S_impl_PlantValve))], fun x => [], ⟨(k, x1, x5, x1000), rn, ⟨H, Nat.lt_succ_self _⟩, h1⟩, ?_⟩
  rintro ⟨k, x1, x5, x1000⟩ ⟨H, hk⟩
  exact h2 k x1 x5 x1000 hk H
theorem laws_markPlantValveS.ac {k : Nat} {l0 : List S_impl_PlantValve} {a1 : Int} {r : Int × (List S_impl_PlantValve)} (H : laws_markPlantValveS.f k l0 a1 = some r) : ACalls Try.prog G 96 [.arr 135 4 (l0.map en_S_impl_PlantValve)] [.own 0 l0.length, .int .i64 a1] [.arr 135 4 (r.2.map en_S_impl_PlantValve)] (.int .i64 r.1) := by
  refine acalls_of tok hP Try.func96 rfl (by kernel_rfl) [.tmp 4] rfl (by kernel_rfl) (Nat.le_of_ble_eq_true rfl) (.l .n (.l (.l .n (.l .n (.l (.c .n (.l .n (.l .n (.c .n (.l .n (.l .n (.c .n .n))))))) .n))) .n)) rfl ?_
  unfold laws_markPlantValveS.f at H
  conv => whnf
  refine laws_markPlantValveS.l0_lp (l0 := l0) (k := k) H [] (fits_of ⟨.inl ⟨rfl, rfl⟩, ⟨.inl ⟨rfl, rfl⟩, trivial⟩⟩ trivial fi_ ⟨⟨_, rfl⟩, rfl, trivial⟩ rfl) ?_
  intro k x1 x5 x1000 hk H; rcases k with _ | k; exact none_elim H; rw [laws_markPlantValveS.l0] at H; conv => whnf
  refine chk_ H (fun c H => ?_)
  refine br_d H (fun c H => ?_) (fun c H => ?_)
  conv => whnf
  revert H; refine bind_elim (fun t1646 A H => ?_)
  refine call_mk (laws_markText.ac A) (avAL_cons (avA_shut' rfl) (avAL_nil)) (Or.inl rfl) rfl rfl (Nat.le_of_ble_eq_true rfl) ?_
  conv => whnf
  refine nd_ H (fun c H => ?_)
  conv => whnf
  refine Nd.mk nf_ ?_
  conv => whnf
  refine El.mk (rdm_en_S_impl_PlantValve _ _ nf_ nf_) ?_
  conv => whnf
  refine cut_ 105 [(0, .own 0 l0.length), (1, .int .i64 x1), (5, .int .i64 x5)] [(0, .arr 135 4 ((x1000.set (x5).toNat (⟨t1646, (rd_impl_PlantValve x1000 x5).f1, (rd_impl_PlantValve x1000 x5).f2, (rd_impl_PlantValve x1000 x5).f3⟩ : S_impl_PlantValve)).map en_S_impl_PlantValve))] rfl ⟨.inl rfl, ⟨.inl rfl, ⟨.inl rfl, trivial⟩⟩⟩ ⟨fm_, trivial⟩ ?_
  conv => whnf
  revert H; refine bind_elim (fun t1647 A H => ?_)
  refine call_mk (laws_markText.ac A) (avAL_cons (avA_shut' rfl) (avAL_nil)) (Or.inl rfl) rfl rfl (Nat.le_of_ble_eq_true rfl) ?_
  conv => whnf
  refine Nd.mk nf_ ?_
  conv => whnf
  refine Nd.mk nf_ ?_
  conv => whnf
  refine El.mk (el_of (ys := (x1000.set (x5).toNat (⟨t1646, (rd_impl_PlantValve x1000 x5).f1, (rd_impl_PlantValve x1000 x5).f2, (rd_impl_PlantValve x1000 x5).f3⟩ : S_impl_PlantValve)).map en_S_impl_PlantValve) lm_ (rdms en_S_impl_PlantValve _ _ _ nf_ nf_)) ?_
  conv => whnf
  refine cut_ 209 [(0, .own 0 l0.length), (1, .int .i64 (wrap64 ((wrap64 (x1 + 1)) + 1))), (5, .int .i64 x5)] [(0, .arr 135 4 ((x1000.set (x5).toNat (⟨t1646, t1647, (rd_impl_PlantValve x1000 x5).f2, (rd_impl_PlantValve x1000 x5).f3⟩ : S_impl_PlantValve)).map en_S_impl_PlantValve))] rfl ⟨.inl rfl, ⟨.inl rfl, ⟨.inl rfl, trivial⟩⟩⟩ ⟨fm_, trivial⟩ ?_
  conv => whnf
  revert H; refine bind_elim (fun t1648 A H => ?_)
  refine call_mk (laws_markText.ac A) (avAL_cons (avA_shut' rfl) (avAL_nil)) (Or.inl rfl) rfl rfl (Nat.le_of_ble_eq_true rfl) ?_
  conv => whnf
  refine Nd.mk nf_ ?_
  conv => whnf
  refine Nd.mk nf_ ?_
  conv => whnf
  refine El.mk (el_of (ys := (x1000.set (x5).toNat (⟨t1646, t1647, (rd_impl_PlantValve x1000 x5).f2, (rd_impl_PlantValve x1000 x5).f3⟩ : S_impl_PlantValve)).map en_S_impl_PlantValve) lm_ (rdms en_S_impl_PlantValve _ _ _ nf_ nf_)) ?_
  conv => whnf
  revert H; refine bind_elim (fun t1649 A H => ?_)
  refine call_mk (laws_markText.ac A) (avAL_cons (avA_shut' rfl) (avAL_nil)) (Or.inl rfl) rfl rfl (Nat.le_of_ble_eq_true rfl) ?_
  conv => whnf
  refine Nd.mk nf_ ?_
  conv => whnf
  refine Nd.mk nf_ ?_
  conv => whnf
  refine El.mk (el_of (ys := (x1000.set (x5).toNat (⟨t1646, t1647, t1648, (rd_impl_PlantValve x1000 x5).f3⟩ : S_impl_PlantValve)).map en_S_impl_PlantValve) lm_ (rdms en_S_impl_PlantValve _ _ _ nf_ nf_)) ?_
  conv => whnf
  refine cut_ 345 [(0, .own 0 l0.length), (1, .int .i64 (wrap64 ((wrap64 ((wrap64 (x1 + 1)) + 1)) + 1))), (5, .int .i64 x5)] [(0, .arr 135 4 ((x1000.set (x5).toNat (⟨t1646, t1647, t1648, t1649⟩ : S_impl_PlantValve)).map en_S_impl_PlantValve))] rfl ⟨.inl rfl, ⟨.inl rfl, ⟨.inl rfl, trivial⟩⟩⟩ ⟨fm_, trivial⟩ ?_
  conv => whnf
  exact ⟨(k, wrap64 ((wrap64 ((wrap64 ((wrap64 (x1 + 1)) + 1)) + 1)) + 1), wrap64 (x5 + 1), (x1000.set (x5).toNat (⟨t1646, t1647, t1648, t1649⟩ : S_impl_PlantValve))), [], ⟨H, lt_⟩, lt_, (fits_of ⟨.inl ⟨rfl, rfl⟩, ⟨.inl ⟨rfl, rfl⟩, trivial⟩⟩ trivial fi_ ⟨⟨_, rfl⟩, rfl, trivial⟩ rfl)⟩
  conv => whnf
  injection H with H; subst H
  exact ret_gen [some 0] [] ((rtA_eq rfl)) ⟨rfl, trivial⟩ rfl
theorem laws_markPlant.ac {k : Nat} {a0_0 : List ByteArray} {a0_1 : List S_impl_PlantFoe} {a0_2 : List S_impl_PlantPlace} {a0_3 : List S_impl_PlantValve} {a1 : Int} {r : Int × (List ByteArray) × (List S_impl_PlantFoe) × (List S_impl_PlantPlace) × (List S_impl_PlantValve)} (H : laws_markPlant.f k a0_0 a0_1 a0_2 a0_3 a1 = some r) : ACalls Try.prog G 30 [.arr 9 1 (a0_0.map en_str), .arr 168 2 (a0_1.map en_S_impl_PlantFoe), .arr 109 3 (a0_2.map en_S_impl_PlantPlace), .arr 135 4 (a0_3.map en_S_impl_PlantValve)] [.agg [.own 0 a0_0.length, .own 1 a0_1.length, .own 2 a0_2.length, .own 3 a0_3.length], .int .i64 a1] [.arr 9 1 (r.2.1.map en_str), .arr 168 2 (r.2.2.1.map en_S_impl_PlantFoe), .arr 109 3 (r.2.2.2.1.map en_S_impl_PlantPlace), .arr 135 4 (r.2.2.2.2.map en_S_impl_PlantValve)] (.int .i64 r.1) := by
  refine acalls_of tok hP Try.func30 rfl (by kernel_rfl) [.tmp 4] rfl (by kernel_rfl) (Nat.le_of_ble_eq_true rfl) (.l .n (.l .n (.c .n (.l .n (.c .n .n))))) rfl ?_
  unfold laws_markPlant.f at H
  conv => whnf
  revert H; refine bind_elim (fun t1688 A H => ?_)
  refine call_mk2 [0] (laws_markStringS.ac A) ⟨rfl, trivial⟩ rfl rfl rfl rfl rfl rfl rfl rfl ?_
  conv => whnf
  revert H; refine bind_elim (fun t1690 A H => ?_)
  refine call_mk2 [1] (laws_markPlantFoeS.ac A) ⟨rfl, trivial⟩ rfl rfl rfl rfl rfl rfl rfl rfl ?_
  conv => whnf
  refine cut_ 100 [(1, .int .i64 t1690.1), (2, .bp 4 0)] [(0, .arr 9 1 (t1688.2.map en_str)), (1, .arr 168 2 (t1690.2.map en_S_impl_PlantFoe)), (2, .arr 109 3 (a0_2.map en_S_impl_PlantPlace)), (3, .arr 135 4 (a0_3.map en_S_impl_PlantValve)), (4, .box [.own 0 a0_0.length, .own 1 a0_1.length, .own 2 a0_2.length, .own 3 a0_3.length])] rfl ⟨.inl rfl, ⟨.inl rfl, trivial⟩⟩ ⟨rfl, ⟨rfl, ⟨rfl, ⟨rfl, ⟨rfl, trivial⟩⟩⟩⟩⟩ ?_
  conv => whnf
  revert H; refine bind_elim (fun t1692 A H => ?_)
  refine call_mk2 [2] (laws_markPlantPlaceS.ac A) ⟨rfl, trivial⟩ rfl rfl rfl rfl rfl rfl rfl rfl ?_
  conv => whnf
  revert H; refine bind_elim (fun t1694 A H => ?_)
  refine call_mk2 [3] (laws_markPlantValveS.ac A) ⟨rfl, trivial⟩ rfl rfl rfl rfl rfl rfl rfl rfl ?_
  conv => whnf
  refine cut_ 180 [(1, .int .i64 t1694.1)] [(0, .arr 9 1 (t1688.2.map en_str)), (1, .arr 168 2 (t1690.2.map en_S_impl_PlantFoe)), (2, .arr 109 3 (t1692.2.map en_S_impl_PlantPlace)), (3, .arr 135 4 (t1694.2.map en_S_impl_PlantValve))] rfl ⟨.inl rfl, trivial⟩ ⟨rfl, ⟨rfl, ⟨rfl, ⟨rfl, trivial⟩⟩⟩⟩ ?_
  conv => whnf
  injection H with H; subst H
  exact ret_gen [some 0, some 1, some 2, some 3] [] ((rtA_eq rfl)) ⟨rfl, ⟨rfl, ⟨rfl, ⟨rfl, trivial⟩⟩⟩⟩ rfl
theorem laws_markPlantSetS.l0_lp {F : (Exit → St → Prop) → St → Prop} {hv : List Tmp} {Q : Exit → St → Prop} {σ : St} {r : Int × (List S_impl_PlantSet)} {k : Nat} {l0 : List S_impl_PlantSet} {x1 : Int} {x5 : Int} {x1000 : List S_impl_PlantSet} (H : laws_markPlantSetS.l0 k l0 x1 x5 x1000 = some r) (rn : List (Option Nat)) (h1 : Fits σ σ [0] [(1, .int .i64 x1), (5, .int .i64 x5)] [(0, .deep 107 1 [9] (x1000.map en_S_impl_PlantSet))] [] rn)
    (h2 : ∀ (k0 : Nat) (x1 : Int) (x5 : Int) (x1000 : List S_impl_PlantSet), k0 < k + 1 → laws_markPlantSetS.l0 k0 l0 x1 x5 x1000 = some r → headN σ hv [0] [(1, .int .i64 x1), (5, .int .i64 x5)] [(0, .deep 107 1 [9] (x1000.map en_S_impl_PlantSet))] [] (F (fun e σ' => match e with | .normal => ∃ (y : Nat × Int × Int × (List S_impl_PlantSet)) (rn : List (Option Nat)), (laws_markPlantSetS.l0 y.1 l0 y.2.1 y.2.2.1 y.2.2.2 = some r ∧ y.1 < k + 1) ∧ y.1 < k0 ∧ Fits σ σ' [0] [(1, .int .i64 y.2.1), (5, .int .i64 y.2.2.1)] [(0, .deep 107 1 [9] (y.2.2.2.map en_S_impl_PlantSet))] [] rn | e => Q e σ'))) : Lp F hv Q σ := by
  unfold Lp
  refine ⟨Nat × Int × Int × (List S_impl_PlantSet), fun x => laws_markPlantSetS.l0 x.1 l0 x.2.1 x.2.2.1 x.2.2.2 = some r ∧ x.1 < k + 1, fun x => x.1, [0], fun x => [(1, .int .i64 x.2.1), (5, .int .i64 x.2.2.1)], fun x => [(0, .deep 107 1 [9] (x.2.2.2.map en_S_impl_PlantSet))], fun x => [], ⟨(k, x1, x5, x1000), rn, ⟨H, Nat.lt_succ_self _⟩, h1⟩, ?_⟩
  rintro ⟨k, x1, x5, x1000⟩ ⟨H, hk⟩
  exact h2 k x1 x5 x1000 hk H
theorem laws_markPlantSetS.ac {k : Nat} {l0 : List S_impl_PlantSet} {a1 : Int} {r : Int × (List S_impl_PlantSet)} (H : laws_markPlantSetS.f k l0 a1 = some r) : ACalls Try.prog G 34 [.deep 107 1 [9] (l0.map en_S_impl_PlantSet)] [.own 0 l0.length, .int .i64 a1] [.deep 107 1 [9] (r.2.map en_S_impl_PlantSet)] (.int .i64 r.1) := by
  refine acalls_of tok hP Try.func34 rfl (by kernel_rfl) [.tmp 4] rfl (by kernel_rfl) (Nat.le_of_ble_eq_true rfl) (.l .n (.l (.l .n (.l .n (.c .n .n))) .n)) rfl ?_
  unfold laws_markPlantSetS.f at H
  conv => whnf
  refine laws_markPlantSetS.l0_lp (l0 := l0) (k := k) H [] (fits_of ⟨.inl ⟨rfl, rfl⟩, ⟨.inl ⟨rfl, rfl⟩, trivial⟩⟩ trivial fi_ ⟨⟨_, rfl⟩, rfl, trivial⟩ rfl) ?_
  intro k x1 x5 x1000 hk H; rcases k with _ | k; exact none_elim H; rw [laws_markPlantSetS.l0] at H; conv => whnf
  refine chk_ H (fun c H => ?_)
  refine br_d H (fun c H => ?_) (fun c H => ?_)
  conv => whnf
  refine nd_ H (fun c H => ?_)
  conv => whnf
  refine Nd.mk nf_ ?_
  conv => whnf
  refine El.mk (rdm_en_S_impl_PlantSet _ _ nf_ nf_) ?_
  conv => whnf
  revert H; refine bind_elim (fun t2202 A H => ?_)
  refine call_mk3 t2202.2.length (laws_markStringS.ac A) rfl (rdm_en_S_impl_PlantSet _ _ nf_ nf_) rfl rfl rfl rfl rfl rfl lm_ (bo_arr bare_en_str) rfl ?_
  conv => whnf
  refine cut_ 113 [(0, .own 0 l0.length), (1, .int .i64 t2202.1), (5, .int .i64 x5)] [(0, .deep 107 1 [9] ((x1000.set (x5).toNat (⟨t2202.2⟩ : S_impl_PlantSet)).map en_S_impl_PlantSet))] rfl ⟨.inl rfl, ⟨.inl rfl, ⟨.inl rfl, trivial⟩⟩⟩ ⟨fm_, trivial⟩ ?_
  conv => whnf
  exact ⟨(k, t2202.1, wrap64 (x5 + 1), (x1000.set (x5).toNat (⟨t2202.2⟩ : S_impl_PlantSet))), [], ⟨H, lt_⟩, lt_, (fits_of ⟨.inl ⟨rfl, rfl⟩, ⟨.inl ⟨rfl, rfl⟩, trivial⟩⟩ trivial fi_ ⟨⟨_, rfl⟩, rfl, trivial⟩ rfl)⟩
  conv => whnf
  injection H with H; subst H
  exact ret_gen [some 0] [] ((rtA_eq rfl)) ⟨rfl, trivial⟩ rfl
theorem laws_heldStringS.l0_lp {F : (Exit → St → Prop) → St → Prop} {hv : List Tmp} {Q : Exit → St → Prop} {σ : St} {r : Int} {k : Nat} {l0 : List ByteArray} {x1 : Int} {x5 : Int} (H : laws_heldStringS.l0 k l0 x1 x5 = some r) (rn : List (Option Nat)) (h1 : Fits σ σ [] [(1, .int .i64 x1), (5, .int .i64 x5)] [] [] rn)
    (h2 : ∀ (k0 : Nat) (x1 : Int) (x5 : Int), k0 < k + 1 → laws_heldStringS.l0 k0 l0 x1 x5 = some r → headN σ hv [] [(1, .int .i64 x1), (5, .int .i64 x5)] [] [] (F (fun e σ' => match e with | .normal => ∃ (y : Nat × Int × Int) (rn : List (Option Nat)), (laws_heldStringS.l0 y.1 l0 y.2.1 y.2.2 = some r ∧ y.1 < k + 1) ∧ y.1 < k0 ∧ Fits σ σ' [] [(1, .int .i64 y.2.1), (5, .int .i64 y.2.2)] [] [] rn | e => Q e σ'))) : Lp F hv Q σ := by
  unfold Lp
  refine ⟨Nat × Int × Int, fun x => laws_heldStringS.l0 x.1 l0 x.2.1 x.2.2 = some r ∧ x.1 < k + 1, fun x => x.1, [], fun x => [(1, .int .i64 x.2.1), (5, .int .i64 x.2.2)], fun x => [], fun x => [], ⟨(k, x1, x5), rn, ⟨H, Nat.lt_succ_self _⟩, h1⟩, ?_⟩
  rintro ⟨k, x1, x5⟩ ⟨H, hk⟩
  exact h2 k x1 x5 hk H
theorem laws_heldStringS.ac {k : Nat} {l0 : List ByteArray} {a1 : Int} {r : Int} (H : laws_heldStringS.f k l0 a1 = some r) : ACalls Try.prog G 22 [] [(sv_str l0), .int .i64 a1] [] (.int .i64 r) := by
  refine acalls_of tok hP Try.func22 rfl (by kernel_rfl) [.tmp 4] rfl (by kernel_rfl) (Nat.le_of_ble_eq_true rfl) (.l .n (.l (.l .n (.l .n (.l (.l (.c .n .n) .n) .n))) .n)) rfl ?_
  unfold laws_heldStringS.f at H
  conv => whnf
  refine laws_heldStringS.l0_lp (l0 := l0) (k := k) H [] (fits_of ⟨.inl ⟨rfl, rfl⟩, ⟨.inl ⟨rfl, rfl⟩, trivial⟩⟩ trivial fi_ trivial rfl) ?_
  intro k x1 x5 hk H; rcases k with _ | k; exact none_elim H; rw [laws_heldStringS.l0] at H; conv => whnf
  refine br_d H (fun c H => ?_) (fun c H => ?_)
  conv => whnf
  refine nd_ H (fun c H => ?_)
  conv => whnf
  refine Nd.mk nf_ ?_
  conv => whnf
  refine El.mk (rdm_en_str _ _ nf_ nf_) ?_
  conv => whnf
  revert H; refine bind_elim (fun t2287 A H => ?_)
  refine call_mk (laws_markText.ac A) (avAL_cons (avA_shut' rfl) (avAL_nil)) (Or.inl rfl) rfl rfl (Nat.le_of_ble_eq_true rfl) ?_
  conv => whnf
  refine cut_ 104 [(0, (sv_str l0)), (1, .int .i64 x1), (5, .int .i64 x5), (18, .bool (!(decide ((rdOf ByteArray.empty l0 x5).toList = t2287.toList))))] [] rfl ⟨.inl rfl, ⟨.inl rfl, ⟨.inl rfl, ⟨.inl rfl, trivial⟩⟩⟩⟩ trivial ?_
  conv => whnf
  refine br_nd H (fun c H => ?_) (fun c H => ?_)
  conv => whnf
  exact ⟨(k, wrap64 (x1 + 1), wrap64 (x5 + 1)), [], ⟨H, lt_⟩, lt_, (fits_of ⟨.inl ⟨rfl, rfl⟩, ⟨.inl ⟨rfl, rfl⟩, trivial⟩⟩ trivial fi_ trivial rfl)⟩
  conv => whnf
  injection H with H; subst H
  exact ret_fz [] (rtA_eq rfl)
  conv => whnf
  injection H with H; subst H
  exact ret_fz [] (rtA_eq rfl)
theorem laws_heldPlantSetS.l0_lp {F : (Exit → St → Prop) → St → Prop} {hv : List Tmp} {Q : Exit → St → Prop} {σ : St} {r : Int} {k : Nat} {l0 : List S_impl_PlantSet} {x1 : Int} {x5 : Int} (H : laws_heldPlantSetS.l0 k l0 x1 x5 = some r) (rn : List (Option Nat)) (h1 : Fits σ σ [] [(1, .int .i64 x1), (5, .int .i64 x5)] [] [] rn)
    (h2 : ∀ (k0 : Nat) (x1 : Int) (x5 : Int), k0 < k + 1 → laws_heldPlantSetS.l0 k0 l0 x1 x5 = some r → headN σ hv [] [(1, .int .i64 x1), (5, .int .i64 x5)] [] [] (F (fun e σ' => match e with | .normal => ∃ (y : Nat × Int × Int) (rn : List (Option Nat)), (laws_heldPlantSetS.l0 y.1 l0 y.2.1 y.2.2 = some r ∧ y.1 < k + 1) ∧ y.1 < k0 ∧ Fits σ σ' [] [(1, .int .i64 y.2.1), (5, .int .i64 y.2.2)] [] [] rn | e => Q e σ'))) : Lp F hv Q σ := by
  unfold Lp
  refine ⟨Nat × Int × Int, fun x => laws_heldPlantSetS.l0 x.1 l0 x.2.1 x.2.2 = some r ∧ x.1 < k + 1, fun x => x.1, [], fun x => [(1, .int .i64 x.2.1), (5, .int .i64 x.2.2)], fun x => [], fun x => [], ⟨(k, x1, x5), rn, ⟨H, Nat.lt_succ_self _⟩, h1⟩, ?_⟩
  rintro ⟨k, x1, x5⟩ ⟨H, hk⟩
  exact h2 k x1 x5 hk H
theorem laws_heldPlantSetS.ac {k : Nat} {l0 : List S_impl_PlantSet} {a1 : Int} {r : Int} (H : laws_heldPlantSetS.f k l0 a1 = some r) : ACalls Try.prog G 35 [] [(sv_S_impl_PlantSet l0), .int .i64 a1] [] (.int .i64 r) := by
  refine acalls_of tok hP Try.func35 rfl (by kernel_rfl) [.tmp 4] rfl (by kernel_rfl) (Nat.le_of_ble_eq_true rfl) (.l .n (.l (.l .n (.l .n (.l (.c .n .n) .n))) .n)) rfl ?_
  unfold laws_heldPlantSetS.f at H
  conv => whnf
  refine laws_heldPlantSetS.l0_lp (l0 := l0) (k := k) H [] (fits_of ⟨.inl ⟨rfl, rfl⟩, ⟨.inl ⟨rfl, rfl⟩, trivial⟩⟩ trivial fi_ trivial rfl) ?_
  intro k x1 x5 hk H; rcases k with _ | k; exact none_elim H; rw [laws_heldPlantSetS.l0] at H; conv => whnf
  refine br_d H (fun c H => ?_) (fun c H => ?_)
  conv => whnf
  refine nd_ H (fun c H => ?_)
  conv => whnf
  refine Nd.mk nf_ ?_
  conv => whnf
  refine El.mk (rdm_en_S_impl_PlantSet _ _ nf_ nf_) ?_
  conv => whnf
  revert H; refine bind_elim (fun t2291 A H => ?_)
  refine call_mk (laws_heldStringS.ac A) (avAL_cons (avA_shut' rfl) (avAL_cons (avA_shut' rfl) (avAL_nil))) (Or.inl rfl) rfl rfl (Nat.le_of_ble_eq_true rfl) ?_
  conv => whnf
  refine cut_ 112 [(0, (sv_S_impl_PlantSet l0)), (1, .int .i64 t2291), (5, .int .i64 x5)] [] rfl ⟨.inl rfl, ⟨.inl rfl, ⟨.inl rfl, trivial⟩⟩⟩ trivial ?_
  conv => whnf
  refine br_d H (fun c H => ?_) (fun c H => ?_)
  conv => whnf
  injection H with H; subst H
  exact ret_fz [] (rtA_eq rfl)
  conv => whnf
  exact ⟨(k, t2291, wrap64 (x5 + 1)), [], ⟨H, lt_⟩, lt_, (fits_of ⟨.inl ⟨rfl, rfl⟩, ⟨.inl ⟨rfl, rfl⟩, trivial⟩⟩ trivial fi_ trivial rfl)⟩
  conv => whnf
  injection H with H; subst H
  exact ret_fz [] (rtA_eq rfl)
theorem laws_FnExactPlantGroups.ac {k : Nat} {a0_0 : List ByteArray} {a0_1 : List S_laws_PlantFoe} {a0_2 : List S_laws_PlantPlace} {a0_3 : List S_laws_PlantValve} {l1 : List ByteArray} {r : Bool} (H : laws_FnExactPlantGroups.f k a0_0 a0_1 a0_2 a0_3 l1 = some r) : ACalls Try.prog G 5 [] [.agg [(sv_str a0_0), (sv_S_laws_PlantFoe a0_1), (sv_S_laws_PlantPlace a0_2), (sv_S_laws_PlantValve a0_3)], (sv_str l1)] [] (.bool r) := by
  refine acalls_of tok hP Try.func5 rfl (by kernel_rfl) [.tmp 4] rfl (by kernel_rfl) (Nat.le_of_ble_eq_true rfl) (.l .n (.l .n (.l .n (.l (.l .n (.l (.c .n .n) .n)) (.c .n (.l .n (.l .n (.c .n (.l .n (.l .n (.l (.c .n .n) (.l .n (.l (.c .n .n) (.l .n (.l .n (.l .n (.l (.c .n (.l (.c .n .n) .n)) (.l .n (.l .n (.l .n (.c .n (.l .n (.l .n (.c .n (.l .n (.l .n (.l .n (.l (.c .n .n) .n)))))))))))))))))))))))))))) rfl ?_
  unfold laws_FnExactPlantGroups.f at H
  conv => whnf
  revert H; refine bind_elim (fun t2293 A H => ?_)
  refine call_mk (laws_szPlant.ac A) (avAL_cons (avA_agg (avL_cons (av_shut' rfl) (avL_cons (av_shut' rfl) (avL_cons (av_shut' rfl) (avL_cons (av_shut' rfl) (avL_nil)))))) (avAL_cons (avA_shut' rfl) (avAL_nil))) (Or.inl rfl) rfl rfl (Nat.le_of_ble_eq_true rfl) ?_
  conv => whnf
  refine br_d H (fun c H => ?_) (fun c H => ?_)
  conv => whnf
  refine cut_ 80 [(4, .bool true)] [] rfl ⟨.inl rfl, trivial⟩ trivial ?_
  conv => whnf
  injection H with H; subst H
  exact ret_fz [] (rtA_eq rfl)
  conv => whnf
  revert H; refine bind_elim (fun t2295 A H => ?_)
  refine call_mk (laws_szStringS.ac A) (avAL_cons (avA_shut' rfl) (avAL_cons (avA_shut' rfl) (avAL_nil))) (Or.inl rfl) rfl rfl (Nat.le_of_ble_eq_true rfl) ?_
  conv => whnf
  refine cut_ 104 [(1, (sv_str l1)), (2, .bp 0 0), (5, .int .i64 t2295)] [(0, .box [(sv_str a0_0), (sv_S_laws_PlantFoe a0_1), (sv_S_laws_PlantPlace a0_2), (sv_S_laws_PlantValve a0_3)])] rfl ⟨.inl rfl, ⟨.inl rfl, ⟨.inl rfl, trivial⟩⟩⟩ ⟨rfl, trivial⟩ ?_
  conv => whnf
  refine br_d H (fun c H => ?_) (fun c H => ?_)
  conv => whnf
  injection H with H; subst H
  exact ret_fz [] (rtA_eq rfl)
  conv => whnf
  revert H; refine bind_elim (fun t2299 A H => ?_)
  refine call_mk (laws_toPlant.ac A) (avAL_cons (avA_agg (avL_cons (av_shut' rfl) (avL_cons (av_shut' rfl) (avL_cons (av_shut' rfl) (avL_cons (av_shut' rfl) (avL_nil)))))) (avAL_nil)) (Or.inl rfl) rfl rfl (Nat.le_of_ble_eq_true rfl) ?_
  conv => whnf
  revert H; refine bind_elim (fun t2300 A H => ?_)
  refine call_mk (laws_toStringS.ac A) (avAL_cons (avA_shut' rfl) (avAL_nil)) (Or.inl rfl) rfl rfl (Nat.le_of_ble_eq_true rfl) ?_
  conv => whnf
  revert H; refine bind_elim (fun t2301 A H => ?_)
  refine call_mk (spec_PlantGroups.ac A) (avAL_cons (avA_agg (avL_cons (av_shut' rfl) (avL_cons (av_shut' rfl) (avL_cons (av_shut' rfl) (avL_cons (av_shut' rfl) (avL_nil)))))) (avAL_cons (avA_shut' rfl) (avAL_nil))) (Or.inl rfl) rfl rfl (Nat.le_of_ble_eq_true rfl) ?_
  conv => whnf
  revert H; refine bind_elim (fun t2303 A H => ?_)
  refine call_mk (laws_toPlant.acO A) (avAL_cons (avA_agg (avL_cons (av_shut' rfl) (avL_cons (av_shut' rfl) (avL_cons (av_shut' rfl) (avL_cons (av_shut' rfl) (avL_nil)))))) (avAL_nil)) (Or.inl rfl) rfl rfl (Nat.le_of_ble_eq_true rfl) ?_
  conv => whnf
  refine cut_ 200 [(1, (sv_str l1)), (2, .bp 0 0), (6, (sv_S_impl_PlantSet t2301)), (7, .bp 184 0)] [(0, .box [(sv_str a0_0), (sv_S_laws_PlantFoe a0_1), (sv_S_laws_PlantPlace a0_2), (sv_S_laws_PlantValve a0_3)]), (176, .arr 9 1 (t2303.1.map en_str)), (177, .arr 168 2 (t2303.2.1.map en_S_impl_PlantFoe)), (178, .arr 109 3 (t2303.2.2.1.map en_S_impl_PlantPlace)), (179, .arr 135 4 (t2303.2.2.2.map en_S_impl_PlantValve)), (184, .box [.own 176 t2303.1.length, .own 177 t2303.2.1.length, .own 178 t2303.2.2.1.length, .own 179 t2303.2.2.2.length])] rfl ⟨.inl rfl, ⟨.inl rfl, ⟨.inl rfl, ⟨.inl rfl, trivial⟩⟩⟩⟩ ⟨rfl, ⟨rfl, ⟨rfl, ⟨rfl, ⟨rfl, ⟨rfl, trivial⟩⟩⟩⟩⟩⟩ ?_
  conv => whnf
  revert H; refine bind_elim (fun t2305 A H => ?_)
  refine call_mk (laws_toStringS.acO A) (avAL_cons (avA_shut' rfl) (avAL_nil)) (Or.inl rfl) rfl rfl (Nat.le_of_ble_eq_true rfl) ?_
  conv => whnf
  revert H; refine bind_elim (fun t2307 A H => ?_)
  refine call_mk (impl_PlantGroups.acO A) (avAL_cons (avA_agg (avL_cons (av_own rfl rfl) (avL_cons (av_own rfl rfl) (avL_cons (av_own rfl rfl) (avL_cons (av_own rfl rfl) (avL_nil)))))) (avAL_cons (avA_own rfl rfl) (avAL_nil))) (Or.inr ⟨rfl, bo_cons (trivial) (bo_nil)⟩) rfl rfl (Nat.le_of_ble_eq_true rfl) ?_
  conv => whnf
  revert H; refine bind_elim (fun t2310 A H => ?_)
  refine call_mk (laws_eqPlantSetS.ac A) (avAL_cons (avA_dp rfl rfl lm_ lm_) (avAL_cons (avA_shut' rfl) (avAL_nil))) (Or.inr ⟨rfl, bo_nil⟩) rfl rfl (Nat.le_of_ble_eq_true rfl) ?_
  conv => whnf
  refine cut_ 288 [(1, (sv_str l1)), (2, .bp 0 0), (6, (sv_S_impl_PlantSet t2301)), (7, .bp 184 0), (8, .own 208 t2305.length), (9, .own 240 t2307.length), (39, .bool (!t2310))] [(0, .box [(sv_str a0_0), (sv_S_laws_PlantFoe a0_1), (sv_S_laws_PlantPlace a0_2), (sv_S_laws_PlantValve a0_3)]), (176, .arr 9 1 (t2303.1.map en_str)), (177, .arr 168 2 (t2303.2.1.map en_S_impl_PlantFoe)), (178, .arr 109 3 (t2303.2.2.1.map en_S_impl_PlantPlace)), (179, .arr 135 4 (t2303.2.2.2.map en_S_impl_PlantValve)), (184, .box [.own 176 t2303.1.length, .own 177 t2303.2.1.length, .own 178 t2303.2.2.1.length, .own 179 t2303.2.2.2.length]), (208, .arr 9 1 (t2305.map en_str)), (240, .deep 107 1 [9] (t2307.map en_S_impl_PlantSet))] rfl ⟨.inl rfl, ⟨.inl rfl, ⟨.inl rfl, ⟨.inl rfl, ⟨.inl rfl, ⟨.inl rfl, ⟨.inl rfl, trivial⟩⟩⟩⟩⟩⟩⟩ ⟨rfl, ⟨rfl, ⟨rfl, ⟨rfl, ⟨rfl, ⟨rfl, ⟨rfl, ⟨rfl, trivial⟩⟩⟩⟩⟩⟩⟩⟩ ?_
  conv => whnf
  refine br_nt H (fun c H => ?_) (fun c H => ?_)
  conv => whnf
  revert H; refine bind_elim (fun t2315 A H => ?_)
  refine call_mk (laws_toPlant.ac A) (avAL_cons (avA_agg (avL_cons (av_shut' rfl) (avL_cons (av_shut' rfl) (avL_cons (av_shut' rfl) (avL_cons (av_shut' rfl) (avL_nil)))))) (avAL_nil)) (Or.inl rfl) rfl rfl (Nat.le_of_ble_eq_true rfl) ?_
  conv => whnf
  revert H; refine bind_elim (fun t2316 A H => ?_)
  refine call_mk (laws_eqPlant.ac A) (avAL_cons (avA_agg (avL_cons (av_own rfl rfl) (avL_cons (av_own rfl rfl) (avL_cons (av_own rfl rfl) (avL_cons (av_own rfl rfl) (avL_nil)))))) (avAL_cons (avA_agg (avL_cons (av_shut' rfl) (avL_cons (av_shut' rfl) (avL_cons (av_shut' rfl) (avL_cons (av_shut' rfl) (avL_nil)))))) (avAL_nil))) (Or.inr ⟨rfl, bo_nil⟩) rfl rfl (Nat.le_of_ble_eq_true rfl) ?_
  conv => whnf
  refine br_nt H (fun c H => ?_) (fun c H => ?_)
  conv => whnf
  revert H; refine bind_elim (fun t2321 A H => ?_)
  refine call_mk (laws_toStringS.ac A) (avAL_cons (avA_shut' rfl) (avAL_nil)) (Or.inl rfl) rfl rfl (Nat.le_of_ble_eq_true rfl) ?_
  conv => whnf
  revert H; refine bind_elim (fun t2322 A H => ?_)
  refine call_mk (laws_eqStringS.ac A) (avAL_cons (avA_own rfl rfl) (avAL_cons (avA_shut' rfl) (avAL_nil))) (Or.inr ⟨rfl, bo_nil⟩) rfl rfl (Nat.le_of_ble_eq_true rfl) ?_
  conv => whnf
  refine cut_ 368 [(1, (sv_str l1)), (2, .bp 0 0), (6, (sv_S_impl_PlantSet t2301)), (7, .bp 184 0), (8, .own 208 t2305.length), (9, .own 240 t2307.length), (49, .bool (!t2322))] [(0, .box [(sv_str a0_0), (sv_S_laws_PlantFoe a0_1), (sv_S_laws_PlantPlace a0_2), (sv_S_laws_PlantValve a0_3)]), (176, .arr 9 1 (t2303.1.map en_str)), (177, .arr 168 2 (t2303.2.1.map en_S_impl_PlantFoe)), (178, .arr 109 3 (t2303.2.2.1.map en_S_impl_PlantPlace)), (179, .arr 135 4 (t2303.2.2.2.map en_S_impl_PlantValve)), (184, .box [.own 176 t2303.1.length, .own 177 t2303.2.1.length, .own 178 t2303.2.2.1.length, .own 179 t2303.2.2.2.length]), (208, .arr 9 1 (t2305.map en_str)), (240, .deep 107 1 [9] (t2307.map en_S_impl_PlantSet))] rfl ⟨.inl rfl, ⟨.inl rfl, ⟨.inl rfl, ⟨.inl rfl, ⟨.inl rfl, ⟨.inl rfl, ⟨.inl rfl, trivial⟩⟩⟩⟩⟩⟩⟩ ⟨rfl, ⟨rfl, ⟨rfl, ⟨rfl, ⟨rfl, ⟨rfl, ⟨rfl, ⟨rfl, trivial⟩⟩⟩⟩⟩⟩⟩⟩ ?_
  conv => whnf
  refine br_nt H (fun c H => ?_) (fun c H => ?_)
  conv => whnf
  revert H; refine bind_elim (fun t2324 A H => ?_)
  refine call_mk2 [176, 177, 178, 179] (laws_markPlant.ac A) ⟨rfl, ⟨rfl, ⟨rfl, ⟨rfl, trivial⟩⟩⟩⟩ rfl rfl rfl rfl rfl rfl rfl rfl ?_
  conv => whnf
  revert H; refine bind_elim (fun t2326 A H => ?_)
  refine call_mk2 [208] (laws_markStringS.ac A) ⟨rfl, trivial⟩ rfl rfl rfl rfl rfl rfl rfl rfl ?_
  conv => whnf
  refine br_d H (fun c H => ?_) (fun c H => ?_)
  conv => whnf
  refine Br.t ft_ ?_
  conv => whnf
  refine Br.t ft_ ?_
  conv => whnf
  refine Br.t ft_ ?_
  conv => whnf
  refine Br.t ft_ ?_
  conv => whnf
  refine cut_ 504 [(1, (sv_str l1)), (2, .bp 0 0), (6, (sv_S_impl_PlantSet t2301)), (9, .own 240 t2307.length), (63, .bool true)] [(0, .box [(sv_str a0_0), (sv_S_laws_PlantFoe a0_1), (sv_S_laws_PlantPlace a0_2), (sv_S_laws_PlantValve a0_3)]), (240, .deep 107 1 [9] (t2307.map en_S_impl_PlantSet))] rfl ⟨.inl rfl, ⟨.inl rfl, ⟨.inl rfl, ⟨.inl rfl, ⟨.inl rfl, trivial⟩⟩⟩⟩⟩ ⟨rfl, ⟨rfl, trivial⟩⟩ ?_
  conv => whnf
  refine Br.t rfl ?_
  conv => whnf
  refine cut_ 512 [(4, .bool false)] [] rfl ⟨.inl rfl, trivial⟩ trivial ?_
  conv => whnf
  injection H with H; subst H
  exact ret_fz [] (rtA_eq rfl)
  conv => whnf
  refine Br.f ff_ ?_
  conv => whnf
  refine Br.f ff_ ?_
  conv => whnf
  revert H; refine bind_elim (fun t2329 A H => ?_)
  refine call_mk (laws_eqPlantSetS.ac A) (avAL_cons (avA_dp rfl rfl lm_ lm_) (avAL_cons (avA_shut' rfl) (avAL_nil))) (Or.inr ⟨rfl, bo_nil⟩) rfl rfl (Nat.le_of_ble_eq_true rfl) ?_
  conv => whnf
  refine Br.f ff_ ?_
  conv => whnf
  refine Br.f ff_ ?_
  conv => whnf
  refine cut_ 504 [(1, (sv_str l1)), (2, .bp 0 0), (6, (sv_S_impl_PlantSet t2301)), (9, .own 240 t2307.length), (63, .bool (!t2329))] [(0, .box [(sv_str a0_0), (sv_S_laws_PlantFoe a0_1), (sv_S_laws_PlantPlace a0_2), (sv_S_laws_PlantValve a0_3)]), (240, .deep 107 1 [9] (t2307.map en_S_impl_PlantSet))] rfl ⟨.inl rfl, ⟨.inl rfl, ⟨.inl rfl, ⟨.inl rfl, ⟨.inl rfl, trivial⟩⟩⟩⟩⟩ ⟨rfl, ⟨rfl, trivial⟩⟩ ?_
  conv => whnf
  refine br_nt H (fun c H => ?_) (fun c H => ?_)
  conv => whnf
  revert H; refine bind_elim (fun t2331 A H => ?_)
  refine call_mk2 [240] (laws_markPlantSetS.ac A) ⟨rfl, trivial⟩ rfl rfl rfl rfl rfl rfl rfl rfl ?_
  conv => whnf
  revert H; refine bind_elim (fun t2333 A H => ?_)
  refine call_mk (laws_heldPlantSetS.ac A) (avAL_cons (avA_dp rfl rfl lm_ lm_) (avAL_cons (avA_shut' rfl) (avAL_nil))) (Or.inr ⟨rfl, bo_nil⟩) rfl rfl (Nat.le_of_ble_eq_true rfl) ?_
  conv => whnf
  refine cut_ 584 [(1, (sv_str l1)), (2, .bp 0 0), (6, (sv_S_impl_PlantSet t2301)), (9, .own 240 t2307.length), (11, .int .i64 t2331.1), (12, .int .i64 t2333)] [(0, .box [(sv_str a0_0), (sv_S_laws_PlantFoe a0_1), (sv_S_laws_PlantPlace a0_2), (sv_S_laws_PlantValve a0_3)]), (240, .deep 107 1 [9] (t2331.2.map en_S_impl_PlantSet))] rfl ⟨.inl rfl, ⟨.inl rfl, ⟨.inl rfl, ⟨.inl rfl, ⟨.inl rfl, ⟨.inl rfl, trivial⟩⟩⟩⟩⟩⟩ ⟨rfl, ⟨rfl, trivial⟩⟩ ?_
  conv => whnf
  refine br_d H (fun c H => ?_) (fun c H => ?_)
  conv => whnf
  injection H with H; subst H
  exact ret_fz [] (rtA_eq rfl)
  conv => whnf
  refine br_nd H (fun c H => ?_) (fun c H => ?_)
  conv => whnf
  revert H; refine bind_elim (fun t2337 A H => ?_)
  refine call_mk (laws_toPlant.ac A) (avAL_cons (avA_agg (avL_cons (av_shut' rfl) (avL_cons (av_shut' rfl) (avL_cons (av_shut' rfl) (avL_cons (av_shut' rfl) (avL_nil)))))) (avAL_nil)) (Or.inl rfl) rfl rfl (Nat.le_of_ble_eq_true rfl) ?_
  conv => whnf
  revert H; refine bind_elim (fun t2338 A H => ?_)
  refine call_mk (laws_toStringS.ac A) (avAL_cons (avA_shut' rfl) (avAL_nil)) (Or.inl rfl) rfl rfl (Nat.le_of_ble_eq_true rfl) ?_
  conv => whnf
  revert H; refine bind_elim (fun t2339 A H => ?_)
  refine call_mk (impl_PlantGroups.ac A) (avAL_cons (avA_agg (avL_cons (av_shut' rfl) (avL_cons (av_shut' rfl) (avL_cons (av_shut' rfl) (avL_cons (av_shut' rfl) (avL_nil)))))) (avAL_cons (avA_shut' rfl) (avAL_nil))) (Or.inl rfl) rfl rfl (Nat.le_of_ble_eq_true rfl) ?_
  conv => whnf
  refine cut_ 672 [(6, (sv_S_impl_PlantSet t2301)), (9, .own 240 t2307.length), (11, .int .i64 t2331.1), (13, (sv_S_impl_PlantSet t2339))] [(240, .deep 107 1 [9] (t2331.2.map en_S_impl_PlantSet))] rfl ⟨.inl rfl, ⟨.inl rfl, ⟨.inl rfl, ⟨.inl rfl, trivial⟩⟩⟩⟩ ⟨rfl, trivial⟩ ?_
  conv => whnf
  revert H; refine bind_elim (fun t2342 A H => ?_)
  refine call_mk (laws_eqPlantSetS.ac A) (avAL_cons (avA_shut' rfl) (avAL_cons (avA_shut' rfl) (avAL_nil))) (Or.inl rfl) rfl rfl (Nat.le_of_ble_eq_true rfl) ?_
  conv => whnf
  refine br_nt H (fun c H => ?_) (fun c H => ?_)
  conv => whnf
  revert H; refine bind_elim (fun t2344 A H => ?_)
  refine call_mk (laws_heldPlantSetS.ac A) (avAL_cons (avA_dp rfl rfl lm_ lm_) (avAL_cons (avA_shut' rfl) (avAL_nil))) (Or.inr ⟨rfl, bo_nil⟩) rfl rfl (Nat.le_of_ble_eq_true rfl) ?_
  conv => whnf
  refine cut_ 760 [(11, .int .i64 t2331.1), (12, .int .i64 t2344), (88, .bool (decide (t2344 < 0)))] [] rfl ⟨.inl rfl, ⟨.inl rfl, ⟨.inl rfl, trivial⟩⟩⟩ trivial ?_
  conv => whnf
  refine br_d H (fun c H => ?_) (fun c H => ?_)
  conv => whnf
  injection H with H; subst H
  exact ret_fz [] (rtA_eq rfl)
  conv => whnf
  refine br_nd H (fun c H => ?_) (fun c H => ?_)
  conv => whnf
  injection H with H; subst H
  exact ret_fz [] (rtA_eq rfl)
  conv => whnf
  injection H with H; subst H
  exact ret_fz [] (rtA_eq rfl)
  conv => whnf
  injection H with H; subst H
  exact ret_fz [] (rtA_eq rfl)
  conv => whnf
  injection H with H; subst H
  exact ret_fz [] (rtA_eq rfl)
  conv => whnf
  refine cut_ 512 [(4, .bool false)] [] rfl ⟨.inl rfl, trivial⟩ trivial ?_
  conv => whnf
  injection H with H; subst H
  exact ret_fz [] (rtA_eq rfl)
  conv => whnf
  injection H with H; subst H
  exact ret_fz [] (rtA_eq rfl)
  conv => whnf
  injection H with H; subst H
  exact ret_fz [] (rtA_eq rfl)
  conv => whnf
  injection H with H; subst H
  exact ret_fz [] (rtA_eq rfl)

end Go.Proofs.Ytodeegjblililaa.PS

