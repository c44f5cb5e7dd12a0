import Derived.Test.YtamkmmkchdnkmaaZFnExactCtlWordOk1
import Derived.Shelf.Lay
import Derived.Shelf.Sort.AssemblyIn
import Derived.Ground.SoProg
import Derived.Test.YtamkmmkchdnkmaaProg
import Derived.KernelRfl
set_option linter.unusedVariables false
set_option linter.unusedSimpArgs false
namespace Go.Proofs.Ytamkmmkchdnkmaa.CW
open Go Go.Aw Go.RowKit Go.Proofs
set_option maxRecDepth 100000
set_option maxHeartbeats 40000000
variable {G : Nat → Option Obj}
attribute [local irreducible] callE Lp Sq Cut RetOk Fits
theorem impl_PlantValid.ac {k : Nat} {a0_0 : List ByteArray} {a0_1 : List S_impl_PlantFoe} {a0_2 : List S_impl_PlantPlace} {a0_3 : List S_impl_PlantValve} {r : Bool} (H : impl_PlantValid.f k a0_0 a0_1 a0_2 a0_3 = some r) : ACalls Try.prog G 123 [] [.agg [(sv_str a0_0), (sv_S_impl_PlantFoe a0_1), (sv_S_impl_PlantPlace a0_2), (sv_S_impl_PlantValve a0_3)]] [] (.bool r) := by
  refine acalls_of tok hP Try.func123 rfl (by kernel_rfl) [.tmp 2] rfl (by kernel_rfl) (Nat.le_of_ble_eq_true rfl) (.l .n (.l (.c .n (.l (.c .n .n) .n)) (.l (.l .n (.l .n (.l .n (.l (.l .n (.c .n (.l (.c .n .n) .n))) .n)))) (.l (.l .n (.c .n (.l .n (.l (.l .n (.c .n (.l (.c .n .n) .n))) .n)))) (.l (.l .n (.l .n (.l .n (.l (.c .n (.l .n (.c .n (.j .n (.l (.c .n .n) .n))))) .n)))) .n))))) rfl ?_
  unfold impl_PlantValid.f at H
  conv => whnf
  refine br_d H (fun c H => ?_) (fun c H => ?_)
  conv => whnf
  refine Br.t ft_ ?_
  conv => whnf
  refine Br.t ft_ ?_
  conv => whnf
  refine Br.t ft_ ?_
  conv => whnf
  refine Br.t ft_ ?_
  conv => whnf
  refine Br.t rfl ?_
  conv => whnf
  refine Br.t rfl ?_
  conv => whnf
  refine Br.t rfl ?_
  conv => whnf
  refine Br.t rfl ?_
  conv => whnf
  refine Br.t rfl ?_
  conv => whnf
  refine Br.t rfl ?_
  conv => whnf
  refine Br.t rfl ?_
  conv => whnf
  refine Br.t rfl ?_
  conv => whnf
  refine Br.t rfl ?_
  conv => whnf
  refine Br.t rfl ?_
  conv => whnf
  refine Br.t rfl ?_
  conv => whnf
  refine Br.t rfl ?_
  conv => whnf
  refine Br.t rfl ?_
  conv => whnf
  refine Br.t rfl ?_
  conv => whnf
  refine Br.t rfl ?_
  conv => whnf
  refine cut_ 240 [(1, .bp 0 0), (40, .bool true)] [(0, .box [(sv_str a0_0), (sv_S_impl_PlantFoe a0_1), (sv_S_impl_PlantPlace a0_2), (sv_S_impl_PlantValve a0_3)])] rfl ⟨.inl rfl, ⟨.inl rfl, trivial⟩⟩ ⟨rfl, trivial⟩ ?_
  conv => whnf
  refine Br.t rfl ?_
  conv => whnf
  refine cut_ 248 [(2, .bool false)] [] rfl ⟨.inl rfl, trivial⟩ trivial ?_
  conv => whnf
  injection H with H; subst H
  exact ret_fz [] (rtA_eq rfl)
  conv => whnf
  refine Br.f ff_ ?_
  conv => whnf
  refine Br.f ff_ ?_
  conv => whnf
  revert H; refine bind_elim (fun t913 A H => ?_)
  refine call_mk (impl_names.ac A) (avAL_cons (avA_shut' rfl) (avAL_nil)) (Or.inl rfl) rfl rfl (Nat.le_of_ble_eq_true rfl) ?_
  conv => whnf
  refine Br.f ff_ ?_
  conv => whnf
  refine Br.f ff_ ?_
  conv => whnf
  refine br_nt H (fun c H => ?_) (fun c H => ?_)
  conv => whnf
  refine Br.f ff_ ?_
  conv => whnf
  revert H; refine bind_elim (fun t914 A H => ?_)
  refine call_mk (impl_Plant_pairs.ac A) (avAL_cons (avA_agg (avL_cons (av_shut' rfl) (avL_cons (av_shut' rfl) (avL_cons (av_shut' rfl) (avL_cons (av_shut' rfl) (avL_nil)))))) (avAL_nil)) (Or.inl rfl) rfl rfl (Nat.le_of_ble_eq_true rfl) ?_
  conv => whnf
  refine Br.f ff_ ?_
  conv => whnf
  revert H; refine bind_elim (fun t915 A H => ?_)
  refine call_mk (impl_foesOk.ac A) (avAL_cons (avA_shut' rfl) (avAL_cons (avA_shut' rfl) (avAL_nil))) (Or.inl rfl) rfl rfl (Nat.le_of_ble_eq_true rfl) ?_
  conv => whnf
  refine Br.f ff_ ?_
  conv => whnf
  refine Br.f ff_ ?_
  conv => whnf
  refine br_nt H (fun c H => ?_) (fun c H => ?_)
  conv => whnf
  refine Br.f ff_ ?_
  conv => whnf
  refine Br.f ff_ ?_
  conv => whnf
  refine Br.f ff_ ?_
  conv => whnf
  refine Br.f ff_ ?_
  conv => whnf
  refine br_d H (fun c H => ?_) (fun c H => ?_)
  conv => whnf
  refine Br.t ft_ ?_
  conv => whnf
  refine Br.t ft_ ?_
  conv => whnf
  refine Br.t ft_ ?_
  conv => whnf
  refine Br.t ft_ ?_
  conv => whnf
  refine cut_ 240 [(1, .bp 0 0), (40, .bool true)] [(0, .box [(sv_str a0_0), (sv_S_impl_PlantFoe a0_1), (sv_S_impl_PlantPlace a0_2), (sv_S_impl_PlantValve a0_3)])] rfl ⟨.inl rfl, ⟨.inl rfl, trivial⟩⟩ ⟨rfl, trivial⟩ ?_
  conv => whnf
  refine Br.t rfl ?_
  conv => whnf
  refine cut_ 248 [(2, .bool false)] [] rfl ⟨.inl rfl, trivial⟩ trivial ?_
  conv => whnf
  injection H with H; subst H
  exact ret_fz [] (rtA_eq rfl)
  conv => whnf
  refine Br.f ff_ ?_
  conv => whnf
  refine Br.f ff_ ?_
  conv => whnf
  refine Br.f ff_ ?_
  conv => whnf
  refine Br.f ff_ ?_
  conv => whnf
  refine cut_ 240 [(1, .bp 0 0), (40, .bool (decide ((a0_3.length : Int) > 18)))] [(0, .box [(sv_str a0_0), (sv_S_impl_PlantFoe a0_1), (sv_S_impl_PlantPlace a0_2), (sv_S_impl_PlantValve a0_3)])] rfl ⟨.inl rfl, ⟨.inl rfl, trivial⟩⟩ ⟨rfl, trivial⟩ ?_
  conv => whnf
  refine br_d H (fun c H => ?_) (fun c H => ?_)
  conv => whnf
  refine cut_ 248 [(2, .bool false)] [] rfl ⟨.inl rfl, trivial⟩ trivial ?_
  conv => whnf
  injection H with H; subst H
  exact ret_fz [] (rtA_eq rfl)
  conv => whnf
  refine impl_PlantValid.l0_lp (a0_0 := a0_0) (a0_1 := a0_1) (a0_2 := a0_2) (a0_3 := a0_3) (k := k) H [] (fits_of ⟨.inl ⟨rfl, rfl⟩, trivial⟩ trivial fi_ trivial rfl) ?_
  intro k x44 hk H; rcases k with _ | k; exact none_elim H; rw [impl_PlantValid.l0] at H; conv => whnf
  refine br_d H (fun c H => ?_) (fun c H => ?_)
  conv => whnf
  refine nd_ H (fun c H => ?_)
  conv => whnf
  refine Nd.mk nf_ ?_
  conv => whnf
  refine El.mk (rdm_en_S_impl_PlantFoe _ _ nf_ nf_) ?_
  conv => whnf
  revert H; refine bind_elim (fun t922 A H => ?_)
  refine call_mk (impl_has.ac A) (avAL_cons (avA_shut' rfl) (avAL_cons (avA_shut' rfl) (avAL_nil))) (Or.inl rfl) rfl rfl (Nat.le_of_ble_eq_true rfl) ?_
  conv => whnf
  refine br_nt H (fun c H => ?_) (fun c H => ?_)
  conv => whnf
  refine Br.f ff_ ?_
  conv => whnf
  refine Br.f ff_ ?_
  conv => whnf
  refine Br.f ff_ ?_
  conv => whnf
  refine Br.f ff_ ?_
  conv => whnf
  revert H; refine bind_elim (fun t923 A H => ?_)
  refine call_mk (impl_has.ac A) (avAL_cons (avA_shut' rfl) (avAL_cons (avA_shut' rfl) (avAL_nil))) (Or.inl rfl) rfl rfl (Nat.le_of_ble_eq_true rfl) ?_
  conv => whnf
  refine Br.f ff_ ?_
  conv => whnf
  refine Br.f ff_ ?_
  conv => whnf
  refine cut_ 424 [(1, .bp 0 0), (42, (sv_S_impl_PlantFoe a0_1)), (43, .int .i64 (a0_1.length : Int)), (44, .int .i64 x44), (61, .bool (!t923))] [(0, .box [(sv_str a0_0), (sv_S_impl_PlantFoe a0_1), (sv_S_impl_PlantPlace a0_2), (sv_S_impl_PlantValve a0_3)])] rfl ⟨.inl rfl, ⟨.inl rfl, ⟨.inl rfl, ⟨.inl rfl, ⟨.inl rfl, trivial⟩⟩⟩⟩⟩ ⟨rfl, trivial⟩ ?_
  conv => whnf
  refine br_nt H (fun c H => ?_) (fun c H => ?_)
  conv => whnf
  exact ⟨(k, wrap64 (x44 + 1)), [], ⟨H, lt_⟩, lt_, (fits_of ⟨.inl ⟨rfl, rfl⟩, trivial⟩ trivial fi_ trivial rfl)⟩
  conv => whnf
  refine cut_ 432 [(2, .bool false)] [] rfl ⟨.inl rfl, trivial⟩ trivial ?_
  conv => whnf
  injection H with H; subst H
  exact ret_fz [] (rtA_eq rfl)
  conv => whnf
  refine Br.t ft_ ?_
  conv => whnf
  refine Br.t ft_ ?_
  conv => whnf
  refine Br.t ft_ ?_
  conv => whnf
  refine Br.t ft_ ?_
  conv => whnf
  refine Br.t ft_ ?_
  conv => whnf
  refine Br.t ft_ ?_
  conv => whnf
  refine cut_ 424 [(1, .bp 0 0), (42, (sv_S_impl_PlantFoe a0_1)), (43, .int .i64 (a0_1.length : Int)), (44, .int .i64 x44), (61, .bool true)] [(0, .box [(sv_str a0_0), (sv_S_impl_PlantFoe a0_1), (sv_S_impl_PlantPlace a0_2), (sv_S_impl_PlantValve a0_3)])] rfl ⟨.inl rfl, ⟨.inl rfl, ⟨.inl rfl, ⟨.inl rfl, ⟨.inl rfl, trivial⟩⟩⟩⟩⟩ ⟨rfl, trivial⟩ ?_
  conv => whnf
  refine Br.t rfl ?_
  conv => whnf
  refine cut_ 432 [(2, .bool false)] [] rfl ⟨.inl rfl, trivial⟩ trivial ?_
  conv => whnf
  injection H with H; subst H
  exact ret_fz [] (rtA_eq rfl)
  conv => whnf
  refine impl_PlantValid.l1_lp (a0_0 := a0_0) (a0_1 := a0_1) (a0_2 := a0_2) (a0_3 := a0_3) (k := k) H [] (fits_of ⟨.inl ⟨rfl, rfl⟩, trivial⟩ trivial fi_ trivial rfl) ?_
  intro k x66 hk H; rcases k with _ | k; exact none_elim H; rw [impl_PlantValid.l1] at H; conv => whnf
  refine cut_ 320 [(1, .bp 0 0), (64, (sv_S_impl_PlantPlace a0_2)), (65, .int .i64 (a0_2.length : Int)), (66, .int .i64 x66), (67, .bool (decide (x66 < (a0_2.length : Int))))] [(0, .box [(sv_str a0_0), (sv_S_impl_PlantFoe a0_1), (sv_S_impl_PlantPlace a0_2), (sv_S_impl_PlantValve a0_3)])] rfl ⟨.inl rfl, ⟨.inl rfl, ⟨.inl rfl, ⟨.inl rfl, ⟨.inl rfl, trivial⟩⟩⟩⟩⟩ ⟨rfl, trivial⟩ ?_
  conv => whnf
  refine br_d H (fun c H => ?_) (fun c H => ?_)
  conv => whnf
  refine nd_ H (fun c H => ?_)
  conv => whnf
  refine Nd.mk nf_ ?_
  conv => whnf
  refine El.mk (rdm_en_S_impl_PlantPlace _ _ nf_ nf_) ?_
  conv => whnf
  revert H; refine bind_elim (fun t930 A H => ?_)
  refine call_mk (impl_isName.ac A) (avAL_cons (avA_shut' rfl) (avAL_nil)) (Or.inl rfl) rfl rfl (Nat.le_of_ble_eq_true rfl) ?_
  conv => whnf
  refine br_nt H (fun c H => ?_) (fun c H => ?_)
  conv => whnf
  refine Br.f ff_ ?_
  conv => whnf
  refine Br.f ff_ ?_
  conv => whnf
  refine Br.f ff_ ?_
  conv => whnf
  refine br_d H (fun c H => ?_) (fun c H => ?_)
  conv => whnf
  refine Br.t ft_ ?_
  conv => whnf
  refine Br.t ft_ ?_
  conv => whnf
  refine Br.t ft_ ?_
  conv => whnf
  refine Br.t rfl ?_
  conv => whnf
  refine Br.t rfl ?_
  conv => whnf
  refine Br.t rfl ?_
  conv => whnf
  refine Br.t rfl ?_
  conv => whnf
  refine Br.t rfl ?_
  conv => whnf
  refine Br.t rfl ?_
  conv => whnf
  refine Br.t rfl ?_
  conv => whnf
  refine Br.t rfl ?_
  conv => whnf
  refine Br.t rfl ?_
  conv => whnf
  refine Br.t rfl ?_
  conv => whnf
  refine cut_ 656 [(1, .bp 0 0), (64, (sv_S_impl_PlantPlace a0_2)), (65, .int .i64 (a0_2.length : Int)), (66, .int .i64 x66), (106, .bool true)] [(0, .box [(sv_str a0_0), (sv_S_impl_PlantFoe a0_1), (sv_S_impl_PlantPlace a0_2), (sv_S_impl_PlantValve a0_3)])] rfl ⟨.inl rfl, ⟨.inl rfl, ⟨.inl rfl, ⟨.inl rfl, ⟨.inl rfl, trivial⟩⟩⟩⟩⟩ ⟨rfl, trivial⟩ ?_
  conv => whnf
  refine Br.t rfl ?_
  conv => whnf
  refine cut_ 664 [(2, .bool false)] [] rfl ⟨.inl rfl, trivial⟩ trivial ?_
  conv => whnf
  injection H with H; subst H
  exact ret_fz [] (rtA_eq rfl)
  conv => whnf
  refine Br.f ff_ ?_
  conv => whnf
  refine Br.f ff_ ?_
  conv => whnf
  refine Br.f ff_ ?_
  conv => whnf
  refine br_d H (fun c H => ?_) (fun c H => ?_)
  conv => whnf
  refine Br.t ft_ ?_
  conv => whnf
  refine Br.t ft_ ?_
  conv => whnf
  refine Br.t ft_ ?_
  conv => whnf
  refine Br.t ft_ ?_
  conv => whnf
  refine Br.t rfl ?_
  conv => whnf
  refine Br.t rfl ?_
  conv => whnf
  refine Br.t rfl ?_
  conv => whnf
  refine Br.t rfl ?_
  conv => whnf
  refine Br.t rfl ?_
  conv => whnf
  refine cut_ 656 [(1, .bp 0 0), (64, (sv_S_impl_PlantPlace a0_2)), (65, .int .i64 (a0_2.length : Int)), (66, .int .i64 x66), (106, .bool true)] [(0, .box [(sv_str a0_0), (sv_S_impl_PlantFoe a0_1), (sv_S_impl_PlantPlace a0_2), (sv_S_impl_PlantValve a0_3)])] rfl ⟨.inl rfl, ⟨.inl rfl, ⟨.inl rfl, ⟨.inl rfl, ⟨.inl rfl, trivial⟩⟩⟩⟩⟩ ⟨rfl, trivial⟩ ?_
  conv => whnf
  refine Br.t rfl ?_
  conv => whnf
  refine cut_ 664 [(2, .bool false)] [] rfl ⟨.inl rfl, trivial⟩ trivial ?_
  conv => whnf
  injection H with H; subst H
  exact ret_fz [] (rtA_eq rfl)
  conv => whnf
  refine Br.f ff_ ?_
  conv => whnf
  refine Br.f ff_ ?_
  conv => whnf
  revert H; refine bind_elim (fun t931 A H => ?_)
  refine call_mk (impl_isName.ac A) (avAL_cons (avA_shut' rfl) (avAL_nil)) (Or.inl rfl) rfl rfl (Nat.le_of_ble_eq_true rfl) ?_
  conv => whnf
  refine Br.f ff_ ?_
  conv => whnf
  refine Br.f ff_ ?_
  conv => whnf
  refine br_nt H (fun c H => ?_) (fun c H => ?_)
  conv => whnf
  refine Br.f ff_ ?_
  conv => whnf
  refine Br.f ff_ ?_
  conv => whnf
  refine br_d H (fun c H => ?_) (fun c H => ?_)
  conv => whnf
  refine Br.t ft_ ?_
  conv => whnf
  refine Br.t ft_ ?_
  conv => whnf
  refine Br.t ft_ ?_
  conv => whnf
  refine Br.t ft_ ?_
  conv => whnf
  refine nd_ H (fun c H => ?_)
  conv => whnf
  refine nd_ H (fun c H => ?_)
  conv => whnf
  refine El.mk (rdm_en_S_impl_PlantPlace _ _ nf_ nf_) ?_
  conv => whnf
  refine Br.t ft_ ?_
  conv => whnf
  refine Br.t ft_ ?_
  conv => whnf
  refine Br.t ft_ ?_
  conv => whnf
  refine Br.t ft_ ?_
  conv => whnf
  refine Br.t ft_ ?_
  conv => whnf
  refine Br.f ff_ ?_
  conv => whnf
  refine Br.t ft_ ?_
  conv => whnf
  refine Br.f ff_ ?_
  conv => whnf
  refine cut_ 656 [(1, .bp 0 0), (64, (sv_S_impl_PlantPlace a0_2)), (65, .int .i64 (a0_2.length : Int)), (66, .int .i64 x66), (106, .bool (!(Op.bytesLess ((rd_impl_PlantPlace a0_2 (wrap64 (x66 - 1))).f0).toList ((rd_impl_PlantPlace a0_2 x66).f0).toList)))] [(0, .box [(sv_str a0_0), (sv_S_impl_PlantFoe a0_1), (sv_S_impl_PlantPlace a0_2), (sv_S_impl_PlantValve a0_3)])] rfl ⟨.inl rfl, ⟨.inl rfl, ⟨.inl rfl, ⟨.inl rfl, ⟨.inl rfl, trivial⟩⟩⟩⟩⟩ ⟨rfl, trivial⟩ ?_
  conv => whnf
  refine br_nt H (fun c H => ?_) (fun c H => ?_)
  conv => whnf
  exact ⟨(k, wrap64 (x66 + 1)), [], ⟨H, lt_⟩, lt_, (fits_of ⟨.inl ⟨rfl, rfl⟩, trivial⟩ trivial fi_ trivial rfl)⟩
  conv => whnf
  refine cut_ 664 [(2, .bool false)] [] rfl ⟨.inl rfl, trivial⟩ trivial ?_
  conv => whnf
  injection H with H; subst H
  exact ret_fz [] (rtA_eq rfl)
  conv => whnf
  refine Br.f ff_ ?_
  conv => whnf
  refine Br.f ff_ ?_
  conv => whnf
  refine Br.f ff_ ?_
  conv => whnf
  refine Br.f ff_ ?_
  conv => whnf
  refine Br.f ff_ ?_
  conv => whnf
  refine Br.f ff_ ?_
  conv => whnf
  refine Br.f ff_ ?_
  conv => whnf
  refine Br.f ff_ ?_
  conv => whnf
  refine Br.f ff_ ?_
  conv => whnf
  refine Br.f ff_ ?_
  conv => whnf
  refine Br.f ff_ ?_
  conv => whnf
  refine Br.f ff_ ?_
  conv => whnf
  refine cut_ 656 [(1, .bp 0 0), (64, (sv_S_impl_PlantPlace a0_2)), (65, .int .i64 (a0_2.length : Int)), (66, .int .i64 x66), (106, .bool false)] [(0, .box [(sv_str a0_0), (sv_S_impl_PlantFoe a0_1), (sv_S_impl_PlantPlace a0_2), (sv_S_impl_PlantValve a0_3)])] rfl ⟨.inl rfl, ⟨.inl rfl, ⟨.inl rfl, ⟨.inl rfl, ⟨.inl rfl, trivial⟩⟩⟩⟩⟩ ⟨rfl, trivial⟩ ?_
  conv => whnf
  refine Br.f rfl ?_
  conv => whnf
  exact ⟨(k, wrap64 (x66 + 1)), [], ⟨H, lt_⟩, lt_, (fits_of ⟨.inl ⟨rfl, rfl⟩, trivial⟩ trivial fi_ trivial rfl)⟩
  conv => whnf
  refine Br.t ft_ ?_
  conv => whnf
  refine Br.t ft_ ?_
  conv => whnf
  refine Br.t ft_ ?_
  conv => whnf
  refine Br.t ft_ ?_
  conv => whnf
  refine cut_ 656 [(1, .bp 0 0), (64, (sv_S_impl_PlantPlace a0_2)), (65, .int .i64 (a0_2.length : Int)), (66, .int .i64 x66), (106, .bool true)] [(0, .box [(sv_str a0_0), (sv_S_impl_PlantFoe a0_1), (sv_S_impl_PlantPlace a0_2), (sv_S_impl_PlantValve a0_3)])] rfl ⟨.inl rfl, ⟨.inl rfl, ⟨.inl rfl, ⟨.inl rfl, ⟨.inl rfl, trivial⟩⟩⟩⟩⟩ ⟨rfl, trivial⟩ ?_
  conv => whnf
  refine Br.t rfl ?_
  conv => whnf
  refine cut_ 664 [(2, .bool false)] [] rfl ⟨.inl rfl, trivial⟩ trivial ?_
  conv => whnf
  injection H with H; subst H
  exact ret_fz [] (rtA_eq rfl)
  conv => whnf
  refine Br.t ft_ ?_
  conv => whnf
  refine Br.t ft_ ?_
  conv => whnf
  refine Br.t ft_ ?_
  conv => whnf
  refine Br.t rfl ?_
  conv => whnf
  refine Br.t rfl ?_
  conv => whnf
  refine Br.t rfl ?_
  conv => whnf
  refine Br.t rfl ?_
  conv => whnf
  refine Br.t rfl ?_
  conv => whnf
  refine Br.t rfl ?_
  conv => whnf
  refine Br.t rfl ?_
  conv => whnf
  refine Br.t rfl ?_
  conv => whnf
  refine Br.t rfl ?_
  conv => whnf
  refine Br.t rfl ?_
  conv => whnf
  refine Br.t rfl ?_
  conv => whnf
  refine Br.t rfl ?_
  conv => whnf
  refine Br.t rfl ?_
  conv => whnf
  refine Br.t rfl ?_
  conv => whnf
  refine cut_ 656 [(1, .bp 0 0), (64, (sv_S_impl_PlantPlace a0_2)), (65, .int .i64 (a0_2.length : Int)), (66, .int .i64 x66), (106, .bool true)] [(0, .box [(sv_str a0_0), (sv_S_impl_PlantFoe a0_1), (sv_S_impl_PlantPlace a0_2), (sv_S_impl_PlantValve a0_3)])] rfl ⟨.inl rfl, ⟨.inl rfl, ⟨.inl rfl, ⟨.inl rfl, ⟨.inl rfl, trivial⟩⟩⟩⟩⟩ ⟨rfl, trivial⟩ ?_
  conv => whnf
  refine Br.t rfl ?_
  conv => whnf
  refine cut_ 664 [(2, .bool false)] [] rfl ⟨.inl rfl, trivial⟩ trivial ?_
  conv => whnf
  injection H with H; subst H
  exact ret_fz [] (rtA_eq rfl)
  conv => whnf
  refine impl_PlantValid.l2_lp (a0_0 := a0_0) (a0_1 := a0_1) (a0_2 := a0_2) (a0_3 := a0_3) (k := k) H [] (fits_of ⟨.inl ⟨rfl, rfl⟩, trivial⟩ trivial fi_ trivial rfl) ?_
  intro k x111 hk H; rcases k with _ | k; exact none_elim H; rw [impl_PlantValid.l2] at H; conv => whnf
  refine br_d H (fun c H => ?_) (fun c H => ?_)
  conv => whnf
  refine nd_ H (fun c H => ?_)
  conv => whnf
  refine Nd.mk nf_ ?_
  conv => whnf
  refine El.mk (rdm_en_S_impl_PlantValve _ _ nf_ nf_) ?_
  conv => whnf
  refine cut_ 408 [(1, .bp 0 0), (7, .int .i64 x111), (8, .bp 384 0), (109, (sv_S_impl_PlantValve a0_3)), (110, .int .i64 (a0_3.length : Int)), (111, .int .i64 x111)] [(0, .box [(sv_str a0_0), (sv_S_impl_PlantFoe a0_1), (sv_S_impl_PlantPlace a0_2), (sv_S_impl_PlantValve a0_3)]), (384, .box [.str ((rd_impl_PlantValve a0_3 x111).f0), .str ((rd_impl_PlantValve a0_3 x111).f1), .str ((rd_impl_PlantValve a0_3 x111).f2), .str ((rd_impl_PlantValve a0_3 x111).f3)])] rfl ⟨.inl rfl, ⟨.inl rfl, ⟨.inl rfl, ⟨.inl rfl, ⟨.inl rfl, ⟨.inl rfl, trivial⟩⟩⟩⟩⟩⟩ ⟨rfl, ⟨rfl, trivial⟩⟩ ?_
  conv => whnf
  revert H; refine bind_elim (fun t948 A H => ?_)
  refine call_mk (impl_Plant_place.ac A) (avAL_cons (avA_agg (avL_cons (av_shut' rfl) (avL_cons (av_shut' rfl) (avL_cons (av_shut' rfl) (avL_cons (av_shut' rfl) (avL_nil)))))) (avAL_cons (avA_shut' rfl) (avAL_nil))) (Or.inl rfl) rfl rfl (Nat.le_of_ble_eq_true rfl) ?_
  conv => whnf
  revert H; refine bind_elim (fun t949 A H => ?_)
  refine call_mk (impl_Plant_place.ac A) (avAL_cons (avA_agg (avL_cons (av_shut' rfl) (avL_cons (av_shut' rfl) (avL_cons (av_shut' rfl) (avL_cons (av_shut' rfl) (avL_nil)))))) (avAL_cons (avA_shut' rfl) (avAL_nil))) (Or.inl rfl) rfl rfl (Nat.le_of_ble_eq_true rfl) ?_
  conv => whnf
  refine cut_ 568 [(1, .bp 0 0), (7, .int .i64 x111), (8, .bp 384 0), (10, .bool t948.2.2.2), (12, .bool t949.2.2.2), (109, (sv_S_impl_PlantValve a0_3)), (110, .int .i64 (a0_3.length : Int)), (111, .int .i64 x111)] [(0, .box [(sv_str a0_0), (sv_S_impl_PlantFoe a0_1), (sv_S_impl_PlantPlace a0_2), (sv_S_impl_PlantValve a0_3)]), (384, .box [.str ((rd_impl_PlantValve a0_3 x111).f0), .str ((rd_impl_PlantValve a0_3 x111).f1), .str ((rd_impl_PlantValve a0_3 x111).f2), .str ((rd_impl_PlantValve a0_3 x111).f3)])] rfl ⟨.inl rfl, ⟨.inl rfl, ⟨.inl rfl, ⟨.inl rfl, ⟨.inl rfl, ⟨.inl rfl, ⟨.inl rfl, ⟨.inl rfl, trivial⟩⟩⟩⟩⟩⟩⟩⟩ ⟨rfl, ⟨rfl, trivial⟩⟩ ?_
  conv => whnf
  refine impl_PlantValid.j0_sq (a0_0 := a0_0) (a0_1 := a0_1) (a0_2 := a0_2) (a0_3 := a0_3) (x111 := x111) (KK := k + 1) (r := r) ?_ ?_
  conv => whnf
  revert H; refine bind_elim (fun t952 A H => ?_)
  refine call_mk (impl_isName.ac A) (avAL_cons (avA_shut' rfl) (avAL_nil)) (Or.inl rfl) rfl rfl (Nat.le_of_ble_eq_true rfl) ?_
  conv => whnf
  refine br_nt H (fun c H => ?_) (fun c H => ?_)
  conv => whnf
  refine Br.f ff_ ?_
  conv => whnf
  refine Br.f ff_ ?_
  conv => whnf
  refine br_nt H (fun c H => ?_) (fun c H => ?_)
  conv => whnf
  refine Br.f ff_ ?_
  conv => whnf
  refine Br.f ff_ ?_
  conv => whnf
  refine br_nt H (fun c H => ?_) (fun c H => ?_)
  conv => whnf
  refine Br.f ff_ ?_
  conv => whnf
  refine Br.f ff_ ?_
  conv => whnf
  refine Br.f ff_ ?_
  conv => whnf
  refine Br.f ff_ ?_
  conv => whnf
  refine Br.f ff_ ?_
  conv => whnf
  refine br_nt H (fun c H => ?_) (fun c H => ?_)
  conv => whnf
  refine Br.f ff_ ?_
  conv => whnf
  refine Br.f ff_ ?_
  conv => whnf
  revert H; refine bind_elim (fun t953 A H => ?_)
  refine call_mk (impl_isName.ac A) (avAL_cons (avA_shut' rfl) (avAL_nil)) (Or.inl rfl) rfl rfl (Nat.le_of_ble_eq_true rfl) ?_
  conv => whnf
  refine Br.f ff_ ?_
  conv => whnf
  refine Br.f ff_ ?_
  conv => whnf
  refine br_nt H (fun c H => ?_) (fun c H => ?_)
  conv => whnf
  refine Br.f ff_ ?_
  conv => whnf
  refine Br.f ff_ ?_
  conv => whnf
  refine br_d H (fun c H => ?_) (fun c H => ?_)
  conv => whnf
  refine Br.t ft_ ?_
  conv => whnf
  refine Br.t ft_ ?_
  conv => whnf
  refine Br.t ft_ ?_
  conv => whnf
  refine Br.t ft_ ?_
  conv => whnf
  refine nd_ H (fun c H => ?_)
  conv => whnf
  refine nd_ H (fun c H => ?_)
  conv => whnf
  refine El.mk (rdm_en_S_impl_PlantValve _ _ nf_ nf_) ?_
  conv => whnf
  refine Br.t ft_ ?_
  conv => whnf
  refine Br.t ft_ ?_
  conv => whnf
  refine Br.t ft_ ?_
  conv => whnf
  refine Br.t ft_ ?_
  conv => whnf
  refine Br.t ft_ ?_
  conv => whnf
  refine Br.f ff_ ?_
  conv => whnf
  refine Br.t ft_ ?_
  conv => whnf
  refine Br.f ff_ ?_
  conv => whnf
  exact ⟨(k, !(Op.bytesLess ((rd_impl_PlantValve a0_3 (wrap64 (x111 - 1))).f0).toList ((rd_impl_PlantValve a0_3 x111).f0).toList)), [], ⟨H, lt_⟩, (fits_of ⟨.inl ⟨rfl, rfl⟩, trivial⟩ trivial fi_ trivial rfl)⟩
  conv => whnf
  refine Br.f ff_ ?_
  conv => whnf
  refine Br.f ff_ ?_
  conv => whnf
  refine Br.f ff_ ?_
  conv => whnf
  refine Br.f ff_ ?_
  conv => whnf
  refine Br.f ff_ ?_
  conv => whnf
  refine Br.f ff_ ?_
  conv => whnf
  refine Br.f ff_ ?_
  conv => whnf
  refine Br.f ff_ ?_
  conv => whnf
  refine Br.f ff_ ?_
  conv => whnf
  refine Br.f ff_ ?_
  conv => whnf
  refine Br.f ff_ ?_
  conv => whnf
  refine Br.f ff_ ?_
  conv => whnf
  exact ⟨(k, false), [], ⟨H, lt_⟩, (fits_of ⟨.inl ⟨rfl, rfl⟩, trivial⟩ trivial fi_ trivial rfl)⟩
  conv => whnf
  refine Br.t ft_ ?_
  conv => whnf
  refine Br.t ft_ ?_
  conv => whnf
  refine Br.t ft_ ?_
  conv => whnf
  refine Br.t ft_ ?_
  conv => whnf
  exact ⟨(k, true), [], ⟨H, lt_⟩, (fits_of ⟨.inl ⟨rfl, rfl⟩, trivial⟩ trivial fi_ trivial rfl)⟩
  conv => whnf
  refine Br.t ft_ ?_
  conv => whnf
  refine Br.t ft_ ?_
  conv => whnf
  refine Br.t ft_ ?_
  conv => whnf
  refine Br.t ft_ ?_
  conv => whnf
  refine Br.t rfl ?_
  conv => whnf
  refine Br.t rfl ?_
  conv => whnf
  refine Br.t rfl ?_
  conv => whnf
  refine Br.t rfl ?_
  conv => whnf
  refine Br.t rfl ?_
  conv => whnf
  exact ⟨(k, true), [], ⟨H, lt_⟩, (fits_of ⟨.inl ⟨rfl, rfl⟩, trivial⟩ trivial fi_ trivial rfl)⟩
  conv => whnf
  refine Br.t ft_ ?_
  conv => whnf
  refine Br.t ft_ ?_
  conv => whnf
  refine Br.t ft_ ?_
  conv => whnf
  refine Br.t ft_ ?_
  conv => whnf
  refine Br.t ft_ ?_
  conv => whnf
  refine Br.t rfl ?_
  conv => whnf
  refine Br.t rfl ?_
  conv => whnf
  refine Br.t rfl ?_
  conv => whnf
  refine Br.t rfl ?_
  conv => whnf
  refine Br.t rfl ?_
  conv => whnf
  refine Br.t rfl ?_
  conv => whnf
  refine Br.t rfl ?_
  conv => whnf
  refine Br.t rfl ?_
  conv => whnf
  refine Br.t rfl ?_
  conv => whnf
  refine Br.t rfl ?_
  conv => whnf
  exact ⟨(k, true), [], ⟨H, lt_⟩, (fits_of ⟨.inl ⟨rfl, rfl⟩, trivial⟩ trivial fi_ trivial rfl)⟩
  conv => whnf
  refine Br.t ft_ ?_
  conv => whnf
  refine Br.t ft_ ?_
  conv => whnf
  refine Br.t rfl ?_
  conv => whnf
  refine Br.t rfl ?_
  conv => whnf
  refine Br.t rfl ?_
  conv => whnf
  refine Br.t rfl ?_
  conv => whnf
  refine Br.t rfl ?_
  conv => whnf
  refine Br.t rfl ?_
  conv => whnf
  refine Br.t rfl ?_
  conv => whnf
  refine Br.t rfl ?_
  conv => whnf
  refine Br.t rfl ?_
  conv => whnf
  refine Br.t rfl ?_
  conv => whnf
  refine Br.t rfl ?_
  conv => whnf
  refine Br.t rfl ?_
  conv => whnf
  refine Br.t rfl ?_
  conv => whnf
  refine Br.t rfl ?_
  conv => whnf
  refine Br.t rfl ?_
  conv => whnf
  refine Br.t rfl ?_
  conv => whnf
  exact ⟨(k, true), [], ⟨H, lt_⟩, (fits_of ⟨.inl ⟨rfl, rfl⟩, trivial⟩ trivial fi_ trivial rfl)⟩
  conv => whnf
  refine Br.t ft_ ?_
  conv => whnf
  refine Br.t ft_ ?_
  conv => whnf
  refine Br.t rfl ?_
  conv => whnf
  refine Br.t rfl ?_
  conv => whnf
  refine Br.t rfl ?_
  conv => whnf
  refine Br.t rfl ?_
  conv => whnf
  refine Br.t rfl ?_
  conv => whnf
  refine Br.t rfl ?_
  conv => whnf
  refine Br.t rfl ?_
  conv => whnf
  refine Br.t rfl ?_
  conv => whnf
  refine Br.t rfl ?_
  conv => whnf
  refine Br.t rfl ?_
  conv => whnf
  refine Br.t rfl ?_
  conv => whnf
  refine Br.t rfl ?_
  conv => whnf
  refine Br.t rfl ?_
  conv => whnf
  refine Br.t rfl ?_
  conv => whnf
  refine Br.t rfl ?_
  conv => whnf
  refine Br.t rfl ?_
  conv => whnf
  refine Br.t rfl ?_
  conv => whnf
  refine Br.t rfl ?_
  conv => whnf
  refine Br.t rfl ?_
  conv => whnf
  exact ⟨(k, true), [], ⟨H, lt_⟩, (fits_of ⟨.inl ⟨rfl, rfl⟩, trivial⟩ trivial fi_ trivial rfl)⟩
  intro k x170 hk H; rcases k with _ | k; exact none_elim H; rw [impl_PlantValid.j0] at H; conv => whnf
  refine br_t H (fun c H => ?_) (fun c H => ?_)
  conv => whnf
  refine cut_ 576 [(2, .bool false)] [] rfl ⟨.inl rfl, trivial⟩ trivial ?_
  conv => whnf
  injection H with H; subst H
  exact ret_fz [] (rtA_eq rfl)
  conv => whnf
  exact ⟨(k, wrap64 (x111 + 1)), [], ⟨H, lt_⟩, lt_, (fits_of ⟨.inl ⟨rfl, rfl⟩, trivial⟩ trivial fi_ trivial rfl)⟩
  conv => whnf
  injection H with H; subst H
  exact ret_fz [] (rtA_eq rfl)
  conv => whnf
  refine Br.t ft_ ?_
  conv => whnf
  refine Br.t ft_ ?_
  conv => whnf
  refine Br.t ft_ ?_
  conv => whnf
  refine Br.t ft_ ?_
  conv => whnf
  refine Br.t rfl ?_
  conv => whnf
  refine Br.t rfl ?_
  conv => whnf
  refine Br.t rfl ?_
  conv => whnf
  refine Br.t rfl ?_
  conv => whnf
  refine Br.t rfl ?_
  conv => whnf
  refine cut_ 240 [(1, .bp 0 0), (40, .bool true)] [(0, .box [(sv_str a0_0), (sv_S_impl_PlantFoe a0_1), (sv_S_impl_PlantPlace a0_2), (sv_S_impl_PlantValve a0_3)])] rfl ⟨.inl rfl, ⟨.inl rfl, trivial⟩⟩ ⟨rfl, trivial⟩ ?_
  conv => whnf
  refine Br.t rfl ?_
  conv => whnf
  refine cut_ 248 [(2, .bool false)] [] rfl ⟨.inl rfl, trivial⟩ trivial ?_
  conv => whnf
  injection H with H; subst H
  exact ret_fz [] (rtA_eq rfl)
  conv => whnf
  refine Br.t ft_ ?_
  conv => whnf
  refine Br.t ft_ ?_
  conv => whnf
  refine Br.t ft_ ?_
  conv => whnf
  refine Br.t ft_ ?_
  conv => whnf
  refine Br.t rfl ?_
  conv => whnf
  refine Br.t rfl ?_
  conv => whnf
  refine Br.t rfl ?_
  conv => whnf
  refine Br.t rfl ?_
  conv => whnf
  refine Br.t rfl ?_
  conv => whnf
  refine Br.t rfl ?_
  conv => whnf
  refine Br.t rfl ?_
  conv => whnf
  refine Br.t rfl ?_
  conv => whnf
  refine Br.t rfl ?_
  conv => whnf
  refine Br.t rfl ?_
  conv => whnf
  refine cut_ 240 [(1, .bp 0 0), (40, .bool true)] [(0, .box [(sv_str a0_0), (sv_S_impl_PlantFoe a0_1), (sv_S_impl_PlantPlace a0_2), (sv_S_impl_PlantValve a0_3)])] rfl ⟨.inl rfl, ⟨.inl rfl, trivial⟩⟩ ⟨rfl, trivial⟩ ?_
  conv => whnf
  refine Br.t rfl ?_
  conv => whnf
  refine cut_ 248 [(2, .bool false)] [] rfl ⟨.inl rfl, trivial⟩ trivial ?_
  conv => whnf
  injection H with H; subst H
  exact ret_fz [] (rtA_eq rfl)
end Go.Proofs.Ytamkmmkchdnkmaa.CW
namespace Go.Proofs
open Go.Shelf Go.Sort Go.RowKit in
shelf_lay Lays.n192 Nm 192 at Try as Try.gx192
end Go.Proofs
namespace Go.Proofs.Ytamkmmkchdnkmaa.CW
open Go Go.Aw Go.RowKit Go.Proofs
set_option maxRecDepth 100000
set_option maxHeartbeats 40000000
variable {G : Nat → Option Obj}
attribute [local irreducible] callE Lp Sq Cut RetOk Fits
theorem sort_Strings.ac {l0 : List ByteArray} {r : List ByteArray} (H : sort_Strings.f l0 = some r) : ACalls Try.prog G 207 [.arr 9 1 (l0.map en_str)] [.own 0 l0.length] [.arr 9 1 (r.map en_str)] .und := by
  exact sortS_ac Try.gx192 ⟨_, Try.func207, by kernel_rfl, by kernel_rfl⟩ G 9 rfl H (fun _ => rfl)
theorem impl_with.l0_lp {F : (Exit → St → Prop) → St → Prop} {hv : List Tmp} {Q : Exit → St → Prop} {σ : St} {r : List ByteArray} {k : Nat} {l0 : List ByteArray} {l1 : List ByteArray} {x5 : List ByteArray} {x12 : Int} (H : impl_with.l0 k l0 l1 x5 x12 = some r) (rn : List (Option Nat)) (h1 : Fits σ σ [16] [(5, .own 0 x5.length), (12, .int .i64 x12)] [] [.arr 9 1 (x5.map en_str)] rn)
    (h2 : ∀ (k0 : Nat) (x5 : List ByteArray) (x12 : Int), k0 < k + 1 → impl_with.l0 k0 l0 l1 x5 x12 = some r → headN σ hv [16] [(5, .own 0 x5.length), (12, .int .i64 x12)] [] [.arr 9 1 (x5.map en_str)] (F (fun e σ' => match e with | .normal => ∃ (y : Nat × (List ByteArray) × Int) (rn : List (Option Nat)), (impl_with.l0 y.1 l0 l1 y.2.1 y.2.2 = some r ∧ y.1 < k + 1) ∧ y.1 < k0 ∧ Fits σ σ' [16] [(5, .own 0 y.2.1.length), (12, .int .i64 y.2.2)] [] [.arr 9 1 (y.2.1.map en_str)] rn | e => Q e σ'))) : Lp F hv Q σ := by
  unfold Lp
  refine ⟨Nat × (List ByteArray) × Int, fun x => impl_with.l0 x.1 l0 l1 x.2.1 x.2.2 = some r ∧ x.1 < k + 1, fun x => x.1, [16], fun x => [(5, .own 0 x.2.1.length), (12, .int .i64 x.2.2)], fun x => [], fun x => [.arr 9 1 (x.2.1.map en_str)], ⟨(k, x5, x12), rn, ⟨H, Nat.lt_succ_self _⟩, h1⟩, ?_⟩
  rintro ⟨k, x5, x12⟩ ⟨H, hk⟩
  exact h2 k x5 x12 hk H
theorem impl_with.ac {k : Nat} {l0 : List ByteArray} {l1 : List ByteArray} {r : List ByteArray} (H : impl_with.f k l0 l1 = some r) : ACalls Try.prog G 162 [] [(sv_str l0), (sv_str l1)] [] ((sv_str r)) := by
  refine acalls_of tok hP Try.func162 rfl (by kernel_rfl) [.tmp 4] rfl (by kernel_rfl) (Nat.le_of_ble_eq_true rfl) (.l .n (.l .n (.l (.l .n (.l .n (.l .n (.l (.c .n .n) .n)))) (.c .n .n)))) rfl ?_
  unfold impl_with.f at H
  conv => whnf
  refine nd_ H (fun c H => ?_)
  conv => whnf
  refine impl_with.l0_lp (l0 := l0) (l1 := l1) (k := k) H [some 16] (fits_of ⟨mt_own lm_, ⟨.inl ⟨rfl, rfl⟩, trivial⟩⟩ ⟨fm_, trivial⟩ fi_ trivial rfl) ?_
  intro k x5 x12 hk H; rcases k with _ | k; exact none_elim H; rw [impl_with.l0] at H; conv => whnf
  refine br_d H (fun c H => ?_) (fun c H => ?_)
  conv => whnf
  refine nd_ H (fun c H => ?_)
  conv => whnf
  refine Nd.mk nf_ ?_
  conv => whnf
  refine El.mk (rdm_en_str _ _ nf_ nf_) ?_
  conv => whnf
  refine cut_ 89 [(5, .own 56 x5.length), (7, .str (rdOf ByteArray.empty l1 x12)), (10, (sv_str l1)), (11, .int .i64 (l1.length : Int)), (12, .int .i64 x12)] [(56, .arr 9 1 (x5.map en_str))] rfl ⟨.inl rfl, ⟨.inl rfl, ⟨.inl rfl, ⟨.inl rfl, ⟨.inl rfl, trivial⟩⟩⟩⟩⟩ ⟨rfl, trivial⟩ ?_
  conv => whnf
  revert H; refine bind_elim (fun t1002 A H => ?_)
  refine call_mk (impl_has.ac A) (avAL_cons (avA_own rfl rfl) (avAL_cons (avA_shut' rfl) (avAL_nil))) (Or.inr ⟨rfl, bo_nil⟩) rfl rfl (Nat.le_of_ble_eq_true rfl) ?_
  conv => whnf
  refine br_nt H (fun c H => ?_) (fun c H => ?_)
  conv => whnf
  exact ⟨(k, x5, wrap64 (x12 + 1)), [some 56], ⟨H, lt_⟩, lt_, (fits_of ⟨rfl, ⟨.inl ⟨rfl, rfl⟩, trivial⟩⟩ ⟨rfl, trivial⟩ fi_ trivial rfl)⟩
  conv => whnf
  refine nd_ H (fun c H => ?_)
  conv => whnf
  exact ⟨(k, (x5 ++ ([rdOf ByteArray.empty l1 x12] : List ByteArray)), wrap64 (x12 + 1)), [some 145], ⟨H, lt_⟩, lt_, (fits_of ⟨mt_own lm_, ⟨.inl ⟨rfl, rfl⟩, trivial⟩⟩ ⟨fm_, trivial⟩ fi_ trivial rfl)⟩
  conv => whnf
  revert H; refine bind_elim (fun t1004 A H => ?_)
  refine call_mk2 [56] (sort_Strings.ac A) ⟨rfl, trivial⟩ rfl rfl rfl rfl rfl rfl rfl rfl ?_
  have Lt1004 := sortS_len A
  conv => whnf
  refine cut_ 81 [(5, .own 56 x5.length)] [(56, .arr 9 1 (t1004.map en_str))] rfl ⟨.inl rfl, trivial⟩ ⟨rfl, trivial⟩ ?_
  conv => whnf
  injection H with H; subst H
  exact ret_fz [56] (rtA_fzD rfl lm_ lm_ rfl)
theorem impl_with.l0_lpO {F : (Exit → St → Prop) → St → Prop} {hv : List Tmp} {Q : Exit → St → Prop} {σ : St} {r : List ByteArray} {k : Nat} {l0 : List ByteArray} {l1 : List ByteArray} {x5 : List ByteArray} {x12 : Int} (H : impl_with.l0 k l0 l1 x5 x12 = some r) (rn : List (Option Nat)) (h1 : Fits σ σ [16] [(5, .own 0 x5.length), (12, .int .i64 x12)] [] [.arr 9 1 (x5.map en_str)] rn)
    (h2 : ∀ (k0 : Nat) (x5 : List ByteArray) (x12 : Int), k0 < k + 1 → impl_with.l0 k0 l0 l1 x5 x12 = some r → headN σ hv [16] [(5, .own 0 x5.length), (12, .int .i64 x12)] [] [.arr 9 1 (x5.map en_str)] (F (fun e σ' => match e with | .normal => ∃ (y : Nat × (List ByteArray) × Int) (rn : List (Option Nat)), (impl_with.l0 y.1 l0 l1 y.2.1 y.2.2 = some r ∧ y.1 < k + 1) ∧ y.1 < k0 ∧ Fits σ σ' [16] [(5, .own 0 y.2.1.length), (12, .int .i64 y.2.2)] [] [.arr 9 1 (y.2.1.map en_str)] rn | e => Q e σ'))) : Lp F hv Q σ := by
  unfold Lp
  refine ⟨Nat × (List ByteArray) × Int, fun x => impl_with.l0 x.1 l0 l1 x.2.1 x.2.2 = some r ∧ x.1 < k + 1, fun x => x.1, [16], fun x => [(5, .own 0 x.2.1.length), (12, .int .i64 x.2.2)], fun x => [], fun x => [.arr 9 1 (x.2.1.map en_str)], ⟨(k, x5, x12), rn, ⟨H, Nat.lt_succ_self _⟩, h1⟩, ?_⟩
  rintro ⟨k, x5, x12⟩ ⟨H, hk⟩
  exact h2 k x5 x12 hk H
theorem impl_with.acO {k : Nat} {l0 : List ByteArray} {l1 : List ByteArray} {r : List ByteArray} (H : impl_with.f k l0 l1 = some r) : ACalls Try.prog G 162 [] [(sv_str l0), (sv_str l1)] [.arr 9 1 (r.map en_str)] (.own 0 r.length) := by
  refine acalls_of tok hP Try.func162 rfl (by kernel_rfl) [.tmp 4] rfl (by kernel_rfl) (Nat.le_of_ble_eq_true rfl) (.l .n (.l .n (.l (.l .n (.l .n (.l .n (.l (.c .n .n) .n)))) (.c .n .n)))) rfl ?_
  unfold impl_with.f at H
  conv => whnf
  refine nd_ H (fun c H => ?_)
  conv => whnf
  refine impl_with.l0_lpO (l0 := l0) (l1 := l1) (k := k) H [some 16] (fits_of ⟨mt_own lm_, ⟨.inl ⟨rfl, rfl⟩, trivial⟩⟩ ⟨fm_, trivial⟩ fi_ trivial rfl) ?_
  intro k x5 x12 hk H; rcases k with _ | k; exact none_elim H; rw [impl_with.l0] at H; conv => whnf
  refine br_d H (fun c H => ?_) (fun c H => ?_)
  conv => whnf
  refine nd_ H (fun c H => ?_)
  conv => whnf
  refine Nd.mk nf_ ?_
  conv => whnf
  refine El.mk (rdm_en_str _ _ nf_ nf_) ?_
  conv => whnf
  refine cut_ 89 [(5, .own 56 x5.length), (7, .str (rdOf ByteArray.empty l1 x12)), (10, (sv_str l1)), (11, .int .i64 (l1.length : Int)), (12, .int .i64 x12)] [(56, .arr 9 1 (x5.map en_str))] rfl ⟨.inl rfl, ⟨.inl rfl, ⟨.inl rfl, ⟨.inl rfl, ⟨.inl rfl, trivial⟩⟩⟩⟩⟩ ⟨rfl, trivial⟩ ?_
  conv => whnf
  revert H; refine bind_elim (fun t1040 A H => ?_)
  refine call_mk (impl_has.ac A) (avAL_cons (avA_own rfl rfl) (avAL_cons (avA_shut' rfl) (avAL_nil))) (Or.inr ⟨rfl, bo_nil⟩) rfl rfl (Nat.le_of_ble_eq_true rfl) ?_
  conv => whnf
  refine br_nt H (fun c H => ?_) (fun c H => ?_)
  conv => whnf
  exact ⟨(k, x5, wrap64 (x12 + 1)), [some 56], ⟨H, lt_⟩, lt_, (fits_of ⟨rfl, ⟨.inl ⟨rfl, rfl⟩, trivial⟩⟩ ⟨rfl, trivial⟩ fi_ trivial rfl)⟩
  conv => whnf
  refine nd_ H (fun c H => ?_)
  conv => whnf
  exact ⟨(k, (x5 ++ ([rdOf ByteArray.empty l1 x12] : List ByteArray)), wrap64 (x12 + 1)), [some 145], ⟨H, lt_⟩, lt_, (fits_of ⟨mt_own lm_, ⟨.inl ⟨rfl, rfl⟩, trivial⟩⟩ ⟨fm_, trivial⟩ fi_ trivial rfl)⟩
  conv => whnf
  revert H; refine bind_elim (fun t1042 A H => ?_)
  refine call_mk2 [56] (sort_Strings.ac A) ⟨rfl, trivial⟩ rfl rfl rfl rfl rfl rfl rfl rfl ?_
  have Lt1042 := sortS_len A
  conv => whnf
  refine cut_ 81 [(5, .own 56 x5.length)] [(56, .arr 9 1 (t1042.map en_str))] rfl ⟨.inl rfl, trivial⟩ ⟨rfl, trivial⟩ ?_
  conv => whnf
  injection H with H; subst H
  exact ret_gen [some 56] [] ((mt_own lm_)) ⟨rfl, trivial⟩ rfl
theorem impl_stations.l1_lp {F : (Exit → St → Prop) → St → Prop} {hv : List Tmp} {Q : Exit → St → Prop} {σ : St} {r : List ByteArray} {k : Nat} {a0_3 : List S_impl_PlantValve} {x3_1 : List ByteArray} {x24 : Int} (H : impl_stations.l1 k a0_3 x3_1 x24 = some r) (rn : List (Option Nat)) (h1 : Fits σ σ [56] [(3, .own 0 x3_1.length), (24, .int .i64 x24)] [] [.arr 9 1 (x3_1.map en_str)] rn)
    (h2 : ∀ (k0 : Nat) (x3_1 : List ByteArray) (x24 : Int), k0 < k + 1 → impl_stations.l1 k0 a0_3 x3_1 x24 = some r → headN σ hv [56] [(3, .own 0 x3_1.length), (24, .int .i64 x24)] [] [.arr 9 1 (x3_1.map en_str)] (F (fun e σ' => match e with | .normal => ∃ (y : Nat × (List ByteArray) × Int) (rn : List (Option Nat)), (impl_stations.l1 y.1 a0_3 y.2.1 y.2.2 = some r ∧ y.1 < k + 1) ∧ y.1 < k0 ∧ Fits σ σ' [56] [(3, .own 0 y.2.1.length), (24, .int .i64 y.2.2)] [] [.arr 9 1 (y.2.1.map en_str)] rn | e => Q e σ'))) : Lp F hv Q σ := by
  unfold Lp
  refine ⟨Nat × (List ByteArray) × Int, fun x => impl_stations.l1 x.1 a0_3 x.2.1 x.2.2 = some r ∧ x.1 < k + 1, fun x => x.1, [56], fun x => [(3, .own 0 x.2.1.length), (24, .int .i64 x.2.2)], fun x => [], fun x => [.arr 9 1 (x.2.1.map en_str)], ⟨(k, x3_1, x24), rn, ⟨H, Nat.lt_succ_self _⟩, h1⟩, ?_⟩
  rintro ⟨k, x3_1, x24⟩ ⟨H, hk⟩
  exact h2 k x3_1 x24 hk H
theorem impl_stations.l0_lp {F : (Exit → St → Prop) → St → Prop} {hv : List Tmp} {Q : Exit → St → Prop} {σ : St} {r : List ByteArray} {k : Nat} {a0_2 : List S_impl_PlantPlace} {a0_3 : List S_impl_PlantValve} {x3 : List ByteArray} {x11 : Int} (H : impl_stations.l0 k a0_2 a0_3 x3 x11 = some r) (rn : List (Option Nat)) (h1 : Fits σ σ [] [(3, .own 0 x3.length), (11, .int .i64 x11)] [] [.arr 9 1 (x3.map en_str)] rn)
    (h2 : ∀ (k0 : Nat) (x3 : List ByteArray) (x11 : Int), k0 < k + 1 → impl_stations.l0 k0 a0_2 a0_3 x3 x11 = some r → headN σ hv [] [(3, .own 0 x3.length), (11, .int .i64 x11)] [] [.arr 9 1 (x3.map en_str)] (F (fun e σ' => match e with | .normal => ∃ (y : Nat × (List ByteArray) × Int) (rn : List (Option Nat)), (impl_stations.l0 y.1 a0_2 a0_3 y.2.1 y.2.2 = some r ∧ y.1 < k + 1) ∧ y.1 < k0 ∧ Fits σ σ' [] [(3, .own 0 y.2.1.length), (11, .int .i64 y.2.2)] [] [.arr 9 1 (y.2.1.map en_str)] rn | e => Q e σ'))) : Lp F hv Q σ := by
  unfold Lp
  refine ⟨Nat × (List ByteArray) × Int, fun x => impl_stations.l0 x.1 a0_2 a0_3 x.2.1 x.2.2 = some r ∧ x.1 < k + 1, fun x => x.1, [], fun x => [(3, .own 0 x.2.1.length), (11, .int .i64 x.2.2)], fun x => [], fun x => [.arr 9 1 (x.2.1.map en_str)], ⟨(k, x3, x11), rn, ⟨H, Nat.lt_succ_self _⟩, h1⟩, ?_⟩
  rintro ⟨k, x3, x11⟩ ⟨H, hk⟩
  exact h2 k x3 x11 hk H
theorem impl_stations.ac {k : Nat} {a0_0 : List ByteArray} {a0_1 : List S_impl_PlantFoe} {a0_2 : List S_impl_PlantPlace} {a0_3 : List S_impl_PlantValve} {r : List ByteArray} (H : impl_stations.f k a0_0 a0_1 a0_2 a0_3 = some r) : ACalls Try.prog G 135 [] [.agg [(sv_str a0_0), (sv_S_impl_PlantFoe a0_1), (sv_S_impl_PlantPlace a0_2), (sv_S_impl_PlantValve a0_3)]] [] ((sv_str r)) := by
  refine acalls_of tok hP Try.func135 rfl (by kernel_rfl) [.tmp 2] rfl (by kernel_rfl) (Nat.le_of_ble_eq_true rfl) (.l .n (.l .n (.l (.l .n (.l .n (.l .n (.l (.c .n .n) .n)))) (.l (.c .n (.l .n (.l .n (.c .n .n)))) .n)))) rfl ?_
  unfold impl_stations.f at H
  conv => whnf
  refine impl_stations.l0_lp (a0_2 := a0_2) (a0_3 := a0_3) (k := k) H [none] (fits_of ⟨⟨rfl, rfl⟩, ⟨.inl ⟨rfl, rfl⟩, trivial⟩⟩ ⟨⟨_, _, rfl⟩, trivial⟩ fi_ trivial rfl) ?_
  intro k x3 x11 hk H; rcases k with _ | k; exact none_elim H; rw [impl_stations.l0] at H; conv => whnf
  refine br_d H (fun c H => ?_) (fun c H => ?_)
  conv => whnf
  refine nd_ H (fun c H => ?_)
  conv => whnf
  refine Nd.mk nf_ ?_
  conv => whnf
  refine El.mk (rdm_en_S_impl_PlantPlace _ _ nf_ nf_) ?_
  conv => whnf
  refine cut_ 97 [(1, .bp 0 0), (3, .own 56 x3.length), (5, .bp 81 0), (9, (sv_S_impl_PlantPlace a0_2)), (10, .int .i64 (a0_2.length : Int)), (11, .int .i64 x11)] [(0, .box [(sv_str a0_0), (sv_S_impl_PlantFoe a0_1), (sv_S_impl_PlantPlace a0_2), (sv_S_impl_PlantValve a0_3)]), (56, .arr 9 1 (x3.map en_str)), (81, .box [.str ((rd_impl_PlantPlace a0_2 x11).f0), .int .i64 ((rd_impl_PlantPlace a0_2 x11).f1), .str ((rd_impl_PlantPlace a0_2 x11).f2)])] rfl ⟨.inl rfl, ⟨.inl rfl, ⟨.inl rfl, ⟨.inl rfl, ⟨.inl rfl, ⟨.inl rfl, trivial⟩⟩⟩⟩⟩⟩ ⟨rfl, ⟨rfl, ⟨rfl, trivial⟩⟩⟩ ?_
  conv => whnf
  revert H; refine bind_elim (fun t1065 A H => ?_)
  refine call_mk (impl_with.acO A) (avAL_cons (avA_own rfl rfl) (avAL_cons (avA_ownX rfl rfl lm_ lm_) (avAL_nil))) (Or.inr ⟨rfl, bo_cons (bo_arr bare_en_str) (bo_nil)⟩) rfl rfl (Nat.le_of_ble_eq_true rfl) ?_
  conv => whnf
  exact ⟨(k, t1065, wrap64 (x11 + 1)), [some 129], ⟨H, lt_⟩, lt_, (fits_of ⟨rfl, ⟨.inl ⟨rfl, rfl⟩, trivial⟩⟩ ⟨rfl, trivial⟩ fi_ trivial rfl)⟩
  conv => whnf
  refine cut_ 97 [(3, .own 56 x3.length), (22, (sv_S_impl_PlantValve a0_3)), (23, .int .i64 (a0_3.length : Int)), (24, .int .i64 0)] [(56, .arr 9 1 (x3.map en_str))] rfl ⟨.inl rfl, ⟨.inl rfl, ⟨.inl rfl, ⟨.inl rfl, trivial⟩⟩⟩⟩ ⟨rfl, trivial⟩ ?_
  conv => whnf
  refine impl_stations.l1_lp (a0_3 := a0_3) (k := k) H [some 56] (fits_of ⟨rfl, ⟨.inl ⟨rfl, rfl⟩, trivial⟩⟩ ⟨rfl, trivial⟩ fi_ trivial rfl) ?_
  intro k x3_1 x24 hk H; rcases k with _ | k; exact none_elim H; rw [impl_stations.l1] at H; conv => whnf
  refine br_d H (fun c H => ?_) (fun c H => ?_)
  conv => whnf
  refine nd_ H (fun c H => ?_)
  conv => whnf
  refine Nd.mk nf_ ?_
  conv => whnf
  refine El.mk (rdm_en_S_impl_PlantValve _ _ nf_ nf_) ?_
  conv => whnf
  revert H; refine bind_elim (fun t1068 A H => ?_)
  refine call_mk (impl_with.acO A) (avAL_cons (avA_own rfl rfl) (avAL_cons (avA_ownX rfl rfl lm_ lm_) (avAL_nil))) (Or.inr ⟨rfl, bo_cons (bo_arr bare_en_str) (bo_nil)⟩) rfl rfl (Nat.le_of_ble_eq_true rfl) ?_
  conv => whnf
  refine cut_ 186 [(3, .own 170 t1068.length), (22, (sv_S_impl_PlantValve a0_3)), (23, .int .i64 (a0_3.length : Int)), (24, .int .i64 x24)] [(170, .arr 9 1 (t1068.map en_str))] rfl ⟨.inl rfl, ⟨.inl rfl, ⟨.inl rfl, ⟨.inl rfl, trivial⟩⟩⟩⟩ ⟨rfl, trivial⟩ ?_
  conv => whnf
  exact ⟨(k, t1068, wrap64 (x24 + 1)), [some 170], ⟨H, lt_⟩, lt_, (fits_of ⟨rfl, ⟨.inl ⟨rfl, rfl⟩, trivial⟩⟩ ⟨rfl, trivial⟩ fi_ trivial rfl)⟩
  conv => whnf
  injection H with H; subst H
  exact ret_fz [97] (rtA_fz' rfl rfl)
theorem impl_ClaimWantOk.j0_sq {F : (Exit → St → Prop) → St → Prop} {hv : List Tmp} {K : St → Prop} {Q : Exit → St → Prop} {σ : St} {r : Bool} {KK : Nat} {a0_1 : Int} {a0_3 : List S_impl_ClaimUse} {a0_4 : List ByteArray} {a0_5 : List ByteArray} {x78 : Int}
    (h1 : F (fun e σ' => match e with | .normal => ∃ (y : Nat) (rn : List (Option Nat)), (impl_ClaimWantOk.j0 y a0_1 a0_3 a0_4 a0_5 x78 = some r ∧ y < KK) ∧ Fits σ σ' [] [] [] [] rn | e => Q e σ') σ)
    (h2 : ∀ (k : Nat), k < KK → impl_ClaimWantOk.j0 k a0_1 a0_3 a0_4 a0_5 x78 = some r → headN σ hv [] [] [] [] K) : Sq F hv K Q σ := by
  unfold Sq
  refine ⟨Nat, fun x => impl_ClaimWantOk.j0 x a0_1 a0_3 a0_4 a0_5 x78 = some r ∧ x < KK, [], fun x => [], fun x => [], fun x => [], h1, ?_⟩
  rintro k ⟨H, hk⟩
  exact h2 k hk H
theorem impl_ClaimWantOk.l1_lp {F : (Exit → St → Prop) → St → Prop} {hv : List Tmp} {Q : Exit → St → Prop} {σ : St} {r : Bool} {k : Nat} {a0_1 : Int} {a0_3 : List S_impl_ClaimUse} {a0_4 : List ByteArray} {a0_5 : List ByteArray} {x130 : Int} (H : impl_ClaimWantOk.l1 k a0_1 a0_3 a0_4 a0_5 x130 = some r) (rn : List (Option Nat)) (h1 : Fits σ σ [] [(130, .int .i64 x130)] [] [] rn)
    (h2 : ∀ (k0 : Nat) (x130 : Int), k0 < k + 1 → impl_ClaimWantOk.l1 k0 a0_1 a0_3 a0_4 a0_5 x130 = some r → headN σ hv [] [(130, .int .i64 x130)] [] [] (F (fun e σ' => match e with | .normal => ∃ (y : Nat × Int) (rn : List (Option Nat)), (impl_ClaimWantOk.l1 y.1 a0_1 a0_3 a0_4 a0_5 y.2 = some r ∧ y.1 < k + 1) ∧ y.1 < k0 ∧ Fits σ σ' [] [(130, .int .i64 y.2)] [] [] rn | e => Q e σ'))) : Lp F hv Q σ := by
  unfold Lp
  refine ⟨Nat × Int, fun x => impl_ClaimWantOk.l1 x.1 a0_1 a0_3 a0_4 a0_5 x.2 = some r ∧ x.1 < k + 1, fun x => x.1, [], fun x => [(130, .int .i64 x.2)], fun x => [], fun x => [], ⟨(k, x130), rn, ⟨H, Nat.lt_succ_self _⟩, h1⟩, ?_⟩
  rintro ⟨k, x130⟩ ⟨H, hk⟩
  exact h2 k x130 hk H
theorem impl_ClaimWantOk.l0_lp {F : (Exit → St → Prop) → St → Prop} {hv : List Tmp} {Q : Exit → St → Prop} {σ : St} {r : Bool} {k : Nat} {a0_1 : Int} {a0_3 : List S_impl_ClaimUse} {a0_4 : List ByteArray} {a0_5 : List ByteArray} {x78 : Int} (H : impl_ClaimWantOk.l0 k a0_1 a0_3 a0_4 a0_5 x78 = some r) (rn : List (Option Nat)) (h1 : Fits σ σ [] [(78, .int .i64 x78)] [] [] rn)
    (h2 : ∀ (k0 : Nat) (x78 : Int), k0 < k + 1 → impl_ClaimWantOk.l0 k0 a0_1 a0_3 a0_4 a0_5 x78 = some r → headN σ hv [] [(78, .int .i64 x78)] [] [] (F (fun e σ' => match e with | .normal => ∃ (y : Nat × Int) (rn : List (Option Nat)), (impl_ClaimWantOk.l0 y.1 a0_1 a0_3 a0_4 a0_5 y.2 = some r ∧ y.1 < k + 1) ∧ y.1 < k0 ∧ Fits σ σ' [] [(78, .int .i64 y.2)] [] [] rn | e => Q e σ'))) : Lp F hv Q σ := by
  unfold Lp
  refine ⟨Nat × Int, fun x => impl_ClaimWantOk.l0 x.1 a0_1 a0_3 a0_4 a0_5 x.2 = some r ∧ x.1 < k + 1, fun x => x.1, [], fun x => [(78, .int .i64 x.2)], fun x => [], fun x => [], ⟨(k, x78), rn, ⟨H, Nat.lt_succ_self _⟩, h1⟩, ?_⟩
  rintro ⟨k, x78⟩ ⟨H, hk⟩
  exact h2 k x78 hk H
theorem impl_ClaimWantOk.ac {k : Nat} {a0_0 : Int} {a0_1 : Int} {a0_2 : List ByteArray} {a0_3 : List S_impl_ClaimUse} {a0_4 : List ByteArray} {a0_5 : List ByteArray} {r : Bool} (H : impl_ClaimWantOk.f k a0_0 a0_1 a0_2 a0_3 a0_4 a0_5 = some r) : ACalls Try.prog G 104 [] [.agg [.int .i64 a0_0, .int .i64 a0_1, (sv_str a0_2), (sv_S_impl_ClaimUse a0_3), (sv_str a0_4), (sv_str a0_5)]] [] (.bool r) := by
  refine acalls_of tok hP Try.func104 rfl (by kernel_rfl) [.tmp 2] rfl (by kernel_rfl) (Nat.le_of_ble_eq_true rfl) (.l .n (.l (.c .n (.l (.c .n .n) .n)) (.l (.c .n (.l (.c .n .n) .n)) (.l (.l .n (.l .n (.l .n (.l (.c .n (.j (.c .n (.l (.c .n .n) .n)) (.c .n (.l .n (.l .n (.l .n (.l (.c .n (.l (.c .n .n) .n)) .n))))))) .n)))) (.l (.l .n (.c .n .n)) (.c .n .n)))))) rfl ?_
  unfold impl_ClaimWantOk.f at H
  conv => whnf
  refine br_d H (fun c H => ?_) (fun c H => ?_)
  conv => whnf
  refine Br.t ft_ ?_
  conv => whnf
  refine Br.t ft_ ?_
  conv => whnf
  refine Br.t ft_ ?_
  conv => whnf
  refine Br.t rfl ?_
  conv => whnf
  refine Br.t rfl ?_
  conv => whnf
  refine Br.t rfl ?_
  conv => whnf
  refine Br.t rfl ?_
  conv => whnf
  refine Br.t rfl ?_
  conv => whnf
  refine Br.t rfl ?_
  conv => whnf
  refine Br.t rfl ?_
  conv => whnf
  refine Br.t rfl ?_
  conv => whnf
  refine Br.t rfl ?_
  conv => whnf
  refine Br.t rfl ?_
  conv => whnf
  refine Br.t rfl ?_
  conv => whnf
  refine Br.t rfl ?_
  conv => whnf
  refine Br.t rfl ?_
  conv => whnf
  refine Br.t rfl ?_
  conv => whnf
  refine Br.t rfl ?_
  conv => whnf
  refine Br.t rfl ?_
  conv => whnf
  refine Br.t rfl ?_
  conv => whnf
  refine Br.t rfl ?_
  conv => whnf
  refine Br.t rfl ?_
  conv => whnf
  refine Br.t rfl ?_
  conv => whnf
  refine Br.t rfl ?_
  conv => whnf
  refine Br.t rfl ?_
  conv => whnf
  refine Br.t rfl ?_
  conv => whnf
  refine Br.t rfl ?_
  conv => whnf
  refine Br.t rfl ?_
  conv => whnf
  refine Br.t rfl ?_
  conv => whnf
  refine Br.t rfl ?_
  conv => whnf
  refine cut_ 336 [(1, .bp 0 0), (46, .bool true)] [(0, .box [.int .i64 a0_0, .int .i64 a0_1, (sv_str a0_2), (sv_S_impl_ClaimUse a0_3), (sv_str a0_4), (sv_str a0_5)])] rfl ⟨.inl rfl, ⟨.inl rfl, trivial⟩⟩ ⟨rfl, trivial⟩ ?_
  conv => whnf
  refine Br.t rfl ?_
  conv => whnf
  refine cut_ 344 [(2, .bool false)] [] rfl ⟨.inl rfl, trivial⟩ trivial ?_
  conv => whnf
  injection H with H; subst H
  exact ret_fz [] (rtA_eq rfl)
  conv => whnf
  refine Br.f ff_ ?_
  conv => whnf
  refine Br.f ff_ ?_
  conv => whnf
  refine Br.f ff_ ?_
  conv => whnf
  refine br_d H (fun c H => ?_) (fun c H => ?_)
  conv => whnf
  refine Br.t ft_ ?_
  conv => whnf
  refine Br.t ft_ ?_
  conv => whnf
  refine Br.t ft_ ?_
  conv => whnf
  refine Br.t rfl ?_
  conv => whnf
  refine Br.t rfl ?_
  conv => whnf
  refine Br.t rfl ?_
  conv => whnf
  refine Br.t rfl ?_
  conv => whnf
  refine Br.t rfl ?_
  conv => whnf
  refine Br.t rfl ?_
  conv => whnf
  refine Br.t rfl ?_
  conv => whnf
  refine Br.t rfl ?_
  conv => whnf
  refine Br.t rfl ?_
  conv => whnf
  refine Br.t rfl ?_
  conv => whnf
  refine Br.t rfl ?_
  conv => whnf
  refine Br.t rfl ?_
  conv => whnf
  refine Br.t rfl ?_
  conv => whnf
  refine Br.t rfl ?_
  conv => whnf
  refine Br.t rfl ?_
  conv => whnf
  refine Br.t rfl ?_
  conv => whnf
  refine Br.t rfl ?_
  conv => whnf
  refine Br.t rfl ?_
  conv => whnf
  refine Br.t rfl ?_
  conv => whnf
  refine Br.t rfl ?_
  conv => whnf
  refine Br.t rfl ?_
  conv => whnf
  refine Br.t rfl ?_
  conv => whnf
  refine Br.t rfl ?_
  conv => whnf
  refine cut_ 336 [(1, .bp 0 0), (46, .bool true)] [(0, .box [.int .i64 a0_0, .int .i64 a0_1, (sv_str a0_2), (sv_S_impl_ClaimUse a0_3), (sv_str a0_4), (sv_str a0_5)])] rfl ⟨.inl rfl, ⟨.inl rfl, trivial⟩⟩ ⟨rfl, trivial⟩ ?_
  conv => whnf
  refine Br.t rfl ?_
  conv => whnf
  refine cut_ 344 [(2, .bool false)] [] rfl ⟨.inl rfl, trivial⟩ trivial ?_
  conv => whnf
  injection H with H; subst H
  exact ret_fz [] (rtA_eq rfl)
  conv => whnf
  refine Br.f ff_ ?_
  conv => whnf
  refine Br.f ff_ ?_
  conv => whnf
  refine Br.f ff_ ?_
  conv => whnf
  refine br_d H (fun c H => ?_) (fun c H => ?_)
  conv => whnf
  refine Br.t ft_ ?_
  conv => whnf
  refine Br.t ft_ ?_
  conv => whnf
  refine Br.t ft_ ?_
  conv => whnf
  refine Br.t rfl ?_
  conv => whnf
  refine Br.t rfl ?_
  conv => whnf
  refine Br.t rfl ?_
  conv => whnf
  refine Br.t rfl ?_
  conv => whnf
  refine Br.t rfl ?_
  conv => whnf
  refine Br.t rfl ?_
  conv => whnf
  refine Br.t rfl ?_
  conv => whnf
  refine Br.t rfl ?_
  conv => whnf
  refine Br.t rfl ?_
  conv => whnf
  refine Br.t rfl ?_
  conv => whnf
  refine Br.t rfl ?_
  conv => whnf
  refine Br.t rfl ?_
  conv => whnf
  refine Br.t rfl ?_
  conv => whnf
  refine Br.t rfl ?_
  conv => whnf
  refine Br.t rfl ?_
  conv => whnf
  refine Br.t rfl ?_
  conv => whnf
  refine Br.t rfl ?_
  conv => whnf
  refine Br.t rfl ?_
  conv => whnf
  refine Br.t rfl ?_
  conv => whnf
  refine cut_ 336 [(1, .bp 0 0), (46, .bool true)] [(0, .box [.int .i64 a0_0, .int .i64 a0_1, (sv_str a0_2), (sv_S_impl_ClaimUse a0_3), (sv_str a0_4), (sv_str a0_5)])] rfl ⟨.inl rfl, ⟨.inl rfl, trivial⟩⟩ ⟨rfl, trivial⟩ ?_
  conv => whnf
  refine Br.t rfl ?_
  conv => whnf
  refine cut_ 344 [(2, .bool false)] [] rfl ⟨.inl rfl, trivial⟩ trivial ?_
  conv => whnf
  injection H with H; subst H
  exact ret_fz [] (rtA_eq rfl)
  conv => whnf
  refine Br.f ff_ ?_
  conv => whnf
  refine Br.f ff_ ?_
  conv => whnf
  refine Br.f ff_ ?_
  conv => whnf
  refine br_d H (fun c H => ?_) (fun c H => ?_)
  conv => whnf
  refine Br.t ft_ ?_
  conv => whnf
  refine Br.t ft_ ?_
  conv => whnf
  refine Br.t ft_ ?_
  conv => whnf
  refine Br.t ft_ ?_
  conv => whnf
  refine Br.t rfl ?_
  conv => whnf
  refine Br.t rfl ?_
  conv => whnf
  refine Br.t rfl ?_
  conv => whnf
  refine Br.t rfl ?_
  conv => whnf
  refine Br.t rfl ?_
  conv => whnf
  refine Br.t rfl ?_
  conv => whnf
  refine Br.t rfl ?_
  conv => whnf
  refine Br.t rfl ?_
  conv => whnf
  refine Br.t rfl ?_
  conv => whnf
  refine Br.t rfl ?_
  conv => whnf
  refine Br.t rfl ?_
  conv => whnf
  refine Br.t rfl ?_
  conv => whnf
  refine Br.t rfl ?_
  conv => whnf
  refine Br.t rfl ?_
  conv => whnf
  refine cut_ 336 [(1, .bp 0 0), (46, .bool true)] [(0, .box [.int .i64 a0_0, .int .i64 a0_1, (sv_str a0_2), (sv_S_impl_ClaimUse a0_3), (sv_str a0_4), (sv_str a0_5)])] rfl ⟨.inl rfl, ⟨.inl rfl, trivial⟩⟩ ⟨rfl, trivial⟩ ?_
  conv => whnf
  refine Br.t rfl ?_
  conv => whnf
  refine cut_ 344 [(2, .bool false)] [] rfl ⟨.inl rfl, trivial⟩ trivial ?_
  conv => whnf
  injection H with H; subst H
  exact ret_fz [] (rtA_eq rfl)
  conv => whnf
  refine Br.f ff_ ?_
  conv => whnf
  refine Br.f ff_ ?_
  conv => whnf
  refine Br.f ff_ ?_
  conv => whnf
  refine Br.f ff_ ?_
  conv => whnf
  refine br_d H (fun c H => ?_) (fun c H => ?_)
  conv => whnf
  refine Br.t ft_ ?_
  conv => whnf
  refine Br.t ft_ ?_
  conv => whnf
  refine Br.t ft_ ?_
  conv => whnf
  refine Br.t ft_ ?_
  conv => whnf
  refine Br.t rfl ?_
  conv => whnf
  refine Br.t rfl ?_
  conv => whnf
  refine Br.t rfl ?_
  conv => whnf
  refine Br.t rfl ?_
  conv => whnf
  refine Br.t rfl ?_
  conv => whnf
  refine Br.t rfl ?_
  conv => whnf
  refine Br.t rfl ?_
  conv => whnf
  refine Br.t rfl ?_
  conv => whnf
  refine Br.t rfl ?_
  conv => whnf
  refine cut_ 336 [(1, .bp 0 0), (46, .bool true)] [(0, .box [.int .i64 a0_0, .int .i64 a0_1, (sv_str a0_2), (sv_S_impl_ClaimUse a0_3), (sv_str a0_4), (sv_str a0_5)])] rfl ⟨.inl rfl, ⟨.inl rfl, trivial⟩⟩ ⟨rfl, trivial⟩ ?_
  conv => whnf
  refine Br.t rfl ?_
  conv => whnf
  refine cut_ 344 [(2, .bool false)] [] rfl ⟨.inl rfl, trivial⟩ trivial ?_
  conv => whnf
  injection H with H; subst H
  exact ret_fz [] (rtA_eq rfl)
  conv => whnf
  refine Br.f ff_ ?_
  conv => whnf
  refine Br.f ff_ ?_
  conv => whnf
  revert H; refine bind_elim (fun t1094 A H => ?_)
  refine call_mk (impl_names.ac A) (avAL_cons (avA_shut' rfl) (avAL_nil)) (Or.inl rfl) rfl rfl (Nat.le_of_ble_eq_true rfl) ?_
  conv => whnf
  refine Br.f ff_ ?_
  conv => whnf
  refine Br.f ff_ ?_
  conv => whnf
  refine br_nt H (fun c H => ?_) (fun c H => ?_)
  conv => whnf
  refine Br.f ff_ ?_
  conv => whnf
  refine Br.f ff_ ?_
  conv => whnf
  refine Br.f ff_ ?_
  conv => whnf
  refine Br.f ff_ ?_
  conv => whnf
  refine Br.f ff_ ?_
  conv => whnf
  refine Br.f ff_ ?_
  conv => whnf
  refine Br.f ff_ ?_
  conv => whnf
  refine Br.f ff_ ?_
  conv => whnf
  refine cut_ 336 [(1, .bp 0 0), (46, .bool ((decide ((a0_2.length : Int) > 0)) != (decide (a0_1 = 1))))] [(0, .box [.int .i64 a0_0, .int .i64 a0_1, (sv_str a0_2), (sv_S_impl_ClaimUse a0_3), (sv_str a0_4), (sv_str a0_5)])] rfl ⟨.inl rfl, ⟨.inl rfl, trivial⟩⟩ ⟨rfl, trivial⟩ ?_
  conv => whnf
  refine br_t H (fun c H => ?_) (fun c H => ?_)
  conv => whnf
  refine cut_ 344 [(2, .bool false)] [] rfl ⟨.inl rfl, trivial⟩ trivial ?_
  conv => whnf
  injection H with H; subst H
  exact ret_fz [] (rtA_eq rfl)
  conv => whnf
  refine br_d H (fun c H => ?_) (fun c H => ?_)
  conv => whnf
  refine Br.t ft_ ?_
  conv => whnf
  refine Br.t ft_ ?_
  conv => whnf
  refine Br.t ft_ ?_
  conv => whnf
  refine Br.t ft_ ?_
  conv => whnf
  refine Br.t rfl ?_
  conv => whnf
  refine Br.t rfl ?_
  conv => whnf
  refine Br.t rfl ?_
  conv => whnf
  refine Br.t rfl ?_
  conv => whnf
  refine Br.t rfl ?_
  conv => whnf
  refine Br.t rfl ?_
  conv => whnf
  refine Br.t rfl ?_
  conv => whnf
  refine Br.t rfl ?_
  conv => whnf
  refine Br.t rfl ?_
  conv => whnf
  refine Br.t rfl ?_
  conv => whnf
  refine Br.t rfl ?_
  conv => whnf
  refine Br.t rfl ?_
  conv => whnf
  refine Br.t rfl ?_
  conv => whnf
  refine Br.t rfl ?_
  conv => whnf
  refine Br.t rfl ?_
  conv => whnf
  refine cut_ 560 [(1, .bp 0 0), (74, .bool true)] [(0, .box [.int .i64 a0_0, .int .i64 a0_1, (sv_str a0_2), (sv_S_impl_ClaimUse a0_3), (sv_str a0_4), (sv_str a0_5)])] rfl ⟨.inl rfl, ⟨.inl rfl, trivial⟩⟩ ⟨rfl, trivial⟩ ?_
  conv => whnf
  refine Br.t rfl ?_
  conv => whnf
  refine cut_ 568 [(2, .bool false)] [] rfl ⟨.inl rfl, trivial⟩ trivial ?_
  conv => whnf
  injection H with H; subst H
  exact ret_fz [] (rtA_eq rfl)
  conv => whnf
  refine Br.f ff_ ?_
  conv => whnf
  refine Br.f ff_ ?_
  conv => whnf
  refine Br.f ff_ ?_
  conv => whnf
  refine Br.f ff_ ?_
  conv => whnf
  refine br_d H (fun c H => ?_) (fun c H => ?_)
  conv => whnf
  refine Br.t ft_ ?_
  conv => whnf
  refine Br.t ft_ ?_
  conv => whnf
  refine Br.t ft_ ?_
  conv => whnf
  refine Br.t ft_ ?_
  conv => whnf
  refine Br.t rfl ?_
  conv => whnf
  refine Br.t rfl ?_
  conv => whnf
  refine Br.t rfl ?_
  conv => whnf
  refine Br.t rfl ?_
  conv => whnf
  refine Br.t rfl ?_
  conv => whnf
  refine Br.t rfl ?_
  conv => whnf
  refine Br.t rfl ?_
  conv => whnf
  refine Br.t rfl ?_
  conv => whnf
  refine Br.t rfl ?_
  conv => whnf
  refine Br.t rfl ?_
  conv => whnf
  refine cut_ 560 [(1, .bp 0 0), (74, .bool true)] [(0, .box [.int .i64 a0_0, .int .i64 a0_1, (sv_str a0_2), (sv_S_impl_ClaimUse a0_3), (sv_str a0_4), (sv_str a0_5)])] rfl ⟨.inl rfl, ⟨.inl rfl, trivial⟩⟩ ⟨rfl, trivial⟩ ?_
  conv => whnf
  refine Br.t rfl ?_
  conv => whnf
  refine cut_ 568 [(2, .bool false)] [] rfl ⟨.inl rfl, trivial⟩ trivial ?_
  conv => whnf
  injection H with H; subst H
  exact ret_fz [] (rtA_eq rfl)
  conv => whnf
  refine Br.f ff_ ?_
  conv => whnf
  refine Br.f ff_ ?_
  conv => whnf
  refine Br.f ff_ ?_
  conv => whnf
  refine Br.f ff_ ?_
  conv => whnf
  refine br_d H (fun c H => ?_) (fun c H => ?_)
  conv => whnf
  refine Br.t ft_ ?_
  conv => whnf
  refine Br.t ft_ ?_
  conv => whnf
  refine Br.t ft_ ?_
  conv => whnf
  refine Br.t ft_ ?_
  conv => whnf
  refine Br.t rfl ?_
  conv => whnf
  refine Br.t rfl ?_
  conv => whnf
  refine Br.t rfl ?_
  conv => whnf
  refine Br.t rfl ?_
  conv => whnf
  refine Br.t rfl ?_
  conv => whnf
  refine cut_ 560 [(1, .bp 0 0), (74, .bool true)] [(0, .box [.int .i64 a0_0, .int .i64 a0_1, (sv_str a0_2), (sv_S_impl_ClaimUse a0_3), (sv_str a0_4), (sv_str a0_5)])] rfl ⟨.inl rfl, ⟨.inl rfl, trivial⟩⟩ ⟨rfl, trivial⟩ ?_
  conv => whnf
  refine Br.t rfl ?_
  conv => whnf
  refine cut_ 568 [(2, .bool false)] [] rfl ⟨.inl rfl, trivial⟩ trivial ?_
  conv => whnf
  injection H with H; subst H
  exact ret_fz [] (rtA_eq rfl)
  conv => whnf
  refine Br.f ff_ ?_
  conv => whnf
  refine Br.f ff_ ?_
  conv => whnf
  revert H; refine bind_elim (fun t1099 A H => ?_)
  refine call_mk (impl_names.ac A) (avAL_cons (avA_shut' rfl) (avAL_nil)) (Or.inl rfl) rfl rfl (Nat.le_of_ble_eq_true rfl) ?_
  conv => whnf
  refine Br.f ff_ ?_
  conv => whnf
  refine Br.f ff_ ?_
  conv => whnf
  refine br_nt H (fun c H => ?_) (fun c H => ?_)
  conv => whnf
  refine Br.f ff_ ?_
  conv => whnf
  refine Br.f ff_ ?_
  conv => whnf
  revert H; refine bind_elim (fun t1100 A H => ?_)
  refine call_mk (impl_names.ac A) (avAL_cons (avA_shut' rfl) (avAL_nil)) (Or.inl rfl) rfl rfl (Nat.le_of_ble_eq_true rfl) ?_
  conv => whnf
  refine Br.f ff_ ?_
  conv => whnf
  refine Br.f ff_ ?_
  conv => whnf
  refine cut_ 560 [(1, .bp 0 0), (74, .bool (!t1100))] [(0, .box [.int .i64 a0_0, .int .i64 a0_1, (sv_str a0_2), (sv_S_impl_ClaimUse a0_3), (sv_str a0_4), (sv_str a0_5)])] rfl ⟨.inl rfl, ⟨.inl rfl, trivial⟩⟩ ⟨rfl, trivial⟩ ?_
  conv => whnf
  refine br_nt H (fun c H => ?_) (fun c H => ?_)
  conv => whnf
  refine impl_ClaimWantOk.l0_lp (a0_1 := a0_1) (a0_3 := a0_3) (a0_4 := a0_4) (a0_5 := a0_5) (k := k) H [] (fits_of ⟨.inl ⟨rfl, rfl⟩, trivial⟩ trivial fi_ trivial rfl) ?_
  intro k x78 hk H; rcases k with _ | k; exact none_elim H; rw [impl_ClaimWantOk.l0] at H; conv => whnf
  refine br_d H (fun c H => ?_) (fun c H => ?_)
  conv => whnf
  refine nd_ H (fun c H => ?_)
  conv => whnf
  refine Nd.mk nf_ ?_
  conv => whnf
  refine El.mk (rdm_en_S_impl_ClaimUse _ _ nf_ nf_) ?_
  conv => whnf
  refine cut_ 648 [(1, .bp 0 0), (3, .int .i64 x78), (4, .bp 624 0), (76, (sv_S_impl_ClaimUse a0_3)), (77, .int .i64 (a0_3.length : Int)), (78, .int .i64 x78)] [(0, .box [.int .i64 a0_0, .int .i64 a0_1, (sv_str a0_2), (sv_S_impl_ClaimUse a0_3), (sv_str a0_4), (sv_str a0_5)]), (624, .box [.str ((rd_impl_ClaimUse a0_3 x78).f0), .int .i64 ((rd_impl_ClaimUse a0_3 x78).f1), .int .i64 ((rd_impl_ClaimUse a0_3 x78).f2)])] rfl ⟨.inl rfl, ⟨.inl rfl, ⟨.inl rfl, ⟨.inl rfl, ⟨.inl rfl, ⟨.inl rfl, trivial⟩⟩⟩⟩⟩⟩ ⟨rfl, ⟨rfl, trivial⟩⟩ ?_
  conv => whnf
  refine impl_ClaimWantOk.j0_sq (a0_1 := a0_1) (a0_3 := a0_3) (a0_4 := a0_4) (a0_5 := a0_5) (x78 := x78) (KK := k + 1) (r := r) ?_ ?_
  conv => whnf
  revert H; refine bind_elim (fun t1108 A H => ?_)
  refine call_mk (impl_isName.ac A) (avAL_cons (avA_shut' rfl) (avAL_nil)) (Or.inl rfl) rfl rfl (Nat.le_of_ble_eq_true rfl) ?_
  conv => whnf
  refine br_nt H (fun c H => ?_) (fun c H => ?_)
  conv => whnf
  refine Br.f ff_ ?_
  conv => whnf
  refine Br.f ff_ ?_
  conv => whnf
  refine br_d H (fun c H => ?_) (fun c H => ?_)
  conv => whnf
  refine Br.t ft_ ?_
  conv => whnf
  refine Br.t ft_ ?_
  conv => whnf
  refine Br.t ft_ ?_
  conv => whnf
  refine Br.t ft_ ?_
  conv => whnf
  refine nd_ H (fun c H => ?_)
  conv => whnf
  refine nd_ H (fun c H => ?_)
  conv => whnf
  refine El.mk (rdm_en_S_impl_ClaimUse _ _ nf_ nf_) ?_
  conv => whnf
  refine Br.t ft_ ?_
  conv => whnf
  refine Br.t ft_ ?_
  conv => whnf
  refine Br.t ft_ ?_
  conv => whnf
  refine Br.t ft_ ?_
  conv => whnf
  refine Br.t ft_ ?_
  conv => whnf
  refine Br.f ff_ ?_
  conv => whnf
  refine Br.t ft_ ?_
  conv => whnf
  refine Br.f ff_ ?_
  conv => whnf
  refine cut_ 808 [(1, .bp 0 0), (4, .bp 624 0), (76, (sv_S_impl_ClaimUse a0_3)), (77, .int .i64 (a0_3.length : Int)), (78, .int .i64 x78), (102, .bool (!(Op.bytesLess ((rd_impl_ClaimUse a0_3 (wrap64 (x78 - 1))).f0).toList ((rd_impl_ClaimUse a0_3 x78).f0).toList)))] [(0, .box [.int .i64 a0_0, .int .i64 a0_1, (sv_str a0_2), (sv_S_impl_ClaimUse a0_3), (sv_str a0_4), (sv_str a0_5)]), (624, .box [.str ((rd_impl_ClaimUse a0_3 x78).f0), .int .i64 ((rd_impl_ClaimUse a0_3 x78).f1), .int .i64 ((rd_impl_ClaimUse a0_3 x78).f2)])] rfl ⟨.inl rfl, ⟨.inl rfl, ⟨.inl rfl, ⟨.inl rfl, ⟨.inl rfl, ⟨.inl rfl, trivial⟩⟩⟩⟩⟩⟩ ⟨rfl, ⟨rfl, trivial⟩⟩ ?_
  conv => whnf
  refine br_nt H (fun c H => ?_) (fun c H => ?_)
  conv => whnf
  exact ⟨k, [], ⟨H, lt_⟩, (fits_of trivial trivial fi_ trivial rfl)⟩
  conv => whnf
  refine cut_ 816 [(2, .bool false)] [] rfl ⟨.inl rfl, trivial⟩ trivial ?_
  conv => whnf
  injection H with H; subst H
  exact ret_fz [] (rtA_eq rfl)
  conv => whnf
  refine Br.f ff_ ?_
  conv => whnf
  refine Br.f ff_ ?_
  conv => whnf
  refine Br.f ff_ ?_
  conv => whnf
  refine Br.f ff_ ?_
  conv => whnf
  refine Br.f ff_ ?_
  conv => whnf
  refine Br.f ff_ ?_
  conv => whnf
  refine Br.f ff_ ?_
  conv => whnf
  refine Br.f ff_ ?_
  conv => whnf
  refine Br.f ff_ ?_
  conv => whnf
  refine Br.f ff_ ?_
  conv => whnf
  refine Br.f ff_ ?_
  conv => whnf
  refine Br.f ff_ ?_
  conv => whnf
  refine cut_ 808 [(1, .bp 0 0), (4, .bp 624 0), (76, (sv_S_impl_ClaimUse a0_3)), (77, .int .i64 (a0_3.length : Int)), (78, .int .i64 x78), (102, .bool false)] [(0, .box [.int .i64 a0_0, .int .i64 a0_1, (sv_str a0_2), (sv_S_impl_ClaimUse a0_3), (sv_str a0_4), (sv_str a0_5)]), (624, .box [.str ((rd_impl_ClaimUse a0_3 x78).f0), .int .i64 ((rd_impl_ClaimUse a0_3 x78).f1), .int .i64 ((rd_impl_ClaimUse a0_3 x78).f2)])] rfl ⟨.inl rfl, ⟨.inl rfl, ⟨.inl rfl, ⟨.inl rfl, ⟨.inl rfl, ⟨.inl rfl, trivial⟩⟩⟩⟩⟩⟩ ⟨rfl, ⟨rfl, trivial⟩⟩ ?_
  conv => whnf
  refine Br.f rfl ?_
  conv => whnf
  exact ⟨k, [], ⟨H, lt_⟩, (fits_of trivial trivial fi_ trivial rfl)⟩
  conv => whnf
  refine Br.t ft_ ?_
  conv => whnf
  refine Br.t ft_ ?_
  conv => whnf
  refine Br.t ft_ ?_
  conv => whnf
  refine Br.t ft_ ?_
  conv => whnf
  refine cut_ 808 [(1, .bp 0 0), (4, .bp 624 0), (76, (sv_S_impl_ClaimUse a0_3)), (77, .int .i64 (a0_3.length : Int)), (78, .int .i64 x78), (102, .bool true)] [(0, .box [.int .i64 a0_0, .int .i64 a0_1, (sv_str a0_2), (sv_S_impl_ClaimUse a0_3), (sv_str a0_4), (sv_str a0_5)]), (624, .box [.str ((rd_impl_ClaimUse a0_3 x78).f0), .int .i64 ((rd_impl_ClaimUse a0_3 x78).f1), .int .i64 ((rd_impl_ClaimUse a0_3 x78).f2)])] rfl ⟨.inl rfl, ⟨.inl rfl, ⟨.inl rfl, ⟨.inl rfl, ⟨.inl rfl, ⟨.inl rfl, trivial⟩⟩⟩⟩⟩⟩ ⟨rfl, ⟨rfl, trivial⟩⟩ ?_
  conv => whnf
  refine Br.t rfl ?_
  conv => whnf
  refine cut_ 816 [(2, .bool false)] [] rfl ⟨.inl rfl, trivial⟩ trivial ?_
  conv => whnf
  injection H with H; subst H
  exact ret_fz [] (rtA_eq rfl)
  intro k hk H; rcases k with _ | k; exact none_elim H; rw [impl_ClaimWantOk.j0] at H; conv => whnf
  refine cut_ 664 [(1, .bp 0 0), (4, .bp 624 0), (76, (sv_S_impl_ClaimUse a0_3)), (77, .int .i64 (a0_3.length : Int)), (78, .int .i64 x78), (104, .int .i64 ((rd_impl_ClaimUse a0_3 x78).f1))] [(0, .box [.int .i64 a0_0, .int .i64 a0_1, (sv_str a0_2), (sv_S_impl_ClaimUse a0_3), (sv_str a0_4), (sv_str a0_5)]), (624, .box [.str ((rd_impl_ClaimUse a0_3 x78).f0), .int .i64 ((rd_impl_ClaimUse a0_3 x78).f1), .int .i64 ((rd_impl_ClaimUse a0_3 x78).f2)])] rfl ⟨.inl rfl, ⟨.inl rfl, ⟨.inl rfl, ⟨.inl rfl, ⟨.inl rfl, ⟨.inl rfl, trivial⟩⟩⟩⟩⟩⟩ ⟨rfl, ⟨rfl, trivial⟩⟩ ?_
  conv => whnf
  refine br_d H (fun c H => ?_) (fun c H => ?_)
  conv => whnf
  refine br_nd H (fun c H => ?_) (fun c H => ?_)
  conv => whnf
  exact ⟨(k, wrap64 (x78 + 1)), [], ⟨H, lt_⟩, lt_, (fits_of ⟨.inl ⟨rfl, rfl⟩, trivial⟩ trivial fi_ trivial rfl)⟩
  conv => whnf
  injection H with H; subst H
  exact ret_fz [] (rtA_eq rfl)
  conv => whnf
  refine br_d H (fun c H => ?_) (fun c H => ?_)
  conv => whnf
  refine Br.t ft_ ?_
  conv => whnf
  refine br_d H (fun c H => ?_) (fun c H => ?_)
  conv => whnf
  refine Br.t ft_ ?_
  conv => whnf
  refine Br.t ft_ ?_
  conv => whnf
  refine Br.t ft_ ?_
  conv => whnf
  refine Br.t rfl ?_
  conv => whnf
  refine Br.t rfl ?_
  conv => whnf
  refine Br.t rfl ?_
  conv => whnf
  refine Br.t rfl ?_
  conv => whnf
  refine cut_ 800 [(1, .bp 0 0), (76, (sv_S_impl_ClaimUse a0_3)), (77, .int .i64 (a0_3.length : Int)), (78, .int .i64 x78), (125, .bool true)] [(0, .box [.int .i64 a0_0, .int .i64 a0_1, (sv_str a0_2), (sv_S_impl_ClaimUse a0_3), (sv_str a0_4), (sv_str a0_5)])] rfl ⟨.inl rfl, ⟨.inl rfl, ⟨.inl rfl, ⟨.inl rfl, ⟨.inl rfl, trivial⟩⟩⟩⟩⟩ ⟨rfl, trivial⟩ ?_
  conv => whnf
  refine Br.t rfl ?_
  conv => whnf
  refine cut_ 808 [(2, .bool false)] [] rfl ⟨.inl rfl, trivial⟩ trivial ?_
  conv => whnf
  injection H with H; subst H
  exact ret_fz [] (rtA_eq rfl)
  conv => whnf
  refine Br.f ff_ ?_
  conv => whnf
  refine Br.f ff_ ?_
  conv => whnf
  refine Br.f ff_ ?_
  conv => whnf
  refine br_d H (fun c H => ?_) (fun c H => ?_)
  conv => whnf
  refine Br.t ft_ ?_
  conv => whnf
  refine Br.t ft_ ?_
  conv => whnf
  refine Br.t ft_ ?_
  conv => whnf
  refine cut_ 800 [(1, .bp 0 0), (76, (sv_S_impl_ClaimUse a0_3)), (77, .int .i64 (a0_3.length : Int)), (78, .int .i64 x78), (125, .bool true)] [(0, .box [.int .i64 a0_0, .int .i64 a0_1, (sv_str a0_2), (sv_S_impl_ClaimUse a0_3), (sv_str a0_4), (sv_str a0_5)])] rfl ⟨.inl rfl, ⟨.inl rfl, ⟨.inl rfl, ⟨.inl rfl, ⟨.inl rfl, trivial⟩⟩⟩⟩⟩ ⟨rfl, trivial⟩ ?_
  conv => whnf
  refine Br.t rfl ?_
  conv => whnf
  refine cut_ 808 [(2, .bool false)] [] rfl ⟨.inl rfl, trivial⟩ trivial ?_
  conv => whnf
  injection H with H; subst H
  exact ret_fz [] (rtA_eq rfl)
  conv => whnf
  refine Br.f ff_ ?_
  conv => whnf
  refine Br.f ff_ ?_
  conv => whnf
  refine Br.f ff_ ?_
  conv => whnf
  refine cut_ 800 [(1, .bp 0 0), (76, (sv_S_impl_ClaimUse a0_3)), (77, .int .i64 (a0_3.length : Int)), (78, .int .i64 x78), (125, .bool (!(decide (a0_1 = 1))))] [(0, .box [.int .i64 a0_0, .int .i64 a0_1, (sv_str a0_2), (sv_S_impl_ClaimUse a0_3), (sv_str a0_4), (sv_str a0_5)])] rfl ⟨.inl rfl, ⟨.inl rfl, ⟨.inl rfl, ⟨.inl rfl, ⟨.inl rfl, trivial⟩⟩⟩⟩⟩ ⟨rfl, trivial⟩ ?_
  conv => whnf
  refine br_nd H (fun c H => ?_) (fun c H => ?_)
  conv => whnf
  exact ⟨(k, wrap64 (x78 + 1)), [], ⟨H, lt_⟩, lt_, (fits_of ⟨.inl ⟨rfl, rfl⟩, trivial⟩ trivial fi_ trivial rfl)⟩
  conv => whnf
  refine cut_ 808 [(2, .bool false)] [] rfl ⟨.inl rfl, trivial⟩ trivial ?_
  conv => whnf
  injection H with H; subst H
  exact ret_fz [] (rtA_eq rfl)
  conv => whnf
  refine br_d H (fun c H => ?_) (fun c H => ?_)
  conv => whnf
  refine br_d H (fun c H => ?_) (fun c H => ?_)
  conv => whnf
  refine Br.t ft_ ?_
  conv => whnf
  refine Br.t ft_ ?_
  conv => whnf
  refine Br.t ft_ ?_
  conv => whnf
  refine Br.t rfl ?_
  conv => whnf
  refine Br.t rfl ?_
  conv => whnf
  refine Br.t rfl ?_
  conv => whnf
  refine Br.t rfl ?_
  conv => whnf
  refine cut_ 816 [(1, .bp 0 0), (76, (sv_S_impl_ClaimUse a0_3)), (77, .int .i64 (a0_3.length : Int)), (78, .int .i64 x78), (125, .bool true)] [(0, .box [.int .i64 a0_0, .int .i64 a0_1, (sv_str a0_2), (sv_S_impl_ClaimUse a0_3), (sv_str a0_4), (sv_str a0_5)])] rfl ⟨.inl rfl, ⟨.inl rfl, ⟨.inl rfl, ⟨.inl rfl, ⟨.inl rfl, trivial⟩⟩⟩⟩⟩ ⟨rfl, trivial⟩ ?_
  conv => whnf
  refine Br.t rfl ?_
  conv => whnf
  refine cut_ 824 [(2, .bool false)] [] rfl ⟨.inl rfl, trivial⟩ trivial ?_
  conv => whnf
  injection H with H; subst H
  exact ret_fz [] (rtA_eq rfl)
  conv => whnf
  refine Br.f ff_ ?_
  conv => whnf
  refine Br.f ff_ ?_
  conv => whnf
  refine Br.f ff_ ?_
  conv => whnf
  refine br_d H (fun c H => ?_) (fun c H => ?_)
  conv => whnf
  refine Br.t ft_ ?_
  conv => whnf
  refine Br.t ft_ ?_
  conv => whnf
  refine Br.t ft_ ?_
  conv => whnf
  refine cut_ 816 [(1, .bp 0 0), (76, (sv_S_impl_ClaimUse a0_3)), (77, .int .i64 (a0_3.length : Int)), (78, .int .i64 x78), (125, .bool true)] [(0, .box [.int .i64 a0_0, .int .i64 a0_1, (sv_str a0_2), (sv_S_impl_ClaimUse a0_3), (sv_str a0_4), (sv_str a0_5)])] rfl ⟨.inl rfl, ⟨.inl rfl, ⟨.inl rfl, ⟨.inl rfl, ⟨.inl rfl, trivial⟩⟩⟩⟩⟩ ⟨rfl, trivial⟩ ?_
  conv => whnf
  refine Br.t rfl ?_
  conv => whnf
  refine cut_ 824 [(2, .bool false)] [] rfl ⟨.inl rfl, trivial⟩ trivial ?_
  conv => whnf
  injection H with H; subst H
  exact ret_fz [] (rtA_eq rfl)
  conv => whnf
  refine Br.f ff_ ?_
  conv => whnf
  refine Br.f ff_ ?_
  conv => whnf
  refine Br.f ff_ ?_
  conv => whnf
  refine cut_ 816 [(1, .bp 0 0), (76, (sv_S_impl_ClaimUse a0_3)), (77, .int .i64 (a0_3.length : Int)), (78, .int .i64 x78), (125, .bool (!(decide (a0_1 = 1))))] [(0, .box [.int .i64 a0_0, .int .i64 a0_1, (sv_str a0_2), (sv_S_impl_ClaimUse a0_3), (sv_str a0_4), (sv_str a0_5)])] rfl ⟨.inl rfl, ⟨.inl rfl, ⟨.inl rfl, ⟨.inl rfl, ⟨.inl rfl, trivial⟩⟩⟩⟩⟩ ⟨rfl, trivial⟩ ?_
  conv => whnf
  refine br_nd H (fun c H => ?_) (fun c H => ?_)
  conv => whnf
  exact ⟨(k, wrap64 (x78 + 1)), [], ⟨H, lt_⟩, lt_, (fits_of ⟨.inl ⟨rfl, rfl⟩, trivial⟩ trivial fi_ trivial rfl)⟩
  conv => whnf
  refine cut_ 824 [(2, .bool false)] [] rfl ⟨.inl rfl, trivial⟩ trivial ?_
  conv => whnf
  injection H with H; subst H
  exact ret_fz [] (rtA_eq rfl)
  conv => whnf
  injection H with H; subst H
  exact ret_fz [] (rtA_eq rfl)
  conv => whnf
  refine impl_ClaimWantOk.l1_lp (a0_1 := a0_1) (a0_3 := a0_3) (a0_4 := a0_4) (a0_5 := a0_5) (k := k) H [] (fits_of ⟨.inl ⟨rfl, rfl⟩, trivial⟩ trivial fi_ trivial rfl) ?_
  intro k x130 hk H; rcases k with _ | k; exact none_elim H; rw [impl_ClaimWantOk.l1] at H; conv => whnf
  refine cut_ 640 [(1, .bp 0 0), (128, (sv_str a0_4)), (129, .int .i64 (a0_4.length : Int)), (130, .int .i64 x130), (131, .bool (decide (x130 < (a0_4.length : Int))))] [(0, .box [.int .i64 a0_0, .int .i64 a0_1, (sv_str a0_2), (sv_S_impl_ClaimUse a0_3), (sv_str a0_4), (sv_str a0_5)])] rfl ⟨.inl rfl, ⟨.inl rfl, ⟨.inl rfl, ⟨.inl rfl, ⟨.inl rfl, trivial⟩⟩⟩⟩⟩ ⟨rfl, trivial⟩ ?_
  conv => whnf
  refine br_d H (fun c H => ?_) (fun c H => ?_)
  conv => whnf
  refine nd_ H (fun c H => ?_)
  conv => whnf
  refine Nd.mk nf_ ?_
  conv => whnf
  refine El.mk (rdm_en_str _ _ nf_ nf_) ?_
  conv => whnf
  revert H; refine bind_elim (fun t1112 A H => ?_)
  refine call_mk (impl_has.ac A) (avAL_cons (avA_shut' rfl) (avAL_cons (avA_shut' rfl) (avAL_nil))) (Or.inl rfl) rfl rfl (Nat.le_of_ble_eq_true rfl) ?_
  conv => whnf
  refine br_t H (fun c H => ?_) (fun c H => ?_)
  conv => whnf
  injection H with H; subst H
  exact ret_fz [] (rtA_eq rfl)
  conv => whnf
  exact ⟨(k, wrap64 (x130 + 1)), [], ⟨H, lt_⟩, lt_, (fits_of ⟨.inl ⟨rfl, rfl⟩, trivial⟩ trivial fi_ trivial rfl)⟩
  conv => whnf
  refine br_d H (fun c H => ?_) (fun c H => ?_)
  conv => whnf
  refine Br.t ft_ ?_
  conv => whnf
  refine Br.t ft_ ?_
  conv => whnf
  refine Br.t ft_ ?_
  conv => whnf
  refine Br.t rfl ?_
  conv => whnf
  refine Br.t rfl ?_
  conv => whnf
  refine Br.t rfl ?_
  conv => whnf
  refine Br.t rfl ?_
  conv => whnf
  refine Br.t rfl ?_
  conv => whnf
  refine Br.t rfl ?_
  conv => whnf
  refine Br.t rfl ?_
  conv => whnf
  refine Br.t rfl ?_
  conv => whnf
  refine Br.t rfl ?_
  conv => whnf
  refine Br.t rfl ?_
  conv => whnf
  refine Br.t rfl ?_
  conv => whnf
  refine Br.t rfl ?_
  conv => whnf
  refine Br.t rfl ?_
  conv => whnf
  refine cut_ 832 [(2, .bool (decide ((wrap64 ((wrap64 ((a0_3.length : Int) + (a0_4.length : Int))) + (a0_5.length : Int))) > 0)))] [] rfl ⟨.inl rfl, trivial⟩ trivial ?_
  conv => whnf
  injection H with H; subst H
  exact ret_fz [] (rtA_eq rfl)
  conv => whnf
  refine Br.f ff_ ?_
  conv => whnf
  refine Br.f ff_ ?_
  conv => whnf
  refine Br.f ff_ ?_
  conv => whnf
  refine br_d H (fun c H => ?_) (fun c H => ?_)
  conv => whnf
  refine Br.t ft_ ?_
  conv => whnf
  refine Br.t ft_ ?_
  conv => whnf
  refine Br.t ft_ ?_
  conv => whnf
  refine Br.t ft_ ?_
  conv => whnf
  refine Br.t ft_ ?_
  conv => whnf
  refine Br.t ft_ ?_
  conv => whnf
  refine Br.t ft_ ?_
  conv => whnf
  refine Br.t ft_ ?_
  conv => whnf
  refine Br.t ft_ ?_
  conv => whnf
  refine Br.t ft_ ?_
  conv => whnf
  refine Br.t ft_ ?_
  conv => whnf
  refine Br.t ft_ ?_
  conv => whnf
  refine cut_ 832 [(2, .bool (decide ((wrap64 ((wrap64 ((a0_3.length : Int) + (a0_4.length : Int))) + (a0_5.length : Int))) > 0)))] [] rfl ⟨.inl rfl, trivial⟩ trivial ?_
  conv => whnf
  injection H with H; subst H
  exact ret_fz [] (rtA_eq rfl)
  conv => whnf
  refine Br.f ff_ ?_
  conv => whnf
  refine Br.f ff_ ?_
  conv => whnf
  refine Br.f ff_ ?_
  conv => whnf
  refine Br.f ff_ ?_
  conv => whnf
  refine Br.f ff_ ?_
  conv => whnf
  refine Br.f ff_ ?_
  conv => whnf
  refine Br.f ff_ ?_
  conv => whnf
  refine Br.f ff_ ?_
  conv => whnf
  refine Br.f ff_ ?_
  conv => whnf
  refine Br.f ff_ ?_
  conv => whnf
  refine Br.f ff_ ?_
  conv => whnf
  refine Br.f ff_ ?_
  conv => whnf
  refine cut_ 832 [(2, .bool false)] [] rfl ⟨.inl rfl, trivial⟩ trivial ?_
  conv => whnf
  injection H with H; subst H
  exact ret_fz [] (rtA_eq rfl)
  conv => whnf
  refine cut_ 568 [(2, .bool false)] [] rfl ⟨.inl rfl, trivial⟩ trivial ?_
  conv => whnf
  injection H with H; subst H
  exact ret_fz [] (rtA_eq rfl)
  conv => whnf
  refine Br.t ft_ ?_
  conv => whnf
  refine Br.t ft_ ?_
  conv => whnf
  refine Br.t ft_ ?_
  conv => whnf
  refine Br.t ft_ ?_
  conv => whnf
  refine cut_ 560 [(1, .bp 0 0), (74, .bool true)] [(0, .box [.int .i64 a0_0, .int .i64 a0_1, (sv_str a0_2), (sv_S_impl_ClaimUse a0_3), (sv_str a0_4), (sv_str a0_5)])] rfl ⟨.inl rfl, ⟨.inl rfl, trivial⟩⟩ ⟨rfl, trivial⟩ ?_
  conv => whnf
  refine Br.t rfl ?_
  conv => whnf
  refine cut_ 568 [(2, .bool false)] [] rfl ⟨.inl rfl, trivial⟩ trivial ?_
  conv => whnf
  injection H with H; subst H
  exact ret_fz [] (rtA_eq rfl)
  conv => whnf
  refine Br.t ft_ ?_
  conv => whnf
  refine Br.t ft_ ?_
  conv => whnf
  refine Br.t ft_ ?_
  conv => whnf
  refine Br.t ft_ ?_
  conv => whnf
  refine Br.t ft_ ?_
  conv => whnf
  refine Br.t ft_ ?_
  conv => whnf
  refine Br.t ft_ ?_
  conv => whnf
  refine Br.t ft_ ?_
  conv => whnf
  refine cut_ 336 [(1, .bp 0 0), (46, .bool true)] [(0, .box [.int .i64 a0_0, .int .i64 a0_1, (sv_str a0_2), (sv_S_impl_ClaimUse a0_3), (sv_str a0_4), (sv_str a0_5)])] rfl ⟨.inl rfl, ⟨.inl rfl, trivial⟩⟩ ⟨rfl, trivial⟩ ?_
  conv => whnf
  refine Br.t rfl ?_
  conv => whnf
  refine cut_ 344 [(2, .bool false)] [] rfl ⟨.inl rfl, trivial⟩ trivial ?_
  conv => whnf
  injection H with H; subst H
  exact ret_fz [] (rtA_eq rfl)
theorem slices_Equal_string_string.l0_lp {F : (Exit → St → Prop) → St → Prop} {hv : List Tmp} {Q : Exit → St → Prop} {σ : St} {r : Bool} {k : Nat} {l0 : List ByteArray} {l1 : List ByteArray} {x13 : Int} (H : slices_Equal_string_string.l0 k l0 l1 x13 = some r) (rn : List (Option Nat)) (h1 : Fits σ σ [] [(13, .int .i64 x13)] [] [] rn)
    (h2 : ∀ (k0 : Nat) (x13 : Int), k0 < k + 1 → slices_Equal_string_string.l0 k0 l0 l1 x13 = some r → headN σ hv [] [(13, .int .i64 x13)] [] [] (F (fun e σ' => match e with | .normal => ∃ (y : Nat × Int) (rn : List (Option Nat)), (slices_Equal_string_string.l0 y.1 l0 l1 y.2 = some r ∧ y.1 < k + 1) ∧ y.1 < k0 ∧ Fits σ σ' [] [(13, .int .i64 y.2)] [] [] rn | e => Q e σ'))) : Lp F hv Q σ := by
  unfold Lp
  refine ⟨Nat × Int, fun x => slices_Equal_string_string.l0 x.1 l0 l1 x.2 = some r ∧ x.1 < k + 1, fun x => x.1, [], fun x => [(13, .int .i64 x.2)], fun x => [], fun x => [], ⟨(k, x13), rn, ⟨H, Nat.lt_succ_self _⟩, h1⟩, ?_⟩
  rintro ⟨k, x13⟩ ⟨H, hk⟩
  exact h2 k x13 hk H
theorem slices_Equal_string_string.ac {k : Nat} {l0 : List ByteArray} {l1 : List ByteArray} {r : Bool} (H : slices_Equal_string_string.f k l0 l1 = some r) : ACalls Try.prog G 218 [] [(sv_str l0), (sv_str l1)] [] (.bool r) := by
  refine acalls_of tok hP Try.func218 rfl (by kernel_rfl) [.tmp 4] rfl (by kernel_rfl) (Nat.le_of_ble_eq_true rfl) (.l .n (.l .n (.l (.l .n (.c .n (.l .n (.l (.l .n (.c .n .n)) .n)))) .n))) rfl ?_
  unfold slices_Equal_string_string.f at H
  conv => whnf
  refine br_nd H (fun c H => ?_) (fun c H => ?_)
  conv => whnf
  refine slices_Equal_string_string.l0_lp (l0 := l0) (l1 := l1) (k := k) H [] (fits_of ⟨.inl ⟨rfl, rfl⟩, trivial⟩ trivial fi_ trivial rfl) ?_
  intro k x13 hk H; rcases k with _ | k; exact none_elim H; rw [slices_Equal_string_string.l0] at H; conv => whnf
  refine cut_ 80 [(0, (sv_str l0)), (1, (sv_str l1)), (12, .int .i64 (l0.length : Int)), (13, .int .i64 x13), (14, .bool (decide (x13 < (l0.length : Int))))] [] rfl ⟨.inl rfl, ⟨.inl rfl, ⟨.inl rfl, ⟨.inl rfl, ⟨.inl rfl, trivial⟩⟩⟩⟩⟩ trivial ?_
  conv => whnf
  refine br_d H (fun c H => ?_) (fun c H => ?_)
  conv => whnf
  refine nd_ H (fun c H => ?_)
  conv => whnf
  refine Nd.mk nf_ ?_
  conv => whnf
  refine El.mk (rdm_en_str _ _ nf_ nf_) ?_
  conv => whnf
  refine Nd.mk nf_ ?_
  conv => whnf
  refine nd_ H (fun c H => ?_)
  conv => whnf
  refine El.mk (rdm_en_str _ _ nf_ nf_) ?_
  conv => whnf
  refine cut_ 168 [(0, (sv_str l0)), (1, (sv_str l1)), (12, .int .i64 (l0.length : Int)), (13, .int .i64 x13), (24, .bool (!(decide ((rdOf ByteArray.empty l0 x13).toList = (rdOf ByteArray.empty l1 x13).toList))))] [] rfl ⟨.inl rfl, ⟨.inl rfl, ⟨.inl rfl, ⟨.inl rfl, ⟨.inl rfl, trivial⟩⟩⟩⟩⟩ trivial ?_
  conv => whnf
  refine br_nd H (fun c H => ?_) (fun c H => ?_)
  conv => whnf
  exact ⟨(k, wrap64 (x13 + 1)), [], ⟨H, lt_⟩, lt_, (fits_of ⟨.inl ⟨rfl, rfl⟩, trivial⟩ trivial fi_ trivial rfl)⟩
  conv => whnf
  injection H with H; subst H
  exact ret_fz [] (rtA_eq rfl)
  conv => whnf
  injection H with H; subst H
  exact ret_fz [] (rtA_eq rfl)
  conv => whnf
  injection H with H; subst H
  exact ret_fz [] (rtA_eq rfl)
theorem impl_ClaimUse.l0_lp {F : (Exit → St → Prop) → St → Prop} {hv : List Tmp} {Q : Exit → St → Prop} {σ : St} {r : Bool} {k : Nat} {l0 : List S_impl_ClaimUse} {l1 : List S_impl_ClaimUse} {x13 : Int} (H : impl_ClaimUse.l0 k l0 l1 x13 = some r) (rn : List (Option Nat)) (h1 : Fits σ σ [] [(13, .int .i64 x13)] [] [] rn)
    (h2 : ∀ (k0 : Nat) (x13 : Int), k0 < k + 1 → impl_ClaimUse.l0 k0 l0 l1 x13 = some r → headN σ hv [] [(13, .int .i64 x13)] [] [] (F (fun e σ' => match e with | .normal => ∃ (y : Nat × Int) (rn : List (Option Nat)), (impl_ClaimUse.l0 y.1 l0 l1 y.2 = some r ∧ y.1 < k + 1) ∧ y.1 < k0 ∧ Fits σ σ' [] [(13, .int .i64 y.2)] [] [] rn | e => Q e σ'))) : Lp F hv Q σ := by
  unfold Lp
  refine ⟨Nat × Int, fun x => impl_ClaimUse.l0 x.1 l0 l1 x.2 = some r ∧ x.1 < k + 1, fun x => x.1, [], fun x => [(13, .int .i64 x.2)], fun x => [], fun x => [], ⟨(k, x13), rn, ⟨H, Nat.lt_succ_self _⟩, h1⟩, ?_⟩
  rintro ⟨k, x13⟩ ⟨H, hk⟩
  exact h2 k x13 hk H
theorem impl_ClaimUse.ac {k : Nat} {l0 : List S_impl_ClaimUse} {l1 : List S_impl_ClaimUse} {r : Bool} (H : impl_ClaimUse.f k l0 l1 = some r) : ACalls Try.prog G 219 [] [(sv_S_impl_ClaimUse l0), (sv_S_impl_ClaimUse l1)] [] (.bool r) := by
  refine acalls_of tok hP Try.func219 rfl (by kernel_rfl) [.tmp 4] rfl (by kernel_rfl) (Nat.le_of_ble_eq_true rfl) (.l .n (.l .n (.l (.l .n (.c .n (.l .n (.l (.l .n (.c .n .n)) .n)))) .n))) rfl ?_
  unfold impl_ClaimUse.f at H
  conv => whnf
  refine br_nd H (fun c H => ?_) (fun c H => ?_)
  conv => whnf
  refine impl_ClaimUse.l0_lp (l0 := l0) (l1 := l1) (k := k) H [] (fits_of ⟨.inl ⟨rfl, rfl⟩, trivial⟩ trivial fi_ trivial rfl) ?_
  intro k x13 hk H; rcases k with _ | k; exact none_elim H; rw [impl_ClaimUse.l0] at H; conv => whnf
  refine cut_ 80 [(0, (sv_S_impl_ClaimUse l0)), (1, (sv_S_impl_ClaimUse l1)), (12, .int .i64 (l0.length : Int)), (13, .int .i64 x13), (14, .bool (decide (x13 < (l0.length : Int))))] [] rfl ⟨.inl rfl, ⟨.inl rfl, ⟨.inl rfl, ⟨.inl rfl, ⟨.inl rfl, trivial⟩⟩⟩⟩⟩ trivial ?_
  conv => whnf
  refine br_d H (fun c H => ?_) (fun c H => ?_)
  conv => whnf
  refine nd_ H (fun c H => ?_)
  conv => whnf
  refine Nd.mk nf_ ?_
  conv => whnf
  refine El.mk (rdm_en_S_impl_ClaimUse _ _ nf_ nf_) ?_
  conv => whnf
  refine Nd.mk nf_ ?_
  conv => whnf
  refine nd_ H (fun c H => ?_)
  conv => whnf
  refine El.mk (rdm_en_S_impl_ClaimUse _ _ nf_ nf_) ?_
  conv => whnf
  refine cut_ 168 [(0, (sv_S_impl_ClaimUse l0)), (1, (sv_S_impl_ClaimUse l1)), (12, .int .i64 (l0.length : Int)), (13, .int .i64 x13), (24, .bool (!(decide (((rd_impl_ClaimUse l0 x13).f0).toList = ((rd_impl_ClaimUse l1 x13).f0).toList) && (decide (((rd_impl_ClaimUse l0 x13).f1) = ((rd_impl_ClaimUse l1 x13).f1)) && (decide (((rd_impl_ClaimUse l0 x13).f2) = ((rd_impl_ClaimUse l1 x13).f2)) && true)))))] [] rfl ⟨.inl rfl, ⟨.inl rfl, ⟨.inl rfl, ⟨.inl rfl, ⟨.inl rfl, trivial⟩⟩⟩⟩⟩ trivial ?_
  conv => whnf
  refine br_nt H (fun c H => ?_) (fun c H => ?_)
  conv => whnf
  exact ⟨(k, wrap64 (x13 + 1)), [], ⟨H, lt_⟩, lt_, (fits_of ⟨.inl ⟨rfl, rfl⟩, trivial⟩ trivial fi_ trivial rfl)⟩
  conv => whnf
  injection H with H; subst H
  exact ret_fz [] (rtA_eq rfl)
  conv => whnf
  injection H with H; subst H
  exact ret_fz [] (rtA_eq rfl)
  conv => whnf
  injection H with H; subst H
  exact ret_fz [] (rtA_eq rfl)
theorem impl_ClaimWant_is.ac {k : Nat} {a0_0 : Int} {a0_1 : Int} {a0_2 : List ByteArray} {a0_3 : List S_impl_ClaimUse} {a0_4 : List ByteArray} {a0_5 : List ByteArray} {a1_0 : Int} {a1_1 : Int} {a1_2 : List ByteArray} {a1_3 : List S_impl_ClaimUse} {a1_4 : List ByteArray} {a1_5 : List ByteArray} {r : Bool} (H : impl_ClaimWant_is.f k a0_0 a0_1 a0_2 a0_3 a0_4 a0_5 a1_0 a1_1 a1_2 a1_3 a1_4 a1_5 = some r) : ACalls Try.prog G 202 [] [.agg [.int .i64 a0_0, .int .i64 a0_1, (sv_str a0_2), (sv_S_impl_ClaimUse a0_3), (sv_str a0_4), (sv_str a0_5)], .agg [.int .i64 a1_0, .int .i64 a1_1, (sv_str a1_2), (sv_S_impl_ClaimUse a1_3), (sv_str a1_4), (sv_str a1_5)]] [] (.bool r) := by
  refine acalls_of tok hP Try.func202 rfl (by kernel_rfl) [.tmp 4] rfl (by kernel_rfl) (Nat.le_of_ble_eq_true rfl) (.l .n (.c .n .n)) rfl ?_
  unfold impl_ClaimWant_is.f at H
  conv => whnf
  refine br_d H (fun c H => ?_) (fun c H => ?_)
  conv => whnf
  refine Br.t ft_ ?_
  conv => whnf
  refine Br.t ft_ ?_
  conv => whnf
  refine Br.t ft_ ?_
  conv => whnf
  refine Br.t ft_ ?_
  conv => whnf
  refine Br.t ft_ ?_
  conv => whnf
  refine br_d H (fun c H => ?_) (fun c H => ?_)
  conv => whnf
  refine Br.t ft_ ?_
  conv => whnf
  refine Br.t ft_ ?_
  conv => whnf
  refine Br.t ft_ ?_
  conv => whnf
  refine Br.t ft_ ?_
  conv => whnf
  revert H; refine bind_elim (fun t1196 A H => ?_)
  refine call_mk (slices_Equal_string_string.ac A) (avAL_cons (avA_shut' rfl) (avAL_cons (avA_shut' rfl) (avAL_nil))) (Or.inl rfl) rfl rfl (Nat.le_of_ble_eq_true rfl) ?_
  conv => whnf
  refine Br.t ft_ ?_
  conv => whnf
  refine br_t H (fun c H => ?_) (fun c H => ?_)
  conv => whnf
  refine Br.t ft_ ?_
  conv => whnf
  refine Br.t ft_ ?_
  conv => whnf
  refine Br.t ft_ ?_
  conv => whnf
  refine Br.t ft_ ?_
  conv => whnf
  revert H; refine bind_elim (fun t1197 A H => ?_)
  refine call_mk (impl_ClaimUse.ac A) (avAL_cons (avA_shut' rfl) (avAL_cons (avA_shut' rfl) (avAL_nil))) (Or.inl rfl) rfl rfl (Nat.le_of_ble_eq_true rfl) ?_
  conv => whnf
  refine Br.t ft_ ?_
  conv => whnf
  refine br_t H (fun c H => ?_) (fun c H => ?_)
  conv => whnf
  refine Br.t ft_ ?_
  conv => whnf
  refine Br.t ft_ ?_
  conv => whnf
  refine Br.t ft_ ?_
  conv => whnf
  refine Br.t ft_ ?_
  conv => whnf
  revert H; refine bind_elim (fun t1198 A H => ?_)
  refine call_mk (slices_Equal_string_string.ac A) (avAL_cons (avA_shut' rfl) (avAL_cons (avA_shut' rfl) (avAL_nil))) (Or.inl rfl) rfl rfl (Nat.le_of_ble_eq_true rfl) ?_
  conv => whnf
  refine Br.t ft_ ?_
  conv => whnf
  refine br_t H (fun c H => ?_) (fun c H => ?_)
  conv => whnf
  refine Br.t ft_ ?_
  conv => whnf
  refine Br.t ft_ ?_
  conv => whnf
  refine Br.t ft_ ?_
  conv => whnf
  refine Br.t ft_ ?_
  conv => whnf
  revert H; refine bind_elim (fun t1199 A H => ?_)
  refine call_mk (slices_Equal_string_string.ac A) (avAL_cons (avA_shut' rfl) (avAL_cons (avA_shut' rfl) (avAL_nil))) (Or.inl rfl) rfl rfl (Nat.le_of_ble_eq_true rfl) ?_
  conv => whnf
  refine Br.t ft_ ?_
  conv => whnf
  refine cut_ 352 [(4, .bool t1199)] [] rfl ⟨.inl rfl, trivial⟩ trivial ?_
  conv => whnf
  injection H with H; subst H
  exact ret_fz [] (rtA_eq rfl)
  conv => whnf
  refine Br.f ff_ ?_
  conv => whnf
  refine Br.f ff_ ?_
  conv => whnf
  refine Br.f ff_ ?_
  conv => whnf
  refine Br.f ff_ ?_
  conv => whnf
  refine Br.f ff_ ?_
  conv => whnf
  refine cut_ 352 [(4, .bool false)] [] rfl ⟨.inl rfl, trivial⟩ trivial ?_
  conv => whnf
  injection H with H; subst H
  exact ret_fz [] (rtA_eq rfl)
  conv => whnf
  refine Br.f ff_ ?_
  conv => whnf
  refine Br.f ff_ ?_
  conv => whnf
  refine Br.f ff_ ?_
  conv => whnf
  refine Br.f ff_ ?_
  conv => whnf
  refine Br.f ff_ ?_
  conv => whnf
  refine Br.f rfl ?_
  conv => whnf
  refine Br.f rfl ?_
  conv => whnf
  refine Br.f rfl ?_
  conv => whnf
  refine Br.f rfl ?_
  conv => whnf
  refine Br.f rfl ?_
  conv => whnf
  refine Br.f rfl ?_
  conv => whnf
  refine cut_ 352 [(4, .bool false)] [] rfl ⟨.inl rfl, trivial⟩ trivial ?_
  conv => whnf
  injection H with H; subst H
  exact ret_fz [] (rtA_eq rfl)
  conv => whnf
  refine Br.f ff_ ?_
  conv => whnf
  refine Br.f ff_ ?_
  conv => whnf
  refine Br.f ff_ ?_
  conv => whnf
  refine Br.f ff_ ?_
  conv => whnf
  refine Br.f ff_ ?_
  conv => whnf
  refine Br.f rfl ?_
  conv => whnf
  refine Br.f rfl ?_
  conv => whnf
  refine Br.f rfl ?_
  conv => whnf
  refine Br.f rfl ?_
  conv => whnf
  refine Br.f rfl ?_
  conv => whnf
  refine Br.f rfl ?_
  conv => whnf
  refine Br.f rfl ?_
  conv => whnf
  refine Br.f rfl ?_
  conv => whnf
  refine Br.f rfl ?_
  conv => whnf
  refine Br.f rfl ?_
  conv => whnf
  refine Br.f rfl ?_
  conv => whnf
  refine Br.f rfl ?_
  conv => whnf
  refine cut_ 352 [(4, .bool false)] [] rfl ⟨.inl rfl, trivial⟩ trivial ?_
  conv => whnf
  injection H with H; subst H
  exact ret_fz [] (rtA_eq rfl)
  conv => whnf
  refine Br.f ff_ ?_
  conv => whnf
  refine Br.f ff_ ?_
  conv => whnf
  refine Br.f ff_ ?_
  conv => whnf
  refine Br.f ff_ ?_
  conv => whnf
  refine Br.f ff_ ?_
  conv => whnf
  refine Br.f rfl ?_
  conv => whnf
  refine Br.f rfl ?_
  conv => whnf
  refine Br.f rfl ?_
  conv => whnf
  refine Br.f rfl ?_
  conv => whnf
  refine Br.f rfl ?_
  conv => whnf
  refine Br.f rfl ?_
  conv => whnf
  refine Br.f rfl ?_
  conv => whnf
  refine Br.f rfl ?_
  conv => whnf
  refine Br.f rfl ?_
  conv => whnf
  refine Br.f rfl ?_
  conv => whnf
  refine Br.f rfl ?_
  conv => whnf
  refine Br.f rfl ?_
  conv => whnf
  refine Br.f rfl ?_
  conv => whnf
  refine Br.f rfl ?_
  conv => whnf
  refine Br.f rfl ?_
  conv => whnf
  refine Br.f rfl ?_
  conv => whnf
  refine Br.f rfl ?_
  conv => whnf
  refine Br.f rfl ?_
  conv => whnf
  refine cut_ 352 [(4, .bool false)] [] rfl ⟨.inl rfl, trivial⟩ trivial ?_
  conv => whnf
  injection H with H; subst H
  exact ret_fz [] (rtA_eq rfl)
  conv => whnf
  refine Br.f ff_ ?_
  conv => whnf
  refine Br.f ff_ ?_
  conv => whnf
  refine Br.f ff_ ?_
  conv => whnf
  refine Br.f ff_ ?_
  conv => whnf
  refine Br.f ff_ ?_
  conv => whnf
  refine Br.f rfl ?_
  conv => whnf
  refine Br.f rfl ?_
  conv => whnf
  refine Br.f rfl ?_
  conv => whnf
  refine Br.f rfl ?_
  conv => whnf
  refine Br.f rfl ?_
  conv => whnf
  refine Br.f rfl ?_
  conv => whnf
  refine Br.f rfl ?_
  conv => whnf
  refine Br.f rfl ?_
  conv => whnf
  refine Br.f rfl ?_
  conv => whnf
  refine Br.f rfl ?_
  conv => whnf
  refine Br.f rfl ?_
  conv => whnf
  refine Br.f rfl ?_
  conv => whnf
  refine Br.f rfl ?_
  conv => whnf
  refine Br.f rfl ?_
  conv => whnf
  refine Br.f rfl ?_
  conv => whnf
  refine Br.f rfl ?_
  conv => whnf
  refine Br.f rfl ?_
  conv => whnf
  refine Br.f rfl ?_
  conv => whnf
  refine Br.f rfl ?_
  conv => whnf
  refine Br.f rfl ?_
  conv => whnf
  refine Br.f rfl ?_
  conv => whnf
  refine Br.f rfl ?_
  conv => whnf
  refine Br.f rfl ?_
  conv => whnf
  refine Br.f rfl ?_
  conv => whnf
  refine cut_ 352 [(4, .bool false)] [] rfl ⟨.inl rfl, trivial⟩ trivial ?_
  conv => whnf
  injection H with H; subst H
  exact ret_fz [] (rtA_eq rfl)
theorem impl_wordOk.j0_sq {F : (Exit → St → Prop) → St → Prop} {hv : List Tmp} {K : St → Prop} {Q : Exit → St → Prop} {σ : St} {r : Bool} {KK : Nat} {a1_0 : Int} {a1_2 : Int} {a1_3 : Int} {a1_4 : Int} {a1_5 : List ByteArray} {a1_6 : List S_impl_ClaimUse} {a1_7 : List ByteArray} {a1_8 : List ByteArray}
    (h1 : F (fun e σ' => match e with | .normal => ∃ (y : Nat) (rn : List (Option Nat)), (impl_wordOk.j0 y a1_0 a1_2 a1_3 a1_4 a1_5 a1_6 a1_7 a1_8 = some r ∧ y < KK) ∧ Fits σ σ' [] [] [] [] rn | e => Q e σ') σ)
    (h2 : ∀ (k : Nat), k < KK → impl_wordOk.j0 k a1_0 a1_2 a1_3 a1_4 a1_5 a1_6 a1_7 a1_8 = some r → headN σ hv [] [] [] [] K) : Sq F hv K Q σ := by
  unfold Sq
  refine ⟨Nat, fun x => impl_wordOk.j0 x a1_0 a1_2 a1_3 a1_4 a1_5 a1_6 a1_7 a1_8 = some r ∧ x < KK, [], fun x => [], fun x => [], fun x => [], h1, ?_⟩
  rintro k ⟨H, hk⟩
  exact h2 k hk H
theorem impl_wordOk.j1_sq {F : (Exit → St → Prop) → St → Prop} {hv : List Tmp} {K : St → Prop} {Q : Exit → St → Prop} {σ : St} {r : Bool} {KK : Nat} {a1_0 : Int} {a1_2 : Int} {a1_3 : Int} {a1_4 : Int} {a1_5 : List ByteArray} {a1_6 : List S_impl_ClaimUse} {a1_7 : List ByteArray} {a1_8 : List ByteArray} {a1_9 : Int} {a1_10 : Bool}
    (h1 : F (fun e σ' => match e with | .normal => ∃ (y : Nat) (rn : List (Option Nat)), (impl_wordOk.j1 y a1_0 a1_2 a1_3 a1_4 a1_5 a1_6 a1_7 a1_8 a1_9 a1_10 = some r ∧ y < KK) ∧ Fits σ σ' [0] [] [] [] rn | e => Q e σ') σ)
    (h2 : ∀ (k : Nat), k < KK → impl_wordOk.j1 k a1_0 a1_2 a1_3 a1_4 a1_5 a1_6 a1_7 a1_8 a1_9 a1_10 = some r → headN σ hv [0] [] [] [] K) : Sq F hv K Q σ := by
  unfold Sq
  refine ⟨Nat, fun x => impl_wordOk.j1 x a1_0 a1_2 a1_3 a1_4 a1_5 a1_6 a1_7 a1_8 a1_9 a1_10 = some r ∧ x < KK, [0], fun x => [], fun x => [], fun x => [], h1, ?_⟩
  rintro k ⟨H, hk⟩
  exact h2 k hk H
theorem impl_wordOk.ac {k : Nat} {a0_0 : List ByteArray} {a0_1 : List S_impl_PlantFoe} {a0_2 : List S_impl_PlantPlace} {a0_3 : List S_impl_PlantValve} {a1_0 : Int} {a1_1 : ByteArray} {a1_2 : Int} {a1_3 : Int} {a1_4 : Int} {a1_5 : List ByteArray} {a1_6 : List S_impl_ClaimUse} {a1_7 : List ByteArray} {a1_8 : List ByteArray} {a1_9 : Int} {a1_10 : Bool} {r : Bool} (H : impl_wordOk.f k a0_0 a0_1 a0_2 a0_3 a1_0 a1_1 a1_2 a1_3 a1_4 a1_5 a1_6 a1_7 a1_8 a1_9 a1_10 = some r) : ACalls Try.prog G 142 [] [.agg [(sv_str a0_0), (sv_S_impl_PlantFoe a0_1), (sv_S_impl_PlantPlace a0_2), (sv_S_impl_PlantValve a0_3)], .agg [.int .i64 a1_0, .str a1_1, .int .i64 a1_2, .int .i64 a1_3, .int .i64 a1_4, (sv_str a1_5), (sv_S_impl_ClaimUse a1_6), (sv_str a1_7), (sv_str a1_8), .int .i64 a1_9, .bool a1_10]] [] (.bool r) := by
  refine acalls_of tok hP Try.func142 rfl (by kernel_rfl) [.tmp 4] rfl (by kernel_rfl) (Nat.le_of_ble_eq_true rfl) (.l .n (.l (.c .n (.l (.c .n .n) .n)) (.j (.c .n (.l (.c .n .n) .n)) (.j (.c .n (.l (.c .n .n) .n)) (.l (.c .n (.l (.c .n .n) .n)) .n))))) rfl ?_
  unfold impl_wordOk.f at H
  conv => whnf
  refine br_d H (fun c H => ?_) (fun c H => ?_)
  conv => whnf
  refine Br.t ft_ ?_
  conv => whnf
  refine Br.t ft_ ?_
  conv => whnf
  refine Br.t ft_ ?_
  conv => whnf
  refine Br.t rfl ?_
  conv => whnf
  refine Br.t rfl ?_
  conv => whnf
  refine Br.t rfl ?_
  conv => whnf
  refine Br.t rfl ?_
  conv => whnf
  refine Br.t rfl ?_
  conv => whnf
  refine Br.t rfl ?_
  conv => whnf
  refine Br.t rfl ?_
  conv => whnf
  refine Br.t rfl ?_
  conv => whnf
  refine Br.t rfl ?_
  conv => whnf
  refine Br.t rfl ?_
  conv => whnf
  refine Br.t rfl ?_
  conv => whnf
  refine Br.t rfl ?_
  conv => whnf
  refine Br.t rfl ?_
  conv => whnf
  refine Br.t rfl ?_
  conv => whnf
  refine Br.t rfl ?_
  conv => whnf
  refine Br.t rfl ?_
  conv => whnf
  refine cut_ 248 [(2, .bp 0 0), (3, .bp 8 0), (32, .bool true)] [(0, .box [(sv_str a0_0), (sv_S_impl_PlantFoe a0_1), (sv_S_impl_PlantPlace a0_2), (sv_S_impl_PlantValve a0_3)]), (8, .box [.int .i64 a1_0, .str a1_1, .int .i64 a1_2, .int .i64 a1_3, .int .i64 a1_4, (sv_str a1_5), (sv_S_impl_ClaimUse a1_6), (sv_str a1_7), (sv_str a1_8), .int .i64 a1_9, .bool a1_10])] rfl ⟨.inl rfl, ⟨.inl rfl, ⟨.inl rfl, trivial⟩⟩⟩ ⟨rfl, ⟨rfl, trivial⟩⟩ ?_
  conv => whnf
  refine Br.t rfl ?_
  conv => whnf
  refine cut_ 256 [(4, .bool false)] [] rfl ⟨.inl rfl, trivial⟩ trivial ?_
  conv => whnf
  injection H with H; subst H
  exact ret_fz [] (rtA_eq rfl)
  conv => whnf
  refine Br.f ff_ ?_
  conv => whnf
  refine Br.f ff_ ?_
  conv => whnf
  refine Br.f ff_ ?_
  conv => whnf
  refine br_d H (fun c H => ?_) (fun c H => ?_)
  conv => whnf
  refine Br.t ft_ ?_
  conv => whnf
  refine Br.t ft_ ?_
  conv => whnf
  refine Br.t ft_ ?_
  conv => whnf
  refine Br.t rfl ?_
  conv => whnf
  refine Br.t rfl ?_
  conv => whnf
  refine Br.t rfl ?_
  conv => whnf
  refine Br.t rfl ?_
  conv => whnf
  refine Br.t rfl ?_
  conv => whnf
  refine Br.t rfl ?_
  conv => whnf
  refine Br.t rfl ?_
  conv => whnf
  refine Br.t rfl ?_
  conv => whnf
  refine Br.t rfl ?_
  conv => whnf
  refine Br.t rfl ?_
  conv => whnf
  refine Br.t rfl ?_
  conv => whnf
  refine Br.t rfl ?_
  conv => whnf
  refine cut_ 248 [(2, .bp 0 0), (3, .bp 8 0), (32, .bool true)] [(0, .box [(sv_str a0_0), (sv_S_impl_PlantFoe a0_1), (sv_S_impl_PlantPlace a0_2), (sv_S_impl_PlantValve a0_3)]), (8, .box [.int .i64 a1_0, .str a1_1, .int .i64 a1_2, .int .i64 a1_3, .int .i64 a1_4, (sv_str a1_5), (sv_S_impl_ClaimUse a1_6), (sv_str a1_7), (sv_str a1_8), .int .i64 a1_9, .bool a1_10])] rfl ⟨.inl rfl, ⟨.inl rfl, ⟨.inl rfl, trivial⟩⟩⟩ ⟨rfl, ⟨rfl, trivial⟩⟩ ?_
  conv => whnf
  refine Br.t rfl ?_
  conv => whnf
  refine cut_ 256 [(4, .bool false)] [] rfl ⟨.inl rfl, trivial⟩ trivial ?_
  conv => whnf
  injection H with H; subst H
  exact ret_fz [] (rtA_eq rfl)
  conv => whnf
  refine Br.f ff_ ?_
  conv => whnf
  refine Br.f ff_ ?_
  conv => whnf
  refine Br.f ff_ ?_
  conv => whnf
  refine br_d H (fun c H => ?_) (fun c H => ?_)
  conv => whnf
  refine Br.t ft_ ?_
  conv => whnf
  refine Br.t ft_ ?_
  conv => whnf
  refine Br.t ft_ ?_
  conv => whnf
  refine Br.t rfl ?_
  conv => whnf
  refine Br.t rfl ?_
  conv => whnf
  refine Br.t rfl ?_
  conv => whnf
  refine Br.t rfl ?_
  conv => whnf
  refine Br.t rfl ?_
  conv => whnf
  refine Br.t rfl ?_
  conv => whnf
  refine Br.t rfl ?_
  conv => whnf
  refine Br.t rfl ?_
  conv => whnf
  refine cut_ 248 [(2, .bp 0 0), (3, .bp 8 0), (32, .bool true)] [(0, .box [(sv_str a0_0), (sv_S_impl_PlantFoe a0_1), (sv_S_impl_PlantPlace a0_2), (sv_S_impl_PlantValve a0_3)]), (8, .box [.int .i64 a1_0, .str a1_1, .int .i64 a1_2, .int .i64 a1_3, .int .i64 a1_4, (sv_str a1_5), (sv_S_impl_ClaimUse a1_6), (sv_str a1_7), (sv_str a1_8), .int .i64 a1_9, .bool a1_10])] rfl ⟨.inl rfl, ⟨.inl rfl, ⟨.inl rfl, trivial⟩⟩⟩ ⟨rfl, ⟨rfl, trivial⟩⟩ ?_
  conv => whnf
  refine Br.t rfl ?_
  conv => whnf
  refine cut_ 256 [(4, .bool false)] [] rfl ⟨.inl rfl, trivial⟩ trivial ?_
  conv => whnf
  injection H with H; subst H
  exact ret_fz [] (rtA_eq rfl)
  conv => whnf
  refine Br.f ff_ ?_
  conv => whnf
  refine Br.f ff_ ?_
  conv => whnf
  refine Br.f ff_ ?_
  conv => whnf
  refine br_d H (fun c H => ?_) (fun c H => ?_)
  conv => whnf
  refine Br.t ft_ ?_
  conv => whnf
  refine Br.t ft_ ?_
  conv => whnf
  refine Br.t ft_ ?_
  conv => whnf
  refine Br.t rfl ?_
  conv => whnf
  refine Br.t rfl ?_
  conv => whnf
  refine Br.t rfl ?_
  conv => whnf
  refine Br.t rfl ?_
  conv => whnf
  refine cut_ 248 [(2, .bp 0 0), (3, .bp 8 0), (32, .bool true)] [(0, .box [(sv_str a0_0), (sv_S_impl_PlantFoe a0_1), (sv_S_impl_PlantPlace a0_2), (sv_S_impl_PlantValve a0_3)]), (8, .box [.int .i64 a1_0, .str a1_1, .int .i64 a1_2, .int .i64 a1_3, .int .i64 a1_4, (sv_str a1_5), (sv_S_impl_ClaimUse a1_6), (sv_str a1_7), (sv_str a1_8), .int .i64 a1_9, .bool a1_10])] rfl ⟨.inl rfl, ⟨.inl rfl, ⟨.inl rfl, trivial⟩⟩⟩ ⟨rfl, ⟨rfl, trivial⟩⟩ ?_
  conv => whnf
  refine Br.t rfl ?_
  conv => whnf
  refine cut_ 256 [(4, .bool false)] [] rfl ⟨.inl rfl, trivial⟩ trivial ?_
  conv => whnf
  injection H with H; subst H
  exact ret_fz [] (rtA_eq rfl)
  conv => whnf
  refine Br.f ff_ ?_
  conv => whnf
  refine Br.f ff_ ?_
  conv => whnf
  refine Br.f ff_ ?_
  conv => whnf
  refine br_d H (fun c H => ?_) (fun c H => ?_)
  conv => whnf
  refine Br.t ft_ ?_
  conv => whnf
  refine Br.t ft_ ?_
  conv => whnf
  refine Br.t ft_ ?_
  conv => whnf
  refine cut_ 248 [(2, .bp 0 0), (3, .bp 8 0), (32, .bool true)] [(0, .box [(sv_str a0_0), (sv_S_impl_PlantFoe a0_1), (sv_S_impl_PlantPlace a0_2), (sv_S_impl_PlantValve a0_3)]), (8, .box [.int .i64 a1_0, .str a1_1, .int .i64 a1_2, .int .i64 a1_3, .int .i64 a1_4, (sv_str a1_5), (sv_S_impl_ClaimUse a1_6), (sv_str a1_7), (sv_str a1_8), .int .i64 a1_9, .bool a1_10])] rfl ⟨.inl rfl, ⟨.inl rfl, ⟨.inl rfl, trivial⟩⟩⟩ ⟨rfl, ⟨rfl, trivial⟩⟩ ?_
  conv => whnf
  refine Br.t rfl ?_
  conv => whnf
  refine cut_ 256 [(4, .bool false)] [] rfl ⟨.inl rfl, trivial⟩ trivial ?_
  conv => whnf
  injection H with H; subst H
  exact ret_fz [] (rtA_eq rfl)
  conv => whnf
  refine Br.f ff_ ?_
  conv => whnf
  refine Br.f ff_ ?_
  conv => whnf
  refine Br.f ff_ ?_
  conv => whnf
  refine cut_ 248 [(2, .bp 0 0), (3, .bp 8 0), (32, .bool (decide (a1_9 > 1000)))] [(0, .box [(sv_str a0_0), (sv_S_impl_PlantFoe a0_1), (sv_S_impl_PlantPlace a0_2), (sv_S_impl_PlantValve a0_3)]), (8, .box [.int .i64 a1_0, .str a1_1, .int .i64 a1_2, .int .i64 a1_3, .int .i64 a1_4, (sv_str a1_5), (sv_S_impl_ClaimUse a1_6), (sv_str a1_7), (sv_str a1_8), .int .i64 a1_9, .bool a1_10])] rfl ⟨.inl rfl, ⟨.inl rfl, ⟨.inl rfl, trivial⟩⟩⟩ ⟨rfl, ⟨rfl, trivial⟩⟩ ?_
  conv => whnf
  refine br_d H (fun c H => ?_) (fun c H => ?_)
  conv => whnf
  refine cut_ 256 [(4, .bool false)] [] rfl ⟨.inl rfl, trivial⟩ trivial ?_
  conv => whnf
  injection H with H; subst H
  exact ret_fz [] (rtA_eq rfl)
  conv => whnf
  refine impl_wordOk.j1_sq (a1_0 := a1_0) (a1_2 := a1_2) (a1_3 := a1_3) (a1_4 := a1_4) (a1_5 := a1_5) (a1_6 := a1_6) (a1_7 := a1_7) (a1_8 := a1_8) (a1_9 := a1_9) (a1_10 := a1_10) (KK := k + 1) (r := r) ?_ ?_
  conv => whnf
  refine br_d H (fun c H => ?_) (fun c H => ?_)
  conv => whnf
  refine Br.t ft_ ?_
  conv => whnf
  refine Br.t ft_ ?_
  conv => whnf
  refine Br.t ft_ ?_
  conv => whnf
  refine br_nd H (fun c H => ?_) (fun c H => ?_)
  conv => whnf
  refine Br.f ff_ ?_
  conv => whnf
  refine Br.f ff_ ?_
  conv => whnf
  refine Br.f ff_ ?_
  conv => whnf
  refine br_d H (fun c H => ?_) (fun c H => ?_)
  conv => whnf
  refine Br.t ft_ ?_
  conv => whnf
  revert H; refine bind_elim (fun t1221 A H => ?_)
  refine call_mk (impl_stations.ac A) (avAL_cons (avA_agg (avL_cons (av_shut' rfl) (avL_cons (av_shut' rfl) (avL_cons (av_shut' rfl) (avL_cons (av_shut' rfl) (avL_nil)))))) (avAL_nil)) (Or.inl rfl) rfl rfl (Nat.le_of_ble_eq_true rfl) ?_
  conv => whnf
  refine Br.t ft_ ?_
  conv => whnf
  refine Br.t ft_ ?_
  conv => whnf
  refine Br.t ft_ ?_
  conv => whnf
  revert H; refine bind_elim (fun t1222 A H => ?_)
  refine call_mk (impl_has.ac A) (avAL_cons (avA_shut' rfl) (avAL_cons (avA_shut' rfl) (avAL_nil))) (Or.inl rfl) rfl rfl (Nat.le_of_ble_eq_true rfl) ?_
  conv => whnf
  refine Br.t ft_ ?_
  conv => whnf
  refine Br.f ff_ ?_
  conv => whnf
  refine Br.t ft_ ?_
  conv => whnf
  refine Br.f ff_ ?_
  conv => whnf
  refine cut_ 416 [(3, .bp 8 0), (53, .bool (!t1222))] [(8, .box [.int .i64 a1_0, .str a1_1, .int .i64 a1_2, .int .i64 a1_3, .int .i64 a1_4, (sv_str a1_5), (sv_S_impl_ClaimUse a1_6), (sv_str a1_7), (sv_str a1_8), .int .i64 a1_9, .bool a1_10])] rfl ⟨.inl rfl, ⟨.inl rfl, trivial⟩⟩ ⟨rfl, trivial⟩ ?_
  conv => whnf
  refine br_nt H (fun c H => ?_) (fun c H => ?_)
  conv => whnf
  exact ⟨k, [], ⟨H, lt_⟩, (fits_of trivial trivial fi_ trivial rfl)⟩
  conv => whnf
  refine cut_ 424 [(4, .bool false)] [] rfl ⟨.inl rfl, trivial⟩ trivial ?_
  conv => whnf
  injection H with H; subst H
  exact ret_fz [] (rtA_eq rfl)
  conv => whnf
  refine Br.f ff_ ?_
  conv => whnf
  refine Br.f ff_ ?_
  conv => whnf
  refine Br.f ff_ ?_
  conv => whnf
  refine Br.f ff_ ?_
  conv => whnf
  refine Br.f ff_ ?_
  conv => whnf
  refine Br.f ff_ ?_
  conv => whnf
  refine Br.f ff_ ?_
  conv => whnf
  refine Br.f ff_ ?_
  conv => whnf
  refine cut_ 416 [(3, .bp 8 0), (53, .bool false)] [(8, .box [.int .i64 a1_0, .str a1_1, .int .i64 a1_2, .int .i64 a1_3, .int .i64 a1_4, (sv_str a1_5), (sv_S_impl_ClaimUse a1_6), (sv_str a1_7), (sv_str a1_8), .int .i64 a1_9, .bool a1_10])] rfl ⟨.inl rfl, ⟨.inl rfl, trivial⟩⟩ ⟨rfl, trivial⟩ ?_
  conv => whnf
  refine Br.f rfl ?_
  conv => whnf
  exact ⟨k, [], ⟨H, lt_⟩, (fits_of trivial trivial fi_ trivial rfl)⟩
  conv => whnf
  refine Br.t ft_ ?_
  conv => whnf
  refine Br.t ft_ ?_
  conv => whnf
  refine Br.t ft_ ?_
  conv => whnf
  refine Br.t ft_ ?_
  conv => whnf
  refine Br.t ft_ ?_
  conv => whnf
  refine cut_ 416 [(3, .bp 8 0), (53, .bool true)] [(8, .box [.int .i64 a1_0, .str a1_1, .int .i64 a1_2, .int .i64 a1_3, .int .i64 a1_4, (sv_str a1_5), (sv_S_impl_ClaimUse a1_6), (sv_str a1_7), (sv_str a1_8), .int .i64 a1_9, .bool a1_10])] rfl ⟨.inl rfl, ⟨.inl rfl, trivial⟩⟩ ⟨rfl, trivial⟩ ?_
  conv => whnf
  refine Br.t rfl ?_
  conv => whnf
  refine cut_ 424 [(4, .bool false)] [] rfl ⟨.inl rfl, trivial⟩ trivial ?_
  conv => whnf
  injection H with H; subst H
  exact ret_fz [] (rtA_eq rfl)
  conv => whnf
  refine Br.f ff_ ?_
  conv => whnf
  refine Br.f ff_ ?_
  conv => whnf
  refine Br.f ff_ ?_
  conv => whnf
  refine Br.f rfl ?_
  conv => whnf
  refine Br.f rfl ?_
  conv => whnf
  refine Br.f rfl ?_
  conv => whnf
  refine Br.f rfl ?_
  conv => whnf
  refine br_d H (fun c H => ?_) (fun c H => ?_)
  conv => whnf
  refine Br.t ft_ ?_
  conv => whnf
  revert H; refine bind_elim (fun t1223 A H => ?_)
  refine call_mk (impl_stations.ac A) (avAL_cons (avA_agg (avL_cons (av_shut' rfl) (avL_cons (av_shut' rfl) (avL_cons (av_shut' rfl) (avL_cons (av_shut' rfl) (avL_nil)))))) (avAL_nil)) (Or.inl rfl) rfl rfl (Nat.le_of_ble_eq_true rfl) ?_
  conv => whnf
  refine Br.t ft_ ?_
  conv => whnf
  refine Br.t ft_ ?_
  conv => whnf
  refine Br.t ft_ ?_
  conv => whnf
  revert H; refine bind_elim (fun t1224 A H => ?_)
  refine call_mk (impl_has.ac A) (avAL_cons (avA_shut' rfl) (avAL_cons (avA_shut' rfl) (avAL_nil))) (Or.inl rfl) rfl rfl (Nat.le_of_ble_eq_true rfl) ?_
  conv => whnf
  refine Br.t ft_ ?_
  conv => whnf
  refine Br.f rfl ?_
  conv => whnf
  refine Br.t ft_ ?_
  conv => whnf
  refine Br.f rfl ?_
  conv => whnf
  refine cut_ 416 [(3, .bp 8 0), (53, .bool (!t1224))] [(8, .box [.int .i64 a1_0, .str a1_1, .int .i64 a1_2, .int .i64 a1_3, .int .i64 a1_4, (sv_str a1_5), (sv_S_impl_ClaimUse a1_6), (sv_str a1_7), (sv_str a1_8), .int .i64 a1_9, .bool a1_10])] rfl ⟨.inl rfl, ⟨.inl rfl, trivial⟩⟩ ⟨rfl, trivial⟩ ?_
  conv => whnf
  refine br_nt H (fun c H => ?_) (fun c H => ?_)
  conv => whnf
  exact ⟨k, [], ⟨H, lt_⟩, (fits_of trivial trivial fi_ trivial rfl)⟩
  conv => whnf
  refine cut_ 424 [(4, .bool false)] [] rfl ⟨.inl rfl, trivial⟩ trivial ?_
  conv => whnf
  injection H with H; subst H
  exact ret_fz [] (rtA_eq rfl)
  conv => whnf
  refine Br.f ff_ ?_
  conv => whnf
  refine Br.f ff_ ?_
  conv => whnf
  refine Br.f ff_ ?_
  conv => whnf
  refine Br.f ff_ ?_
  conv => whnf
  refine Br.f ff_ ?_
  conv => whnf
  refine Br.f rfl ?_
  conv => whnf
  refine Br.f ff_ ?_
  conv => whnf
  refine Br.f rfl ?_
  conv => whnf
  refine cut_ 416 [(3, .bp 8 0), (53, .bool false)] [(8, .box [.int .i64 a1_0, .str a1_1, .int .i64 a1_2, .int .i64 a1_3, .int .i64 a1_4, (sv_str a1_5), (sv_S_impl_ClaimUse a1_6), (sv_str a1_7), (sv_str a1_8), .int .i64 a1_9, .bool a1_10])] rfl ⟨.inl rfl, ⟨.inl rfl, trivial⟩⟩ ⟨rfl, trivial⟩ ?_
  conv => whnf
  refine Br.f rfl ?_
  conv => whnf
  exact ⟨k, [], ⟨H, lt_⟩, (fits_of trivial trivial fi_ trivial rfl)⟩
  intro k hk H; rcases k with _ | k; exact none_elim H; rw [impl_wordOk.j1] at H; conv => whnf
  refine impl_wordOk.j0_sq (a1_0 := a1_0) (a1_2 := a1_2) (a1_3 := a1_3) (a1_4 := a1_4) (a1_5 := a1_5) (a1_6 := a1_6) (a1_7 := a1_7) (a1_8 := a1_8) (KK := k + 1) (r := r) ?_ ?_
  conv => whnf
  refine br_nd H (fun c H => ?_) (fun c H => ?_)
  conv => whnf
  refine Br.f ff_ ?_
  conv => whnf
  refine Br.f ff_ ?_
  conv => whnf
  refine Br.f ff_ ?_
  conv => whnf
  refine Br.f rfl ?_
  conv => whnf
  refine Br.f rfl ?_
  conv => whnf
  refine Br.f rfl ?_
  conv => whnf
  refine Br.f rfl ?_
  conv => whnf
  refine Br.f rfl ?_
  conv => whnf
  refine Br.f rfl ?_
  conv => whnf
  refine Br.f rfl ?_
  conv => whnf
  refine br_t H (fun c H => ?_) (fun c H => ?_)
  conv => whnf
  refine Br.t ft_ ?_
  conv => whnf
  refine Br.t ft_ ?_
  conv => whnf
  refine Br.f rfl ?_
  conv => whnf
  refine Br.t ft_ ?_
  conv => whnf
  refine Br.f rfl ?_
  conv => whnf
  refine cut_ 424 [(3, .bp 8 0), (75, .bool (!(decide (a1_0 = 7))))] [(8, .box [.int .i64 a1_0, .str a1_1, .int .i64 a1_2, .int .i64 a1_3, .int .i64 a1_4, (sv_str a1_5), (sv_S_impl_ClaimUse a1_6), (sv_str a1_7), (sv_str a1_8), .int .i64 a1_9, .bool a1_10])] rfl ⟨.inl rfl, ⟨.inl rfl, trivial⟩⟩ ⟨rfl, trivial⟩ ?_
  conv => whnf
  refine br_nd H (fun c H => ?_) (fun c H => ?_)
  conv => whnf
  exact ⟨k, [], ⟨H, lt_⟩, (fits_of trivial trivial fi_ trivial rfl)⟩
  conv => whnf
  refine cut_ 432 [(4, .bool false)] [] rfl ⟨.inl rfl, trivial⟩ trivial ?_
  conv => whnf
  injection H with H; subst H
  exact ret_fz [] (rtA_eq rfl)
  conv => whnf
  refine Br.f ff_ ?_
  conv => whnf
  refine Br.f ff_ ?_
  conv => whnf
  refine Br.f rfl ?_
  conv => whnf
  refine Br.f ff_ ?_
  conv => whnf
  refine Br.f rfl ?_
  conv => whnf
  refine cut_ 424 [(3, .bp 8 0), (75, .bool false)] [(8, .box [.int .i64 a1_0, .str a1_1, .int .i64 a1_2, .int .i64 a1_3, .int .i64 a1_4, (sv_str a1_5), (sv_S_impl_ClaimUse a1_6), (sv_str a1_7), (sv_str a1_8), .int .i64 a1_9, .bool a1_10])] rfl ⟨.inl rfl, ⟨.inl rfl, trivial⟩⟩ ⟨rfl, trivial⟩ ?_
  conv => whnf
  refine Br.f rfl ?_
  conv => whnf
  exact ⟨k, [], ⟨H, lt_⟩, (fits_of trivial trivial fi_ trivial rfl)⟩
  conv => whnf
  refine Br.t ft_ ?_
  conv => whnf
  refine Br.t ft_ ?_
  conv => whnf
  refine Br.t ft_ ?_
  conv => whnf
  refine br_nd H (fun c H => ?_) (fun c H => ?_)
  conv => whnf
  refine Br.f ff_ ?_
  conv => whnf
  refine Br.f ff_ ?_
  conv => whnf
  refine Br.f ff_ ?_
  conv => whnf
  refine Br.f rfl ?_
  conv => whnf
  refine Br.f rfl ?_
  conv => whnf
  refine Br.f rfl ?_
  conv => whnf
  refine br_t H (fun c H => ?_) (fun c H => ?_)
  conv => whnf
  refine Br.t ft_ ?_
  conv => whnf
  refine Br.t ft_ ?_
  conv => whnf
  refine Br.f rfl ?_
  conv => whnf
  refine Br.t ft_ ?_
  conv => whnf
  refine Br.f rfl ?_
  conv => whnf
  refine cut_ 424 [(3, .bp 8 0), (75, .bool (!(decide (a1_0 = 7))))] [(8, .box [.int .i64 a1_0, .str a1_1, .int .i64 a1_2, .int .i64 a1_3, .int .i64 a1_4, (sv_str a1_5), (sv_S_impl_ClaimUse a1_6), (sv_str a1_7), (sv_str a1_8), .int .i64 a1_9, .bool a1_10])] rfl ⟨.inl rfl, ⟨.inl rfl, trivial⟩⟩ ⟨rfl, trivial⟩ ?_
  conv => whnf
  refine br_nd H (fun c H => ?_) (fun c H => ?_)
  conv => whnf
  exact ⟨k, [], ⟨H, lt_⟩, (fits_of trivial trivial fi_ trivial rfl)⟩
  conv => whnf
  refine cut_ 432 [(4, .bool false)] [] rfl ⟨.inl rfl, trivial⟩ trivial ?_
  conv => whnf
  injection H with H; subst H
  exact ret_fz [] (rtA_eq rfl)
  conv => whnf
  refine Br.f ff_ ?_
  conv => whnf
  refine Br.f ff_ ?_
  conv => whnf
  refine Br.f rfl ?_
  conv => whnf
  refine Br.f ff_ ?_
  conv => whnf
  refine Br.f rfl ?_
  conv => whnf
  refine cut_ 424 [(3, .bp 8 0), (75, .bool false)] [(8, .box [.int .i64 a1_0, .str a1_1, .int .i64 a1_2, .int .i64 a1_3, .int .i64 a1_4, (sv_str a1_5), (sv_S_impl_ClaimUse a1_6), (sv_str a1_7), (sv_str a1_8), .int .i64 a1_9, .bool a1_10])] rfl ⟨.inl rfl, ⟨.inl rfl, trivial⟩⟩ ⟨rfl, trivial⟩ ?_
  conv => whnf
  refine Br.f rfl ?_
  conv => whnf
  exact ⟨k, [], ⟨H, lt_⟩, (fits_of trivial trivial fi_ trivial rfl)⟩
  conv => whnf
  refine Br.t ft_ ?_
  conv => whnf
  refine Br.t ft_ ?_
  conv => whnf
  refine Br.t ft_ ?_
  conv => whnf
  refine br_nd H (fun c H => ?_) (fun c H => ?_)
  conv => whnf
  refine Br.f ff_ ?_
  conv => whnf
  refine Br.f ff_ ?_
  conv => whnf
  refine br_t H (fun c H => ?_) (fun c H => ?_)
  conv => whnf
  refine Br.t ft_ ?_
  conv => whnf
  refine Br.t ft_ ?_
  conv => whnf
  refine Br.f ff_ ?_
  conv => whnf
  refine Br.t ft_ ?_
  conv => whnf
  refine Br.f ff_ ?_
  conv => whnf
  refine cut_ 424 [(3, .bp 8 0), (75, .bool (!(decide (a1_0 = 7))))] [(8, .box [.int .i64 a1_0, .str a1_1, .int .i64 a1_2, .int .i64 a1_3, .int .i64 a1_4, (sv_str a1_5), (sv_S_impl_ClaimUse a1_6), (sv_str a1_7), (sv_str a1_8), .int .i64 a1_9, .bool a1_10])] rfl ⟨.inl rfl, ⟨.inl rfl, trivial⟩⟩ ⟨rfl, trivial⟩ ?_
  conv => whnf
  refine Br.f ff_ ?_
  conv => whnf
  exact ⟨k, [], ⟨H, lt_⟩, (fits_of trivial trivial fi_ trivial rfl)⟩
  conv => whnf
  refine Br.f ff_ ?_
  conv => whnf
  refine Br.f ff_ ?_
  conv => whnf
  refine Br.f ff_ ?_
  conv => whnf
  refine Br.f ff_ ?_
  conv => whnf
  refine Br.f ff_ ?_
  conv => whnf
  refine cut_ 424 [(3, .bp 8 0), (75, .bool false)] [(8, .box [.int .i64 a1_0, .str a1_1, .int .i64 a1_2, .int .i64 a1_3, .int .i64 a1_4, (sv_str a1_5), (sv_S_impl_ClaimUse a1_6), (sv_str a1_7), (sv_str a1_8), .int .i64 a1_9, .bool a1_10])] rfl ⟨.inl rfl, ⟨.inl rfl, trivial⟩⟩ ⟨rfl, trivial⟩ ?_
  conv => whnf
  refine Br.f rfl ?_
  conv => whnf
  exact ⟨k, [], ⟨H, lt_⟩, (fits_of trivial trivial fi_ trivial rfl)⟩
  conv => whnf
  refine Br.t ft_ ?_
  conv => whnf
  refine Br.t ft_ ?_
  conv => whnf
  refine Br.t ft_ ?_
  conv => whnf
  refine Br.t ft_ ?_
  conv => whnf
  refine cut_ 424 [(3, .bp 8 0), (75, .bool true)] [(8, .box [.int .i64 a1_0, .str a1_1, .int .i64 a1_2, .int .i64 a1_3, .int .i64 a1_4, (sv_str a1_5), (sv_S_impl_ClaimUse a1_6), (sv_str a1_7), (sv_str a1_8), .int .i64 a1_9, .bool a1_10])] rfl ⟨.inl rfl, ⟨.inl rfl, trivial⟩⟩ ⟨rfl, trivial⟩ ?_
  conv => whnf
  refine Br.t rfl ?_
  conv => whnf
  refine cut_ 432 [(4, .bool false)] [] rfl ⟨.inl rfl, trivial⟩ trivial ?_
  conv => whnf
  injection H with H; subst H
  exact ret_fz [] (rtA_eq rfl)
  intro k hk H; rcases k with _ | k; exact none_elim H; rw [impl_wordOk.j0] at H; conv => whnf
  refine cut_ 272 [(3, .bp 8 0), (78, .bool (decide (a1_0 = 1)))] [(8, .box [.int .i64 a1_0, .str a1_1, .int .i64 a1_2, .int .i64 a1_3, .int .i64 a1_4, (sv_str a1_5), (sv_S_impl_ClaimUse a1_6), (sv_str a1_7), (sv_str a1_8), .int .i64 a1_9, .bool a1_10])] rfl ⟨.inl rfl, ⟨.inl rfl, trivial⟩⟩ ⟨rfl, trivial⟩ ?_
  conv => whnf
  refine br_d H (fun c H => ?_) (fun c H => ?_)
  conv => whnf
  revert H; refine bind_elim (fun t1219 A H => ?_)
  refine call_mk (impl_ClaimWantOk.ac A) (avAL_cons (avA_agg (avL_cons (av_shut' rfl) (avL_cons (av_shut' rfl) (avL_cons (av_shut' rfl) (avL_cons (av_shut' rfl) (avL_cons (av_shut' rfl) (avL_cons (av_shut' rfl) (avL_nil)))))))) (avAL_nil)) (Or.inl rfl) rfl rfl (Nat.le_of_ble_eq_true rfl) ?_
  conv => whnf
  refine br_t H (fun c H => ?_) (fun c H => ?_)
  conv => whnf
  refine Br.t ft_ ?_
  conv => whnf
  refine Br.t ft_ ?_
  conv => whnf
  refine Br.t ft_ ?_
  conv => whnf
  refine Br.t ft_ ?_
  conv => whnf
  refine Br.t ft_ ?_
  conv => whnf
  refine Br.t ft_ ?_
  conv => whnf
  refine cut_ 368 [(4, .bool (decide (a1_3 = a1_2)))] [] rfl ⟨.inl rfl, trivial⟩ trivial ?_
  conv => whnf
  injection H with H; subst H
  exact ret_fz [] (rtA_eq rfl)
  conv => whnf
  refine Br.f ff_ ?_
  conv => whnf
  refine Br.f ff_ ?_
  conv => whnf
  refine Br.f ff_ ?_
  conv => whnf
  refine Br.f ff_ ?_
  conv => whnf
  refine Br.f ff_ ?_
  conv => whnf
  refine Br.f ff_ ?_
  conv => whnf
  refine cut_ 368 [(4, .bool false)] [] rfl ⟨.inl rfl, trivial⟩ trivial ?_
  conv => whnf
  injection H with H; subst H
  exact ret_fz [] (rtA_eq rfl)
  conv => whnf
  revert H; refine bind_elim (fun t1220 A H => ?_)
  refine call_mk (impl_ClaimWant_is.ac A) (avAL_cons (avA_agg (avL_cons (av_shut' rfl) (avL_cons (av_shut' rfl) (avL_cons (av_shut' rfl) (avL_cons (av_shut' rfl) (avL_cons (av_shut' rfl) (avL_cons (av_shut' rfl) (avL_nil)))))))) (avAL_cons (avA_agg (avL_cons (av_shut' rfl) (avL_cons (av_shut' rfl) (avL_cons (av_nil) (avL_cons (av_nil) (avL_cons (av_nil) (avL_cons (av_nil) (avL_nil)))))))) (avAL_nil))) (Or.inl rfl) rfl rfl (Nat.le_of_ble_eq_true rfl) ?_
  conv => whnf
  injection H with H; subst H
  exact ret_fz [] (rtA_eq rfl)
theorem impl_CtlWordOk.ac {k : Nat} {a0_0 : List ByteArray} {a0_1 : List S_impl_PlantFoe} {a0_2 : List S_impl_PlantPlace} {a0_3 : List S_impl_PlantValve} {a1_0 : Int} {a1_1 : ByteArray} {a1_2 : Int} {a1_3 : Int} {a1_4 : Int} {a1_5 : List ByteArray} {a1_6 : List S_impl_ClaimUse} {a1_7 : List ByteArray} {a1_8 : List ByteArray} {a1_9 : Int} {a1_10 : Bool} {r : Bool} (H : impl_CtlWordOk.f k a0_0 a0_1 a0_2 a0_3 a1_0 a1_1 a1_2 a1_3 a1_4 a1_5 a1_6 a1_7 a1_8 a1_9 a1_10 = some r) : ACalls Try.prog G 53 [] [.agg [(sv_str a0_0), (sv_S_impl_PlantFoe a0_1), (sv_S_impl_PlantPlace a0_2), (sv_S_impl_PlantValve a0_3)], .agg [.int .i64 a1_0, .str a1_1, .int .i64 a1_2, .int .i64 a1_3, .int .i64 a1_4, (sv_str a1_5), (sv_S_impl_ClaimUse a1_6), (sv_str a1_7), (sv_str a1_8), .int .i64 a1_9, .bool a1_10]] [] (.bool r) := by
  refine acalls_of tok hP Try.func53 rfl (by kernel_rfl) [.tmp 4] rfl (by kernel_rfl) (Nat.le_of_ble_eq_true rfl) (.l .n (.c .n .n)) rfl ?_
  unfold impl_CtlWordOk.f at H
  conv => whnf
  revert H; refine bind_elim (fun t1227 A H => ?_)
  refine call_mk (impl_PlantValid.ac A) (avAL_cons (avA_agg (avL_cons (av_shut' rfl) (avL_cons (av_shut' rfl) (avL_cons (av_shut' rfl) (avL_cons (av_shut' rfl) (avL_nil)))))) (avAL_nil)) (Or.inl rfl) rfl rfl (Nat.le_of_ble_eq_true rfl) ?_
  conv => whnf
  refine br_t H (fun c H => ?_) (fun c H => ?_)
  conv => whnf
  refine Br.t ft_ ?_
  conv => whnf
  refine Br.t ft_ ?_
  conv => whnf
  revert H; refine bind_elim (fun t1228 A H => ?_)
  refine call_mk (impl_wordOk.ac A) (avAL_cons (avA_agg (avL_cons (av_shut' rfl) (avL_cons (av_shut' rfl) (avL_cons (av_shut' rfl) (avL_cons (av_shut' rfl) (avL_nil)))))) (avAL_cons (avA_agg (avL_cons (av_shut' rfl) (avL_cons (av_shut' rfl) (avL_cons (av_shut' rfl) (avL_cons (av_shut' rfl) (avL_cons (av_shut' rfl) (avL_cons (av_shut' rfl) (avL_cons (av_shut' rfl) (avL_cons (av_shut' rfl) (avL_cons (av_shut' rfl) (avL_cons (av_shut' rfl) (avL_cons (av_shut' rfl) (avL_nil))))))))))))) (avAL_nil))) (Or.inl rfl) rfl rfl (Nat.le_of_ble_eq_true rfl) ?_
  conv => whnf
  refine Br.t ft_ ?_
  conv => whnf
  refine cut_ 88 [(4, .bool t1228)] [] rfl ⟨.inl rfl, trivial⟩ trivial ?_
  conv => whnf
  injection H with H; subst H
  exact ret_fz [] (rtA_eq rfl)
  conv => whnf
  refine Br.f ff_ ?_
  conv => whnf
  refine Br.f ff_ ?_
  conv => whnf
  refine Br.f ff_ ?_
  conv => whnf
  refine cut_ 88 [(4, .bool false)] [] rfl ⟨.inl rfl, trivial⟩ trivial ?_
  conv => whnf
  injection H with H; subst H
  exact ret_fz [] (rtA_eq rfl)
theorem laws_eqStringS.l0_lp {F : (Exit → St → Prop) → St → Prop} {hv : List Tmp} {Q : Exit → St → Prop} {σ : St} {r : Bool} {k : Nat} {l0 : List ByteArray} {l1 : List ByteArray} {x5 : Int} (H : laws_eqStringS.l0 k l0 l1 x5 = some r) (rn : List (Option Nat)) (h1 : Fits σ σ [] [(5, .int .i64 x5)] [] [] rn)
    (h2 : ∀ (k0 : Nat) (x5 : Int), k0 < k + 1 → laws_eqStringS.l0 k0 l0 l1 x5 = some r → headN σ hv [] [(5, .int .i64 x5)] [] [] (F (fun e σ' => match e with | .normal => ∃ (y : Nat × Int) (rn : List (Option Nat)), (laws_eqStringS.l0 y.1 l0 l1 y.2 = some r ∧ y.1 < k + 1) ∧ y.1 < k0 ∧ Fits σ σ' [] [(5, .int .i64 y.2)] [] [] rn | e => Q e σ'))) : Lp F hv Q σ := by
  unfold Lp
  refine ⟨Nat × Int, fun x => laws_eqStringS.l0 x.1 l0 l1 x.2 = some r ∧ x.1 < k + 1, fun x => x.1, [], fun x => [(5, .int .i64 x.2)], fun x => [], fun x => [], ⟨(k, x5), rn, ⟨H, Nat.lt_succ_self _⟩, h1⟩, ?_⟩
  rintro ⟨k, x5⟩ ⟨H, hk⟩
  exact h2 k x5 hk H
theorem laws_eqStringS.ac {k : Nat} {l0 : List ByteArray} {l1 : List ByteArray} {r : Bool} (H : laws_eqStringS.f k l0 l1 = some r) : ACalls Try.prog G 24 [] [(sv_str l0), (sv_str l1)] [] (.bool r) := by
  refine acalls_of tok hP Try.func24 rfl (by kernel_rfl) [.tmp 4] rfl (by kernel_rfl) (Nat.le_of_ble_eq_true rfl) (.l .n (.l .n (.l (.l .n (.l (.c .n .n) (.l (.l .n (.l (.c .n .n) .n)) .n))) .n))) rfl ?_
  unfold laws_eqStringS.f at H
  conv => whnf
  refine br_nd H (fun c H => ?_) (fun c H => ?_)
  conv => whnf
  refine laws_eqStringS.l0_lp (l0 := l0) (l1 := l1) (k := k) H [] (fits_of ⟨.inl ⟨rfl, rfl⟩, trivial⟩ trivial fi_ trivial rfl) ?_
  intro k x5 hk H; rcases k with _ | k; exact none_elim H; rw [laws_eqStringS.l0] at H; conv => whnf
  refine cut_ 88 [(0, (sv_str l0)), (1, (sv_str l1)), (5, .int .i64 x5), (14, .bool (decide (x5 < (l0.length : Int))))] [] rfl ⟨.inl rfl, ⟨.inl rfl, ⟨.inl rfl, ⟨.inl rfl, trivial⟩⟩⟩⟩ trivial ?_
  conv => whnf
  refine br_d H (fun c H => ?_) (fun c H => ?_)
  conv => whnf
  refine nd_ H (fun c H => ?_)
  conv => whnf
  refine Nd.mk nf_ ?_
  conv => whnf
  refine El.mk (rdm_en_str _ _ nf_ nf_) ?_
  conv => whnf
  refine Nd.mk nf_ ?_
  conv => whnf
  refine nd_ H (fun c H => ?_)
  conv => whnf
  refine El.mk (rdm_en_str _ _ nf_ nf_) ?_
  conv => whnf
  refine br_nd H (fun c H => ?_) (fun c H => ?_)
  conv => whnf
  exact ⟨(k, wrap64 (x5 + 1)), [], ⟨H, lt_⟩, lt_, (fits_of ⟨.inl ⟨rfl, rfl⟩, trivial⟩ trivial fi_ trivial rfl)⟩
  conv => whnf
  refine cut_ 168 [(4, .bool false)] [] rfl ⟨.inl rfl, trivial⟩ trivial ?_
  conv => whnf
  injection H with H; subst H
  exact ret_fz [] (rtA_eq rfl)
  conv => whnf
  injection H with H; subst H
  exact ret_fz [] (rtA_eq rfl)
  conv => whnf
  injection H with H; subst H
  exact ret_fz [] (rtA_eq rfl)
theorem laws_eqPlantFoe.ac {a0_0 : ByteArray} {a0_1 : ByteArray} {a1_0 : ByteArray} {a1_1 : ByteArray} {r : Bool} (H : laws_eqPlantFoe.f a0_0 a0_1 a1_0 a1_1 = some r) : ACalls Try.prog G 195 [] [.agg [.str a0_0, .str a0_1], .agg [.str a1_0, .str a1_1]] [] (.bool r) := by
  refine acalls_of tok hP Try.func195 rfl (by kernel_rfl) [.tmp 4] rfl (by kernel_rfl) (Nat.le_of_ble_eq_true rfl) (.l .n (.l .n (.l (.c .n .n) .n))) rfl ?_
  unfold laws_eqPlantFoe.f at H
  conv => whnf
  refine br_nd H (fun c H => ?_) (fun c H => ?_)
  conv => whnf
  refine cut_ 104 [(14, .bool (!(decide (a0_1.toList = a1_1.toList))))] [] rfl ⟨.inl rfl, trivial⟩ trivial ?_
  conv => whnf
  refine br_nd H (fun c H => ?_) (fun c H => ?_)
  conv => whnf
  injection H with H; subst H
  exact ret_fz [] (rtA_eq rfl)
  conv => whnf
  injection H with H; subst H
  exact ret_fz [] (rtA_eq rfl)
  conv => whnf
  injection H with H; subst H
  exact ret_fz [] (rtA_eq rfl)
theorem laws_eqPlantFoeS.l0_lp {F : (Exit → St → Prop) → St → Prop} {hv : List Tmp} {Q : Exit → St → Prop} {σ : St} {r : Bool} {k : Nat} {l0 : List S_impl_PlantFoe} {l1 : List S_impl_PlantFoe} {x5 : Int} (H : laws_eqPlantFoeS.l0 k l0 l1 x5 = some r) (rn : List (Option Nat)) (h1 : Fits σ σ [] [(5, .int .i64 x5)] [] [] rn)
    (h2 : ∀ (k0 : Nat) (x5 : Int), k0 < k + 1 → laws_eqPlantFoeS.l0 k0 l0 l1 x5 = some r → headN σ hv [] [(5, .int .i64 x5)] [] [] (F (fun e σ' => match e with | .normal => ∃ (y : Nat × Int) (rn : List (Option Nat)), (laws_eqPlantFoeS.l0 y.1 l0 l1 y.2 = some r ∧ y.1 < k + 1) ∧ y.1 < k0 ∧ Fits σ σ' [] [(5, .int .i64 y.2)] [] [] rn | e => Q e σ'))) : Lp F hv Q σ := by
  unfold Lp
  refine ⟨Nat × Int, fun x => laws_eqPlantFoeS.l0 x.1 l0 l1 x.2 = some r ∧ x.1 < k + 1, fun x => x.1, [], fun x => [(5, .int .i64 x.2)], fun x => [], fun x => [], ⟨(k, x5), rn, ⟨H, Nat.lt_succ_self _⟩, h1⟩, ?_⟩
  rintro ⟨k, x5⟩ ⟨H, hk⟩
  exact h2 k x5 hk H
theorem laws_eqPlantFoeS.ac {k : Nat} {l0 : List S_impl_PlantFoe} {l1 : List S_impl_PlantFoe} {r : Bool} (H : laws_eqPlantFoeS.f k l0 l1 = some r) : ACalls Try.prog G 125 [] [(sv_S_impl_PlantFoe l0), (sv_S_impl_PlantFoe l1)] [] (.bool r) := by
  refine acalls_of tok hP Try.func125 rfl (by kernel_rfl) [.tmp 4] rfl (by kernel_rfl) (Nat.le_of_ble_eq_true rfl) (.l .n (.l .n (.l (.l .n (.l (.c .n .n) (.l (.c .n .n) .n))) .n))) rfl ?_
  unfold laws_eqPlantFoeS.f at H
  conv => whnf
  refine br_nd H (fun c H => ?_) (fun c H => ?_)
  conv => whnf
  refine laws_eqPlantFoeS.l0_lp (l0 := l0) (l1 := l1) (k := k) H [] (fits_of ⟨.inl ⟨rfl, rfl⟩, trivial⟩ trivial fi_ trivial rfl) ?_
  intro k x5 hk H; rcases k with _ | k; exact none_elim H; rw [laws_eqPlantFoeS.l0] at H; conv => whnf
  refine cut_ 88 [(0, (sv_S_impl_PlantFoe l0)), (1, (sv_S_impl_PlantFoe l1)), (5, .int .i64 x5), (14, .bool (decide (x5 < (l0.length : Int))))] [] rfl ⟨.inl rfl, ⟨.inl rfl, ⟨.inl rfl, ⟨.inl rfl, trivial⟩⟩⟩⟩ trivial ?_
  conv => whnf
  refine br_d H (fun c H => ?_) (fun c H => ?_)
  conv => whnf
  refine nd_ H (fun c H => ?_)
  conv => whnf
  refine Nd.mk nf_ ?_
  conv => whnf
  refine El.mk (rdm_en_S_impl_PlantFoe _ _ nf_ nf_) ?_
  conv => whnf
  refine Nd.mk nf_ ?_
  conv => whnf
  refine nd_ H (fun c H => ?_)
  conv => whnf
  refine El.mk (rdm_en_S_impl_PlantFoe _ _ nf_ nf_) ?_
  conv => whnf
  revert H; refine bind_elim (fun t1306 A H => ?_)
  refine call_mk (laws_eqPlantFoe.ac A) (avAL_cons (avA_agg (avL_cons (av_shut' rfl) (avL_cons (av_shut' rfl) (avL_nil)))) (avAL_cons (avA_agg (avL_cons (av_shut' rfl) (avL_cons (av_shut' rfl) (avL_nil)))) (avAL_nil))) (Or.inl rfl) rfl rfl (Nat.le_of_ble_eq_true rfl) ?_
  conv => whnf
  refine cut_ 168 [(0, (sv_S_impl_PlantFoe l0)), (1, (sv_S_impl_PlantFoe l1)), (5, .int .i64 x5), (26, .bool (!t1306))] [] rfl ⟨.inl rfl, ⟨.inl rfl, ⟨.inl rfl, ⟨.inl rfl, trivial⟩⟩⟩⟩ trivial ?_
  conv => whnf
  refine br_nt H (fun c H => ?_) (fun c H => ?_)
  conv => whnf
  exact ⟨(k, wrap64 (x5 + 1)), [], ⟨H, lt_⟩, lt_, (fits_of ⟨.inl ⟨rfl, rfl⟩, trivial⟩ trivial fi_ trivial rfl)⟩
  conv => whnf
  injection H with H; subst H
  exact ret_fz [] (rtA_eq rfl)
  conv => whnf
  injection H with H; subst H
  exact ret_fz [] (rtA_eq rfl)
  conv => whnf
  injection H with H; subst H
  exact ret_fz [] (rtA_eq rfl)
theorem laws_eqPlantPlace.ac {a0_0 : ByteArray} {a0_1 : Int} {a0_2 : ByteArray} {a1_0 : ByteArray} {a1_1 : Int} {a1_2 : ByteArray} {r : Bool} (H : laws_eqPlantPlace.f a0_0 a0_1 a0_2 a1_0 a1_1 a1_2 = some r) : ACalls Try.prog G 196 [] [.agg [.str a0_0, .int .i64 a0_1, .str a0_2], .agg [.str a1_0, .int .i64 a1_1, .str a1_2]] [] (.bool r) := by
  refine acalls_of tok hP Try.func196 rfl (by kernel_rfl) [.tmp 4] rfl (by kernel_rfl) (Nat.le_of_ble_eq_true rfl) (.l .n (.l .n (.l (.c .n .n) .n))) rfl ?_
  unfold laws_eqPlantPlace.f at H
  conv => whnf
  refine br_nd H (fun c H => ?_) (fun c H => ?_)
  conv => whnf
  refine cut_ 104 [(2, .bp 0 0), (3, .bp 8 0), (14, .bool (!(decide (a0_1 = a1_1))))] [(0, .box [.str a0_0, .int .i64 a0_1, .str a0_2]), (8, .box [.str a1_0, .int .i64 a1_1, .str a1_2])] rfl ⟨.inl rfl, ⟨.inl rfl, ⟨.inl rfl, trivial⟩⟩⟩ ⟨rfl, ⟨rfl, trivial⟩⟩ ?_
  conv => whnf
  refine br_nd H (fun c H => ?_) (fun c H => ?_)
  conv => whnf
  refine br_nd H (fun c H => ?_) (fun c H => ?_)
  conv => whnf
  injection H with H; subst H
  exact ret_fz [] (rtA_eq rfl)
  conv => whnf
  injection H with H; subst H
  exact ret_fz [] (rtA_eq rfl)
  conv => whnf
  injection H with H; subst H
  exact ret_fz [] (rtA_eq rfl)
  conv => whnf
  injection H with H; subst H
  exact ret_fz [] (rtA_eq rfl)
theorem laws_eqPlantPlaceS.l0_lp {F : (Exit → St → Prop) → St → Prop} {hv : List Tmp} {Q : Exit → St → Prop} {σ : St} {r : Bool} {k : Nat} {l0 : List S_impl_PlantPlace} {l1 : List S_impl_PlantPlace} {x5 : Int} (H : laws_eqPlantPlaceS.l0 k l0 l1 x5 = some r) (rn : List (Option Nat)) (h1 : Fits σ σ [] [(5, .int .i64 x5)] [] [] rn)
    (h2 : ∀ (k0 : Nat) (x5 : Int), k0 < k + 1 → laws_eqPlantPlaceS.l0 k0 l0 l1 x5 = some r → headN σ hv [] [(5, .int .i64 x5)] [] [] (F (fun e σ' => match e with | .normal => ∃ (y : Nat × Int) (rn : List (Option Nat)), (laws_eqPlantPlaceS.l0 y.1 l0 l1 y.2 = some r ∧ y.1 < k + 1) ∧ y.1 < k0 ∧ Fits σ σ' [] [(5, .int .i64 y.2)] [] [] rn | e => Q e σ'))) : Lp F hv Q σ := by
  unfold Lp
  refine ⟨Nat × Int, fun x => laws_eqPlantPlaceS.l0 x.1 l0 l1 x.2 = some r ∧ x.1 < k + 1, fun x => x.1, [], fun x => [(5, .int .i64 x.2)], fun x => [], fun x => [], ⟨(k, x5), rn, ⟨H, Nat.lt_succ_self _⟩, h1⟩, ?_⟩
  rintro ⟨k, x5⟩ ⟨H, hk⟩
  exact h2 k x5 hk H
theorem laws_eqPlantPlaceS.ac {k : Nat} {l0 : List S_impl_PlantPlace} {l1 : List S_impl_PlantPlace} {r : Bool} (H : laws_eqPlantPlaceS.f k l0 l1 = some r) : ACalls Try.prog G 126 [] [(sv_S_impl_PlantPlace l0), (sv_S_impl_PlantPlace l1)] [] (.bool r) := by
  refine acalls_of tok hP Try.func126 rfl (by kernel_rfl) [.tmp 4] rfl (by kernel_rfl) (Nat.le_of_ble_eq_true rfl) (.l .n (.l .n (.l (.l .n (.l (.c .n .n) (.l (.c .n .n) .n))) .n))) rfl ?_
  unfold laws_eqPlantPlaceS.f at H
  conv => whnf
  refine br_nd H (fun c H => ?_) (fun c H => ?_)
  conv => whnf
  refine laws_eqPlantPlaceS.l0_lp (l0 := l0) (l1 := l1) (k := k) H [] (fits_of ⟨.inl ⟨rfl, rfl⟩, trivial⟩ trivial fi_ trivial rfl) ?_
  intro k x5 hk H; rcases k with _ | k; exact none_elim H; rw [laws_eqPlantPlaceS.l0] at H; conv => whnf
  refine cut_ 88 [(0, (sv_S_impl_PlantPlace l0)), (1, (sv_S_impl_PlantPlace l1)), (5, .int .i64 x5), (14, .bool (decide (x5 < (l0.length : Int))))] [] rfl ⟨.inl rfl, ⟨.inl rfl, ⟨.inl rfl, ⟨.inl rfl, trivial⟩⟩⟩⟩ trivial ?_
  conv => whnf
  refine br_d H (fun c H => ?_) (fun c H => ?_)
  conv => whnf
  refine nd_ H (fun c H => ?_)
  conv => whnf
  refine Nd.mk nf_ ?_
  conv => whnf
  refine El.mk (rdm_en_S_impl_PlantPlace _ _ nf_ nf_) ?_
  conv => whnf
  refine Nd.mk nf_ ?_
  conv => whnf
  refine nd_ H (fun c H => ?_)
  conv => whnf
  refine El.mk (rdm_en_S_impl_PlantPlace _ _ nf_ nf_) ?_
  conv => whnf
  revert H; refine bind_elim (fun t1356 A H => ?_)
  refine call_mk (laws_eqPlantPlace.ac A) (avAL_cons (avA_agg (avL_cons (av_shut' rfl) (avL_cons (av_shut' rfl) (avL_cons (av_shut' rfl) (avL_nil))))) (avAL_cons (avA_agg (avL_cons (av_shut' rfl) (avL_cons (av_shut' rfl) (avL_cons (av_shut' rfl) (avL_nil))))) (avAL_nil))) (Or.inl rfl) rfl rfl (Nat.le_of_ble_eq_true rfl) ?_
  conv => whnf
  refine cut_ 168 [(0, (sv_S_impl_PlantPlace l0)), (1, (sv_S_impl_PlantPlace l1)), (5, .int .i64 x5), (26, .bool (!t1356))] [] rfl ⟨.inl rfl, ⟨.inl rfl, ⟨.inl rfl, ⟨.inl rfl, trivial⟩⟩⟩⟩ trivial ?_
  conv => whnf
  refine br_nt H (fun c H => ?_) (fun c H => ?_)
  conv => whnf
  exact ⟨(k, wrap64 (x5 + 1)), [], ⟨H, lt_⟩, lt_, (fits_of ⟨.inl ⟨rfl, rfl⟩, trivial⟩ trivial fi_ trivial rfl)⟩
  conv => whnf
  injection H with H; subst H
  exact ret_fz [] (rtA_eq rfl)
  conv => whnf
  injection H with H; subst H
  exact ret_fz [] (rtA_eq rfl)
  conv => whnf
  injection H with H; subst H
  exact ret_fz [] (rtA_eq rfl)
theorem laws_eqPlantValve.ac {a0_0 : ByteArray} {a0_1 : ByteArray} {a0_2 : ByteArray} {a0_3 : ByteArray} {a1_0 : ByteArray} {a1_1 : ByteArray} {a1_2 : ByteArray} {a1_3 : ByteArray} {r : Bool} (H : laws_eqPlantValve.f a0_0 a0_1 a0_2 a0_3 a1_0 a1_1 a1_2 a1_3 = some r) : ACalls Try.prog G 197 [] [.agg [.str a0_0, .str a0_1, .str a0_2, .str a0_3], .agg [.str a1_0, .str a1_1, .str a1_2, .str a1_3]] [] (.bool r) := by
  refine acalls_of tok hP Try.func197 rfl (by kernel_rfl) [.tmp 4] rfl (by kernel_rfl) (Nat.le_of_ble_eq_true rfl) (.l .n (.l .n (.l (.c .n .n) (.l .n (.l (.c .n .n) .n))))) rfl ?_
  unfold laws_eqPlantValve.f at H
  conv => whnf
  refine br_nd H (fun c H => ?_) (fun c H => ?_)
  conv => whnf
  refine cut_ 104 [(2, .bp 0 0), (3, .bp 8 0), (14, .bool (!(decide (a0_1.toList = a1_1.toList))))] [(0, .box [.str a0_0, .str a0_1, .str a0_2, .str a0_3]), (8, .box [.str a1_0, .str a1_1, .str a1_2, .str a1_3])] rfl ⟨.inl rfl, ⟨.inl rfl, ⟨.inl rfl, trivial⟩⟩⟩ ⟨rfl, ⟨rfl, trivial⟩⟩ ?_
  conv => whnf
  refine br_nd H (fun c H => ?_) (fun c H => ?_)
  conv => whnf
  refine br_nd H (fun c H => ?_) (fun c H => ?_)
  conv => whnf
  refine cut_ 184 [(24, .bool (!(decide (a0_3.toList = a1_3.toList))))] [] rfl ⟨.inl rfl, trivial⟩ trivial ?_
  conv => whnf
  refine br_nd H (fun c H => ?_) (fun c H => ?_)
  conv => whnf
  injection H with H; subst H
  exact ret_fz [] (rtA_eq rfl)
  conv => whnf
  injection H with H; subst H
  exact ret_fz [] (rtA_eq rfl)
  conv => whnf
  injection H with H; subst H
  exact ret_fz [] (rtA_eq rfl)
  conv => whnf
  injection H with H; subst H
  exact ret_fz [] (rtA_eq rfl)
  conv => whnf
  injection H with H; subst H
  exact ret_fz [] (rtA_eq rfl)
theorem laws_eqPlantValveS.l0_lp {F : (Exit → St → Prop) → St → Prop} {hv : List Tmp} {Q : Exit → St → Prop} {σ : St} {r : Bool} {k : Nat} {l0 : List S_impl_PlantValve} {l1 : List S_impl_PlantValve} {x5 : Int} (H : laws_eqPlantValveS.l0 k l0 l1 x5 = some r) (rn : List (Option Nat)) (h1 : Fits σ σ [] [(5, .int .i64 x5)] [] [] rn)
    (h2 : ∀ (k0 : Nat) (x5 : Int), k0 < k + 1 → laws_eqPlantValveS.l0 k0 l0 l1 x5 = some r → headN σ hv [] [(5, .int .i64 x5)] [] [] (F (fun e σ' => match e with | .normal => ∃ (y : Nat × Int) (rn : List (Option Nat)), (laws_eqPlantValveS.l0 y.1 l0 l1 y.2 = some r ∧ y.1 < k + 1) ∧ y.1 < k0 ∧ Fits σ σ' [] [(5, .int .i64 y.2)] [] [] rn | e => Q e σ'))) : Lp F hv Q σ := by
  unfold Lp
  refine ⟨Nat × Int, fun x => laws_eqPlantValveS.l0 x.1 l0 l1 x.2 = some r ∧ x.1 < k + 1, fun x => x.1, [], fun x => [(5, .int .i64 x.2)], fun x => [], fun x => [], ⟨(k, x5), rn, ⟨H, Nat.lt_succ_self _⟩, h1⟩, ?_⟩
  rintro ⟨k, x5⟩ ⟨H, hk⟩
  exact h2 k x5 hk H
theorem laws_eqPlantValveS.ac {k : Nat} {l0 : List S_impl_PlantValve} {l1 : List S_impl_PlantValve} {r : Bool} (H : laws_eqPlantValveS.f k l0 l1 = some r) : ACalls Try.prog G 127 [] [(sv_S_impl_PlantValve l0), (sv_S_impl_PlantValve l1)] [] (.bool r) := by
  refine acalls_of tok hP Try.func127 rfl (by kernel_rfl) [.tmp 4] rfl (by kernel_rfl) (Nat.le_of_ble_eq_true rfl) (.l .n (.l .n (.l (.l .n (.l (.c .n .n) (.l (.c .n .n) .n))) .n))) rfl ?_
  unfold laws_eqPlantValveS.f at H
  conv => whnf
  refine br_nd H (fun c H => ?_) (fun c H => ?_)
  conv => whnf
  refine laws_eqPlantValveS.l0_lp (l0 := l0) (l1 := l1) (k := k) H [] (fits_of ⟨.inl ⟨rfl, rfl⟩, trivial⟩ trivial fi_ trivial rfl) ?_
  intro k x5 hk H; rcases k with _ | k; exact none_elim H; rw [laws_eqPlantValveS.l0] at H; conv => whnf
  refine cut_ 88 [(0, (sv_S_impl_PlantValve l0)), (1, (sv_S_impl_PlantValve l1)), (5, .int .i64 x5), (14, .bool (decide (x5 < (l0.length : Int))))] [] rfl ⟨.inl rfl, ⟨.inl rfl, ⟨.inl rfl, ⟨.inl rfl, trivial⟩⟩⟩⟩ trivial ?_
  conv => whnf
  refine br_d H (fun c H => ?_) (fun c H => ?_)
  conv => whnf
  refine nd_ H (fun c H => ?_)
  conv => whnf
  refine Nd.mk nf_ ?_
  conv => whnf
  refine El.mk (rdm_en_S_impl_PlantValve _ _ nf_ nf_) ?_
  conv => whnf
  refine Nd.mk nf_ ?_
  conv => whnf
  refine nd_ H (fun c H => ?_)
  conv => whnf
  refine El.mk (rdm_en_S_impl_PlantValve _ _ nf_ nf_) ?_
  conv => whnf
  revert H; refine bind_elim (fun t1412 A H => ?_)
  refine call_mk (laws_eqPlantValve.ac A) (avAL_cons (avA_agg (avL_cons (av_shut' rfl) (avL_cons (av_shut' rfl) (avL_cons (av_shut' rfl) (avL_cons (av_shut' rfl) (avL_nil)))))) (avAL_cons (avA_agg (avL_cons (av_shut' rfl) (avL_cons (av_shut' rfl) (avL_cons (av_shut' rfl) (avL_cons (av_shut' rfl) (avL_nil)))))) (avAL_nil))) (Or.inl rfl) rfl rfl (Nat.le_of_ble_eq_true rfl) ?_
  conv => whnf
  refine cut_ 168 [(0, (sv_S_impl_PlantValve l0)), (1, (sv_S_impl_PlantValve l1)), (5, .int .i64 x5), (26, .bool (!t1412))] [] rfl ⟨.inl rfl, ⟨.inl rfl, ⟨.inl rfl, ⟨.inl rfl, trivial⟩⟩⟩⟩ trivial ?_
  conv => whnf
  refine br_nt H (fun c H => ?_) (fun c H => ?_)
  conv => whnf
  exact ⟨(k, wrap64 (x5 + 1)), [], ⟨H, lt_⟩, lt_, (fits_of ⟨.inl ⟨rfl, rfl⟩, trivial⟩ trivial fi_ trivial rfl)⟩
  conv => whnf
  injection H with H; subst H
  exact ret_fz [] (rtA_eq rfl)
  conv => whnf
  injection H with H; subst H
  exact ret_fz [] (rtA_eq rfl)
  conv => whnf
  injection H with H; subst H
  exact ret_fz [] (rtA_eq rfl)
theorem laws_eqPlant.ac {k : Nat} {a0_0 : List ByteArray} {a0_1 : List S_impl_PlantFoe} {a0_2 : List S_impl_PlantPlace} {a0_3 : List S_impl_PlantValve} {a1_0 : List ByteArray} {a1_1 : List S_impl_PlantFoe} {a1_2 : List S_impl_PlantPlace} {a1_3 : List S_impl_PlantValve} {r : Bool} (H : laws_eqPlant.f k a0_0 a0_1 a0_2 a0_3 a1_0 a1_1 a1_2 a1_3 = some r) : ACalls Try.prog G 45 [] [.agg [(sv_str a0_0), (sv_S_impl_PlantFoe a0_1), (sv_S_impl_PlantPlace a0_2), (sv_S_impl_PlantValve a0_3)], .agg [(sv_str a1_0), (sv_S_impl_PlantFoe a1_1), (sv_S_impl_PlantPlace a1_2), (sv_S_impl_PlantValve a1_3)]] [] (.bool r) := by
  refine acalls_of tok hP Try.func45 rfl (by kernel_rfl) [.tmp 4] rfl (by kernel_rfl) (Nat.le_of_ble_eq_true rfl) (.l .n (.l (.l .n (.l (.c .n .n) .n)) (.l (.c .n .n) (.l .n (.l (.c .n .n) .n))))) rfl ?_
  unfold laws_eqPlant.f at H
  conv => whnf
  revert H; refine bind_elim (fun t1415 A H => ?_)
  refine call_mk (laws_eqStringS.ac A) (avAL_cons (avA_shut' rfl) (avAL_cons (avA_shut' rfl) (avAL_nil))) (Or.inl rfl) rfl rfl (Nat.le_of_ble_eq_true rfl) ?_
  conv => whnf
  refine br_nt H (fun c H => ?_) (fun c H => ?_)
  conv => whnf
  revert H; refine bind_elim (fun t1418 A H => ?_)
  refine call_mk (laws_eqPlantFoeS.ac A) (avAL_cons (avA_shut' rfl) (avAL_cons (avA_shut' rfl) (avAL_nil))) (Or.inl rfl) rfl rfl (Nat.le_of_ble_eq_true rfl) ?_
  conv => whnf
  refine cut_ 120 [(2, .bp 0 0), (3, .bp 8 0), (16, .bool (!t1418))] [(0, .box [(sv_str a0_0), (sv_S_impl_PlantFoe a0_1), (sv_S_impl_PlantPlace a0_2), (sv_S_impl_PlantValve a0_3)]), (8, .box [(sv_str a1_0), (sv_S_impl_PlantFoe a1_1), (sv_S_impl_PlantPlace a1_2), (sv_S_impl_PlantValve a1_3)])] rfl ⟨.inl rfl, ⟨.inl rfl, ⟨.inl rfl, trivial⟩⟩⟩ ⟨rfl, ⟨rfl, trivial⟩⟩ ?_
  conv => whnf
  refine br_nt H (fun c H => ?_) (fun c H => ?_)
  conv => whnf
  revert H; refine bind_elim (fun t1421 A H => ?_)
  refine call_mk (laws_eqPlantPlaceS.ac A) (avAL_cons (avA_shut' rfl) (avAL_cons (avA_shut' rfl) (avAL_nil))) (Or.inl rfl) rfl rfl (Nat.le_of_ble_eq_true rfl) ?_
  conv => whnf
  refine br_nt H (fun c H => ?_) (fun c H => ?_)
  conv => whnf
  revert H; refine bind_elim (fun t1424 A H => ?_)
  refine call_mk (laws_eqPlantValveS.ac A) (avAL_cons (avA_shut' rfl) (avAL_cons (avA_shut' rfl) (avAL_nil))) (Or.inl rfl) rfl rfl (Nat.le_of_ble_eq_true rfl) ?_
  conv => whnf
  refine cut_ 216 [(28, .bool (!t1424))] [] rfl ⟨.inl rfl, trivial⟩ trivial ?_
  conv => whnf
  refine br_nt H (fun c H => ?_) (fun c H => ?_)
  conv => whnf
  injection H with H; subst H
  exact ret_fz [] (rtA_eq rfl)
  conv => whnf
  injection H with H; subst H
  exact ret_fz [] (rtA_eq rfl)
  conv => whnf
  injection H with H; subst H
  exact ret_fz [] (rtA_eq rfl)
  conv => whnf
  injection H with H; subst H
  exact ret_fz [] (rtA_eq rfl)
  conv => whnf
  refine cut_ 80 [(4, .bool false)] [] rfl ⟨.inl rfl, trivial⟩ trivial ?_
  conv => whnf
  injection H with H; subst H
  exact ret_fz [] (rtA_eq rfl)
theorem laws_eqClaimUse.ac {a0_0 : ByteArray} {a0_1 : Int} {a0_2 : Int} {a1_0 : ByteArray} {a1_1 : Int} {a1_2 : Int} {r : Bool} (H : laws_eqClaimUse.f a0_0 a0_1 a0_2 a1_0 a1_1 a1_2 = some r) : ACalls Try.prog G 220 [] [.agg [.str a0_0, .int .i64 a0_1, .int .i64 a0_2], .agg [.str a1_0, .int .i64 a1_1, .int .i64 a1_2]] [] (.bool r) := by
  refine acalls_of tok hP Try.func220 rfl (by kernel_rfl) [.tmp 4] rfl (by kernel_rfl) (Nat.le_of_ble_eq_true rfl) (.l .n (.l .n (.l (.c .n .n) .n))) rfl ?_
  unfold laws_eqClaimUse.f at H
  conv => whnf
  refine br_nd H (fun c H => ?_) (fun c H => ?_)
  conv => whnf
  refine cut_ 104 [(2, .bp 0 0), (3, .bp 8 0), (14, .bool (!(decide (a0_1 = a1_1))))] [(0, .box [.str a0_0, .int .i64 a0_1, .int .i64 a0_2]), (8, .box [.str a1_0, .int .i64 a1_1, .int .i64 a1_2])] rfl ⟨.inl rfl, ⟨.inl rfl, ⟨.inl rfl, trivial⟩⟩⟩ ⟨rfl, ⟨rfl, trivial⟩⟩ ?_
  conv => whnf
  refine br_nd H (fun c H => ?_) (fun c H => ?_)
  conv => whnf
  refine br_nd H (fun c H => ?_) (fun c H => ?_)
  conv => whnf
  injection H with H; subst H
  exact ret_fz [] (rtA_eq rfl)
  conv => whnf
  injection H with H; subst H
  exact ret_fz [] (rtA_eq rfl)
  conv => whnf
  injection H with H; subst H
  exact ret_fz [] (rtA_eq rfl)
  conv => whnf
  injection H with H; subst H
  exact ret_fz [] (rtA_eq rfl)
theorem laws_eqClaimUseS.l0_lp {F : (Exit → St → Prop) → St → Prop} {hv : List Tmp} {Q : Exit → St → Prop} {σ : St} {r : Bool} {k : Nat} {l0 : List S_impl_ClaimUse} {l1 : List S_impl_ClaimUse} {x5 : Int} (H : laws_eqClaimUseS.l0 k l0 l1 x5 = some r) (rn : List (Option Nat)) (h1 : Fits σ σ [] [(5, .int .i64 x5)] [] [] rn)
    (h2 : ∀ (k0 : Nat) (x5 : Int), k0 < k + 1 → laws_eqClaimUseS.l0 k0 l0 l1 x5 = some r → headN σ hv [] [(5, .int .i64 x5)] [] [] (F (fun e σ' => match e with | .normal => ∃ (y : Nat × Int) (rn : List (Option Nat)), (laws_eqClaimUseS.l0 y.1 l0 l1 y.2 = some r ∧ y.1 < k + 1) ∧ y.1 < k0 ∧ Fits σ σ' [] [(5, .int .i64 y.2)] [] [] rn | e => Q e σ'))) : Lp F hv Q σ := by
  unfold Lp
  refine ⟨Nat × Int, fun x => laws_eqClaimUseS.l0 x.1 l0 l1 x.2 = some r ∧ x.1 < k + 1, fun x => x.1, [], fun x => [(5, .int .i64 x.2)], fun x => [], fun x => [], ⟨(k, x5), rn, ⟨H, Nat.lt_succ_self _⟩, h1⟩, ?_⟩
  rintro ⟨k, x5⟩ ⟨H, hk⟩
  exact h2 k x5 hk H
theorem laws_eqClaimUseS.ac {k : Nat} {l0 : List S_impl_ClaimUse} {l1 : List S_impl_ClaimUse} {r : Bool} (H : laws_eqClaimUseS.f k l0 l1 = some r) : ACalls Try.prog G 203 [] [(sv_S_impl_ClaimUse l0), (sv_S_impl_ClaimUse l1)] [] (.bool r) := by
  refine acalls_of tok hP Try.func203 rfl (by kernel_rfl) [.tmp 4] rfl (by kernel_rfl) (Nat.le_of_ble_eq_true rfl) (.l .n (.l .n (.l (.l .n (.l (.c .n .n) (.l (.c .n .n) .n))) .n))) rfl ?_
  unfold laws_eqClaimUseS.f at H
  conv => whnf
  refine br_nd H (fun c H => ?_) (fun c H => ?_)
  conv => whnf
  refine laws_eqClaimUseS.l0_lp (l0 := l0) (l1 := l1) (k := k) H [] (fits_of ⟨.inl ⟨rfl, rfl⟩, trivial⟩ trivial fi_ trivial rfl) ?_
  intro k x5 hk H; rcases k with _ | k; exact none_elim H; rw [laws_eqClaimUseS.l0] at H; conv => whnf
  refine cut_ 88 [(0, (sv_S_impl_ClaimUse l0)), (1, (sv_S_impl_ClaimUse l1)), (5, .int .i64 x5), (14, .bool (decide (x5 < (l0.length : Int))))] [] rfl ⟨.inl rfl, ⟨.inl rfl, ⟨.inl rfl, ⟨.inl rfl, trivial⟩⟩⟩⟩ trivial ?_
  conv => whnf
  refine br_d H (fun c H => ?_) (fun c H => ?_)
  conv => whnf
  refine nd_ H (fun c H => ?_)
  conv => whnf
  refine Nd.mk nf_ ?_
  conv => whnf
  refine El.mk (rdm_en_S_impl_ClaimUse _ _ nf_ nf_) ?_
  conv => whnf
  refine Nd.mk nf_ ?_
  conv => whnf
  refine nd_ H (fun c H => ?_)
  conv => whnf
  refine El.mk (rdm_en_S_impl_ClaimUse _ _ nf_ nf_) ?_
  conv => whnf
  revert H; refine bind_elim (fun t1526 A H => ?_)
  refine call_mk (laws_eqClaimUse.ac A) (avAL_cons (avA_agg (avL_cons (av_shut' rfl) (avL_cons (av_shut' rfl) (avL_cons (av_shut' rfl) (avL_nil))))) (avAL_cons (avA_agg (avL_cons (av_shut' rfl) (avL_cons (av_shut' rfl) (avL_cons (av_shut' rfl) (avL_nil))))) (avAL_nil))) (Or.inl rfl) rfl rfl (Nat.le_of_ble_eq_true rfl) ?_
  conv => whnf
  refine cut_ 168 [(0, (sv_S_impl_ClaimUse l0)), (1, (sv_S_impl_ClaimUse l1)), (5, .int .i64 x5), (26, .bool (!t1526))] [] rfl ⟨.inl rfl, ⟨.inl rfl, ⟨.inl rfl, ⟨.inl rfl, trivial⟩⟩⟩⟩ trivial ?_
  conv => whnf
  refine br_nt H (fun c H => ?_) (fun c H => ?_)
  conv => whnf
  exact ⟨(k, wrap64 (x5 + 1)), [], ⟨H, lt_⟩, lt_, (fits_of ⟨.inl ⟨rfl, rfl⟩, trivial⟩ trivial fi_ trivial rfl)⟩
  conv => whnf
  injection H with H; subst H
  exact ret_fz [] (rtA_eq rfl)
  conv => whnf
  injection H with H; subst H
  exact ret_fz [] (rtA_eq rfl)
  conv => whnf
  injection H with H; subst H
  exact ret_fz [] (rtA_eq rfl)
theorem laws_eqClaimWant.ac {k : Nat} {a0_0 : Int} {a0_1 : Int} {a0_2 : List ByteArray} {a0_3 : List S_impl_ClaimUse} {a0_4 : List ByteArray} {a0_5 : List ByteArray} {a1_0 : Int} {a1_1 : Int} {a1_2 : List ByteArray} {a1_3 : List S_impl_ClaimUse} {a1_4 : List ByteArray} {a1_5 : List ByteArray} {r : Bool} (H : laws_eqClaimWant.f k a0_0 a0_1 a0_2 a0_3 a0_4 a0_5 a1_0 a1_1 a1_2 a1_3 a1_4 a1_5 = some r) : ACalls Try.prog G 143 [] [.agg [.int .i64 a0_0, .int .i64 a0_1, (sv_str a0_2), (sv_S_impl_ClaimUse a0_3), (sv_str a0_4), (sv_str a0_5)], .agg [.int .i64 a1_0, .int .i64 a1_1, (sv_str a1_2), (sv_S_impl_ClaimUse a1_3), (sv_str a1_4), (sv_str a1_5)]] [] (.bool r) := by
  refine acalls_of tok hP Try.func143 rfl (by kernel_rfl) [.tmp 4] rfl (by kernel_rfl) (Nat.le_of_ble_eq_true rfl) (.l .n (.l .n (.l (.c .n .n) (.l .n (.l (.c .n .n) (.l .n (.l (.c .n .n) .n))))))) rfl ?_
  unfold laws_eqClaimWant.f at H
  conv => whnf
  refine br_nd H (fun c H => ?_) (fun c H => ?_)
  conv => whnf
  refine cut_ 104 [(2, .bp 0 0), (3, .bp 8 0), (14, .bool (!(decide (a0_1 = a1_1))))] [(0, .box [.int .i64 a0_0, .int .i64 a0_1, (sv_str a0_2), (sv_S_impl_ClaimUse a0_3), (sv_str a0_4), (sv_str a0_5)]), (8, .box [.int .i64 a1_0, .int .i64 a1_1, (sv_str a1_2), (sv_S_impl_ClaimUse a1_3), (sv_str a1_4), (sv_str a1_5)])] rfl ⟨.inl rfl, ⟨.inl rfl, ⟨.inl rfl, trivial⟩⟩⟩ ⟨rfl, ⟨rfl, trivial⟩⟩ ?_
  conv => whnf
  refine br_nd H (fun c H => ?_) (fun c H => ?_)
  conv => whnf
  revert H; refine bind_elim (fun t1529 A H => ?_)
  refine call_mk (laws_eqStringS.ac A) (avAL_cons (avA_shut' rfl) (avAL_cons (avA_shut' rfl) (avAL_nil))) (Or.inl rfl) rfl rfl (Nat.le_of_ble_eq_true rfl) ?_
  conv => whnf
  refine br_nt H (fun c H => ?_) (fun c H => ?_)
  conv => whnf
  revert H; refine bind_elim (fun t1532 A H => ?_)
  refine call_mk (laws_eqClaimUseS.ac A) (avAL_cons (avA_shut' rfl) (avAL_cons (avA_shut' rfl) (avAL_nil))) (Or.inl rfl) rfl rfl (Nat.le_of_ble_eq_true rfl) ?_
  conv => whnf
  refine cut_ 200 [(2, .bp 0 0), (3, .bp 8 0), (26, .bool (!t1532))] [(0, .box [.int .i64 a0_0, .int .i64 a0_1, (sv_str a0_2), (sv_S_impl_ClaimUse a0_3), (sv_str a0_4), (sv_str a0_5)]), (8, .box [.int .i64 a1_0, .int .i64 a1_1, (sv_str a1_2), (sv_S_impl_ClaimUse a1_3), (sv_str a1_4), (sv_str a1_5)])] rfl ⟨.inl rfl, ⟨.inl rfl, ⟨.inl rfl, trivial⟩⟩⟩ ⟨rfl, ⟨rfl, trivial⟩⟩ ?_
  conv => whnf
  refine br_nt H (fun c H => ?_) (fun c H => ?_)
  conv => whnf
  revert H; refine bind_elim (fun t1535 A H => ?_)
  refine call_mk (laws_eqStringS.ac A) (avAL_cons (avA_shut' rfl) (avAL_cons (avA_shut' rfl) (avAL_nil))) (Or.inl rfl) rfl rfl (Nat.le_of_ble_eq_true rfl) ?_
  conv => whnf
  refine br_nt H (fun c H => ?_) (fun c H => ?_)
  conv => whnf
  revert H; refine bind_elim (fun t1538 A H => ?_)
  refine call_mk (laws_eqStringS.ac A) (avAL_cons (avA_shut' rfl) (avAL_cons (avA_shut' rfl) (avAL_nil))) (Or.inl rfl) rfl rfl (Nat.le_of_ble_eq_true rfl) ?_
  conv => whnf
  refine cut_ 296 [(38, .bool (!t1538))] [] rfl ⟨.inl rfl, trivial⟩ trivial ?_
  conv => whnf
  refine br_nt H (fun c H => ?_) (fun c H => ?_)
  conv => whnf
  injection H with H; subst H
  exact ret_fz [] (rtA_eq rfl)
  conv => whnf
  injection H with H; subst H
  exact ret_fz [] (rtA_eq rfl)
  conv => whnf
  injection H with H; subst H
  exact ret_fz [] (rtA_eq rfl)
  conv => whnf
  injection H with H; subst H
  exact ret_fz [] (rtA_eq rfl)
  conv => whnf
  injection H with H; subst H
  exact ret_fz [] (rtA_eq rfl)
  conv => whnf
  injection H with H; subst H
  exact ret_fz [] (rtA_eq rfl)
  conv => whnf
  injection H with H; subst H
  exact ret_fz [] (rtA_eq rfl)
theorem laws_eqCtlWord.ac {k : Nat} {a0_0 : Int} {a0_1 : ByteArray} {a0_2 : Int} {a0_3 : Int} {a0_4 : Int} {a0_5 : List ByteArray} {a0_6 : List S_impl_ClaimUse} {a0_7 : List ByteArray} {a0_8 : List ByteArray} {a0_9 : Int} {a0_10 : Bool} {a1_0 : Int} {a1_1 : ByteArray} {a1_2 : Int} {a1_3 : Int} {a1_4 : Int} {a1_5 : List ByteArray} {a1_6 : List S_impl_ClaimUse} {a1_7 : List ByteArray} {a1_8 : List ByteArray} {a1_9 : Int} {a1_10 : Bool} {r : Bool} (H : laws_eqCtlWord.f k a0_0 a0_1 a0_2 a0_3 a0_4 a0_5 a0_6 a0_7 a0_8 a0_9 a0_10 a1_0 a1_1 a1_2 a1_3 a1_4 a1_5 a1_6 a1_7 a1_8 a1_9 a1_10 = some r) : ACalls Try.prog G 54 [] [.agg [.int .i64 a0_0, .str a0_1, .int .i64 a0_2, .int .i64 a0_3, .int .i64 a0_4, (sv_str a0_5), (sv_S_impl_ClaimUse a0_6), (sv_str a0_7), (sv_str a0_8), .int .i64 a0_9, .bool a0_10], .agg [.int .i64 a1_0, .str a1_1, .int .i64 a1_2, .int .i64 a1_3, .int .i64 a1_4, (sv_str a1_5), (sv_S_impl_ClaimUse a1_6), (sv_str a1_7), (sv_str a1_8), .int .i64 a1_9, .bool a1_10]] [] (.bool r) := by
  refine acalls_of tok hP Try.func54 rfl (by kernel_rfl) [.tmp 4] rfl (by kernel_rfl) (Nat.le_of_ble_eq_true rfl) (.l .n (.l .n (.l (.c .n .n) (.l .n (.l (.c .n .n) (.l .n (.l (.c .n .n) .n))))))) rfl ?_
  unfold laws_eqCtlWord.f at H
  conv => whnf
  refine br_nd H (fun c H => ?_) (fun c H => ?_)
  conv => whnf
  refine cut_ 104 [(2, .bp 0 0), (3, .bp 8 0), (14, .bool (!(decide (a0_1.toList = a1_1.toList))))] [(0, .box [.int .i64 a0_0, .str a0_1, .int .i64 a0_2, .int .i64 a0_3, .int .i64 a0_4, (sv_str a0_5), (sv_S_impl_ClaimUse a0_6), (sv_str a0_7), (sv_str a0_8), .int .i64 a0_9, .bool a0_10]), (8, .box [.int .i64 a1_0, .str a1_1, .int .i64 a1_2, .int .i64 a1_3, .int .i64 a1_4, (sv_str a1_5), (sv_S_impl_ClaimUse a1_6), (sv_str a1_7), (sv_str a1_8), .int .i64 a1_9, .bool a1_10])] rfl ⟨.inl rfl, ⟨.inl rfl, ⟨.inl rfl, trivial⟩⟩⟩ ⟨rfl, ⟨rfl, trivial⟩⟩ ?_
  conv => whnf
  refine br_nd H (fun c H => ?_) (fun c H => ?_)
  conv => whnf
  refine br_nd H (fun c H => ?_) (fun c H => ?_)
  conv => whnf
  revert H; refine bind_elim (fun t1541 A H => ?_)
  refine call_mk (laws_eqClaimWant.ac A) (avAL_cons (avA_agg (avL_cons (av_shut' rfl) (avL_cons (av_shut' rfl) (avL_cons (av_shut' rfl) (avL_cons (av_shut' rfl) (avL_cons (av_shut' rfl) (avL_cons (av_shut' rfl) (avL_nil)))))))) (avAL_cons (avA_agg (avL_cons (av_shut' rfl) (avL_cons (av_shut' rfl) (avL_cons (av_shut' rfl) (avL_cons (av_shut' rfl) (avL_cons (av_shut' rfl) (avL_cons (av_shut' rfl) (avL_nil)))))))) (avAL_nil))) (Or.inl rfl) rfl rfl (Nat.le_of_ble_eq_true rfl) ?_
  conv => whnf
  refine cut_ 192 [(2, .bp 0 0), (3, .bp 8 0), (25, .bool (!t1541))] [(0, .box [.int .i64 a0_0, .str a0_1, .int .i64 a0_2, .int .i64 a0_3, .int .i64 a0_4, (sv_str a0_5), (sv_S_impl_ClaimUse a0_6), (sv_str a0_7), (sv_str a0_8), .int .i64 a0_9, .bool a0_10]), (8, .box [.int .i64 a1_0, .str a1_1, .int .i64 a1_2, .int .i64 a1_3, .int .i64 a1_4, (sv_str a1_5), (sv_S_impl_ClaimUse a1_6), (sv_str a1_7), (sv_str a1_8), .int .i64 a1_9, .bool a1_10])] rfl ⟨.inl rfl, ⟨.inl rfl, ⟨.inl rfl, trivial⟩⟩⟩ ⟨rfl, ⟨rfl, trivial⟩⟩ ?_
  conv => whnf
  refine br_nt H (fun c H => ?_) (fun c H => ?_)
  conv => whnf
  refine br_nd H (fun c H => ?_) (fun c H => ?_)
  conv => whnf
  refine cut_ 272 [(35, .bool (a0_10 != a1_10))] [] rfl ⟨.inl rfl, trivial⟩ trivial ?_
  conv => whnf
  refine br_t H (fun c H => ?_) (fun c H => ?_)
  conv => whnf
  injection H with H; subst H
  exact ret_fz [] (rtA_eq rfl)
  conv => whnf
  injection H with H; subst H
  exact ret_fz [] (rtA_eq rfl)
  conv => whnf
  injection H with H; subst H
  exact ret_fz [] (rtA_eq rfl)
  conv => whnf
  injection H with H; subst H
  exact ret_fz [] (rtA_eq rfl)
  conv => whnf
  injection H with H; subst H
  exact ret_fz [] (rtA_eq rfl)
  conv => whnf
  injection H with H; subst H
  exact ret_fz [] (rtA_eq rfl)
  conv => whnf
  injection H with H; subst H
  exact ret_fz [] (rtA_eq rfl)
theorem laws_FnExactCtlWordOk.ac {k : Nat} {a0_0 : List ByteArray} {a0_1 : List S_laws_PlantFoe} {a0_2 : List S_laws_PlantPlace} {a0_3 : List S_laws_PlantValve} {a1_0 : Int} {a1_1 : ByteArray} {a1_2 : Int} {a1_3 : Int} {a1_4 : Int} {a1_5 : List ByteArray} {a1_6 : List S_laws_ClaimUse} {a1_7 : List ByteArray} {a1_8 : List ByteArray} {a1_9 : Int} {a1_10 : Bool} {r : Bool} (H : laws_FnExactCtlWordOk.f k a0_0 a0_1 a0_2 a0_3 a1_0 a1_1 a1_2 a1_3 a1_4 a1_5 a1_6 a1_7 a1_8 a1_9 a1_10 = some r) : ACalls Try.prog G 12 [] [.agg [(sv_str a0_0), (sv_S_laws_PlantFoe a0_1), (sv_S_laws_PlantPlace a0_2), (sv_S_laws_PlantValve a0_3)], .agg [.int .i64 a1_0, .str a1_1, .int .i64 a1_2, .int .i64 a1_3, .int .i64 a1_4, (sv_str a1_5), (sv_S_laws_ClaimUse a1_6), (sv_str a1_7), (sv_str a1_8), .int .i64 a1_9, .bool a1_10]] [] (.bool r) := by
  refine acalls_of tok hP Try.func12 rfl (by kernel_rfl) [.tmp 4] rfl (by kernel_rfl) (Nat.le_of_ble_eq_true rfl) (.l .n (.l .n (.l .n (.l (.c .n .n) (.l .n (.l .n (.c .n (.l .n (.l .n (.c .n (.l .n (.l .n (.l (.c .n .n) .n))))))))))))) rfl ?_
  unfold laws_FnExactCtlWordOk.f at H
  conv => whnf
  revert H; refine bind_elim (fun t1543 A H => ?_)
  refine call_mk (laws_szPlant.ac A) (avAL_cons (avA_agg (avL_cons (av_shut' rfl) (avL_cons (av_shut' rfl) (avL_cons (av_shut' rfl) (avL_cons (av_shut' rfl) (avL_nil)))))) (avAL_cons (avA_shut' rfl) (avAL_nil))) (Or.inl rfl) rfl rfl (Nat.le_of_ble_eq_true rfl) ?_
  conv => whnf
  refine cut_ 80 [(2, .bp 0 0), (3, .bp 8 0), (5, .int .i64 t1543), (14, .bool (decide (t1543 < 0)))] [(0, .box [(sv_str a0_0), (sv_S_laws_PlantFoe a0_1), (sv_S_laws_PlantPlace a0_2), (sv_S_laws_PlantValve a0_3)]), (8, .box [.int .i64 a1_0, .str a1_1, .int .i64 a1_2, .int .i64 a1_3, .int .i64 a1_4, (sv_str a1_5), (sv_S_laws_ClaimUse a1_6), (sv_str a1_7), (sv_str a1_8), .int .i64 a1_9, .bool a1_10])] rfl ⟨.inl rfl, ⟨.inl rfl, ⟨.inl rfl, ⟨.inl rfl, trivial⟩⟩⟩⟩ ⟨rfl, ⟨rfl, trivial⟩⟩ ?_
  conv => whnf
  refine br_d H (fun c H => ?_) (fun c H => ?_)
  conv => whnf
  injection H with H; subst H
  exact ret_fz [] (rtA_eq rfl)
  conv => whnf
  revert H; refine bind_elim (fun t1545 A H => ?_)
  refine call_mk (laws_szCtlWord.ac A) (avAL_cons (avA_agg (avL_cons (av_shut' rfl) (avL_cons (av_shut' rfl) (avL_cons (av_shut' rfl) (avL_cons (av_shut' rfl) (avL_cons (av_shut' rfl) (avL_cons (av_shut' rfl) (avL_cons (av_shut' rfl) (avL_cons (av_shut' rfl) (avL_cons (av_shut' rfl) (avL_cons (av_shut' rfl) (avL_cons (av_shut' rfl) (avL_nil))))))))))))) (avAL_cons (avA_shut' rfl) (avAL_nil))) (Or.inl rfl) rfl rfl (Nat.le_of_ble_eq_true rfl) ?_
  conv => whnf
  refine br_d H (fun c H => ?_) (fun c H => ?_)
  conv => whnf
  injection H with H; subst H
  exact ret_fz [] (rtA_eq rfl)
  conv => whnf
  revert H; refine bind_elim (fun t1549 A H => ?_)
  refine call_mk (laws_toPlant.ac A) (avAL_cons (avA_agg (avL_cons (av_shut' rfl) (avL_cons (av_shut' rfl) (avL_cons (av_shut' rfl) (avL_cons (av_shut' rfl) (avL_nil)))))) (avAL_nil)) (Or.inl rfl) rfl rfl (Nat.le_of_ble_eq_true rfl) ?_
  conv => whnf
  revert H; refine bind_elim (fun t1550 A H => ?_)
  refine call_mk (laws_toCtlWord.ac A) (avAL_cons (avA_agg (avL_cons (av_shut' rfl) (avL_cons (av_shut' rfl) (avL_cons (av_shut' rfl) (avL_cons (av_shut' rfl) (avL_cons (av_shut' rfl) (avL_cons (av_shut' rfl) (avL_cons (av_shut' rfl) (avL_cons (av_shut' rfl) (avL_cons (av_shut' rfl) (avL_cons (av_shut' rfl) (avL_cons (av_shut' rfl) (avL_nil))))))))))))) (avAL_nil)) (Or.inl rfl) rfl rfl (Nat.le_of_ble_eq_true rfl) ?_
  conv => whnf
  revert H; refine bind_elim (fun t1551 A H => ?_)
  refine call_mk (spec_CtlWordOk.ac A) (avAL_cons (avA_agg (avL_cons (av_shut' rfl) (avL_cons (av_shut' rfl) (avL_cons (av_shut' rfl) (avL_cons (av_shut' rfl) (avL_nil)))))) (avAL_cons (avA_agg (avL_cons (av_shut' rfl) (avL_cons (av_shut' rfl) (avL_cons (av_shut' rfl) (avL_cons (av_shut' rfl) (avL_cons (av_shut' rfl) (avL_cons (av_shut' rfl) (avL_cons (av_shut' rfl) (avL_cons (av_shut' rfl) (avL_cons (av_shut' rfl) (avL_cons (av_shut' rfl) (avL_cons (av_shut' rfl) (avL_nil))))))))))))) (avAL_nil))) (Or.inl rfl) rfl rfl (Nat.le_of_ble_eq_true rfl) ?_
  conv => whnf
  refine cut_ 176 [(2, .bp 0 0), (3, .bp 8 0), (6, .bool t1551)] [(0, .box [(sv_str a0_0), (sv_S_laws_PlantFoe a0_1), (sv_S_laws_PlantPlace a0_2), (sv_S_laws_PlantValve a0_3)]), (8, .box [.int .i64 a1_0, .str a1_1, .int .i64 a1_2, .int .i64 a1_3, .int .i64 a1_4, (sv_str a1_5), (sv_S_laws_ClaimUse a1_6), (sv_str a1_7), (sv_str a1_8), .int .i64 a1_9, .bool a1_10])] rfl ⟨.inl rfl, ⟨.inl rfl, ⟨.inl rfl, trivial⟩⟩⟩ ⟨rfl, ⟨rfl, trivial⟩⟩ ?_
  conv => whnf
  revert H; refine bind_elim (fun t1553 A H => ?_)
  refine call_mk (laws_toPlant.ac A) (avAL_cons (avA_agg (avL_cons (av_shut' rfl) (avL_cons (av_shut' rfl) (avL_cons (av_shut' rfl) (avL_cons (av_shut' rfl) (avL_nil)))))) (avAL_nil)) (Or.inl rfl) rfl rfl (Nat.le_of_ble_eq_true rfl) ?_
  conv => whnf
  revert H; refine bind_elim (fun t1555 A H => ?_)
  refine call_mk (laws_toCtlWord.ac A) (avAL_cons (avA_agg (avL_cons (av_shut' rfl) (avL_cons (av_shut' rfl) (avL_cons (av_shut' rfl) (avL_cons (av_shut' rfl) (avL_cons (av_shut' rfl) (avL_cons (av_shut' rfl) (avL_cons (av_shut' rfl) (avL_cons (av_shut' rfl) (avL_cons (av_shut' rfl) (avL_cons (av_shut' rfl) (avL_cons (av_shut' rfl) (avL_nil))))))))))))) (avAL_nil)) (Or.inl rfl) rfl rfl (Nat.le_of_ble_eq_true rfl) ?_
  conv => whnf
  revert H; refine bind_elim (fun t1557 A H => ?_)
  refine call_mk (impl_CtlWordOk.ac A) (avAL_cons (avA_agg (avL_cons (av_shut' rfl) (avL_cons (av_shut' rfl) (avL_cons (av_shut' rfl) (avL_cons (av_shut' rfl) (avL_nil)))))) (avAL_cons (avA_agg (avL_cons (av_shut' rfl) (avL_cons (av_shut' rfl) (avL_cons (av_shut' rfl) (avL_cons (av_shut' rfl) (avL_cons (av_shut' rfl) (avL_cons (av_shut' rfl) (avL_cons (av_shut' rfl) (avL_cons (av_shut' rfl) (avL_cons (av_shut' rfl) (avL_cons (av_shut' rfl) (avL_cons (av_shut' rfl) (avL_nil))))))))))))) (avAL_nil))) (Or.inl rfl) rfl rfl (Nat.le_of_ble_eq_true rfl) ?_
  conv => whnf
  refine cut_ 272 [(2, .bp 0 0), (3, .bp 8 0), (6, .bool t1551), (7, .bp 192 0), (8, .bp 224 0), (9, .bool t1557)] [(0, .box [(sv_str a0_0), (sv_S_laws_PlantFoe a0_1), (sv_S_laws_PlantPlace a0_2), (sv_S_laws_PlantValve a0_3)]), (8, .box [.int .i64 a1_0, .str a1_1, .int .i64 a1_2, .int .i64 a1_3, .int .i64 a1_4, (sv_str a1_5), (sv_S_laws_ClaimUse a1_6), (sv_str a1_7), (sv_str a1_8), .int .i64 a1_9, .bool a1_10]), (192, .box [(sv_str t1553.1), (sv_S_impl_PlantFoe t1553.2.1), (sv_S_impl_PlantPlace t1553.2.2.1), (sv_S_impl_PlantValve t1553.2.2.2)]), (224, .box [.int .i64 t1555.1, .str t1555.2.1, .int .i64 t1555.2.2.1, .int .i64 t1555.2.2.2.1, .int .i64 t1555.2.2.2.2.1, (sv_str t1555.2.2.2.2.2.1), (sv_S_impl_ClaimUse t1555.2.2.2.2.2.2.1), (sv_str t1555.2.2.2.2.2.2.2.1), (sv_str t1555.2.2.2.2.2.2.2.2.1), .int .i64 t1555.2.2.2.2.2.2.2.2.2.1, .bool t1555.2.2.2.2.2.2.2.2.2.2])] rfl ⟨.inl rfl, ⟨.inl rfl, ⟨.inl rfl, ⟨.inl rfl, ⟨.inl rfl, ⟨.inl rfl, trivial⟩⟩⟩⟩⟩⟩ ⟨rfl, ⟨rfl, ⟨rfl, ⟨rfl, trivial⟩⟩⟩⟩ ?_
  conv => whnf
  refine br_t H (fun c H => ?_) (fun c H => ?_)
  conv => whnf
  injection H with H; subst H
  exact ret_fz [] (rtA_eq rfl)
  conv => whnf
  revert H; refine bind_elim (fun t1562 A H => ?_)
  refine call_mk (laws_toPlant.ac A) (avAL_cons (avA_agg (avL_cons (av_shut' rfl) (avL_cons (av_shut' rfl) (avL_cons (av_shut' rfl) (avL_cons (av_shut' rfl) (avL_nil)))))) (avAL_nil)) (Or.inl rfl) rfl rfl (Nat.le_of_ble_eq_true rfl) ?_
  conv => whnf
  revert H; refine bind_elim (fun t1563 A H => ?_)
  refine call_mk (laws_eqPlant.ac A) (avAL_cons (avA_agg (avL_cons (av_shut' rfl) (avL_cons (av_shut' rfl) (avL_cons (av_shut' rfl) (avL_cons (av_shut' rfl) (avL_nil)))))) (avAL_cons (avA_agg (avL_cons (av_shut' rfl) (avL_cons (av_shut' rfl) (avL_cons (av_shut' rfl) (avL_cons (av_shut' rfl) (avL_nil)))))) (avAL_nil))) (Or.inl rfl) rfl rfl (Nat.le_of_ble_eq_true rfl) ?_
  conv => whnf
  refine br_nt H (fun c H => ?_) (fun c H => ?_)
  conv => whnf
  revert H; refine bind_elim (fun t1568 A H => ?_)
  refine call_mk (laws_toCtlWord.ac A) (avAL_cons (avA_agg (avL_cons (av_shut' rfl) (avL_cons (av_shut' rfl) (avL_cons (av_shut' rfl) (avL_cons (av_shut' rfl) (avL_cons (av_shut' rfl) (avL_cons (av_shut' rfl) (avL_cons (av_shut' rfl) (avL_cons (av_shut' rfl) (avL_cons (av_shut' rfl) (avL_cons (av_shut' rfl) (avL_cons (av_shut' rfl) (avL_nil))))))))))))) (avAL_nil)) (Or.inl rfl) rfl rfl (Nat.le_of_ble_eq_true rfl) ?_
  conv => whnf
  revert H; refine bind_elim (fun t1569 A H => ?_)
  refine call_mk (laws_eqCtlWord.ac A) (avAL_cons (avA_agg (avL_cons (av_shut' rfl) (avL_cons (av_shut' rfl) (avL_cons (av_shut' rfl) (avL_cons (av_shut' rfl) (avL_cons (av_shut' rfl) (avL_cons (av_shut' rfl) (avL_cons (av_shut' rfl) (avL_cons (av_shut' rfl) (avL_cons (av_shut' rfl) (avL_cons (av_shut' rfl) (avL_cons (av_shut' rfl) (avL_nil))))))))))))) (avAL_cons (avA_agg (avL_cons (av_shut' rfl) (avL_cons (av_shut' rfl) (avL_cons (av_shut' rfl) (avL_cons (av_shut' rfl) (avL_cons (av_shut' rfl) (avL_cons (av_shut' rfl) (avL_cons (av_shut' rfl) (avL_cons (av_shut' rfl) (avL_cons (av_shut' rfl) (avL_cons (av_shut' rfl) (avL_cons (av_shut' rfl) (avL_nil))))))))))))) (avAL_nil))) (Or.inl rfl) rfl rfl (Nat.le_of_ble_eq_true rfl) ?_
  conv => whnf
  refine cut_ 376 [(44, .bool (!t1569))] [] rfl ⟨.inl rfl, trivial⟩ trivial ?_
  conv => whnf
  refine br_nt H (fun c H => ?_) (fun c H => ?_)
  conv => whnf
  injection H with H; subst H
  exact ret_fz [] (rtA_eq rfl)
  conv => whnf
  injection H with H; subst H
  exact ret_fz [] (rtA_eq rfl)
  conv => whnf
  injection H with H; subst H
  exact ret_fz [] (rtA_eq rfl)

end Go.Proofs.Ytamkmmkchdnkmaa.CW

