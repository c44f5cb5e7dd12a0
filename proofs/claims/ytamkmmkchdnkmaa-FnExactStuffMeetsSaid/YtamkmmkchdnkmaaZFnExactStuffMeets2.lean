import Derived.Test.YtamkmmkchdnkmaaZFnExactStuffMeets1
import Derived.Shelf.Lay
import Derived.Shelf.Sort.AssemblyIn
import Derived.Ground.SoProg
import Derived.Test.YtamkmmkchdnkmaaProg
import Derived.KernelRfl
set_option linter.unusedVariables false
set_option linter.unusedSimpArgs false
namespace Go.Proofs.Ytamkmmkchdnkmaa.SM
open Go Go.Aw Go.RowKit Go.Proofs
set_option maxRecDepth 100000
set_option maxHeartbeats 40000000
variable {G : Nat → Option Obj}
attribute [local irreducible] callE Lp Sq Cut RetOk Fits
theorem impl_StuffBookOk.ac {k : Nat} {a0_0 : List S_impl_StuffFoe} {a0_1 : List S_impl_StuffLot} {a0_2 : List S_impl_StuffVessel} {a0_3 : List S_impl_StuffOut} {r : Bool} (H : impl_StuffBookOk.f k a0_0 a0_1 a0_2 a0_3 = some r) : ACalls Try.prog G 16 [] [.agg [(sv_S_impl_StuffFoe a0_0), (sv_S_impl_StuffLot a0_1), (sv_S_impl_StuffVessel a0_2), (sv_S_impl_StuffOut a0_3)]] [] (.bool r) := by
  refine acalls_of tok hP Try.func16 rfl (by kernel_rfl) [.tmp 2] rfl (by kernel_rfl) (Nat.le_of_ble_eq_true rfl) (.l .n (.l (.c .n (.l (.c .n .n) .n)) (.l (.l .n (.l .n (.l .n (.l (.c .n (.c .n (.l (.c .n .n) .n))) .n)))) (.l (.l .n (.c .n (.l .n (.l (.l .n (.c .n (.l (.c .n .n) .n))) .n)))) (.l (.l .n (.l .n (.l .n (.l (.c .n (.c .n (.l (.c .n .n) .n))) .n)))) .n))))) rfl ?_
  unfold impl_StuffBookOk.f at H
  conv => whnf
  revert H; refine bind_elim (fun t1031 A H => ?_)
  refine call_mk (impl_StuffBook_pairs.ac A) (avAL_cons (avA_agg (avL_cons (av_shut' rfl) (avL_cons (av_shut' rfl) (avL_cons (av_shut' rfl) (avL_cons (av_shut' rfl) (avL_nil)))))) (avAL_nil)) (Or.inl rfl) rfl rfl (Nat.le_of_ble_eq_true rfl) ?_
  conv => whnf
  revert H; refine bind_elim (fun t1032 A H => ?_)
  refine call_mk (impl_foesOk.ac A) (avAL_cons (avA_shut' rfl) (avAL_cons (avA_shut' rfl) (avAL_nil))) (Or.inl rfl) rfl rfl (Nat.le_of_ble_eq_true rfl) ?_
  conv => whnf
  refine br_nt H (fun c H => ?_) (fun c H => ?_)
  conv => whnf
  refine Br.f ff_ ?_
  conv => whnf
  refine Br.f ff_ ?_
  conv => whnf
  refine Br.f ff_ ?_
  conv => whnf
  refine Br.f ff_ ?_
  conv => whnf
  refine br_d H (fun c H => ?_) (fun c H => ?_)
  conv => whnf
  refine Br.t ft_ ?_
  conv => whnf
  refine Br.t ft_ ?_
  conv => whnf
  refine Br.t ft_ ?_
  conv => whnf
  refine Br.t ft_ ?_
  conv => whnf
  refine Br.t rfl ?_
  conv => whnf
  refine Br.t rfl ?_
  conv => whnf
  refine Br.t rfl ?_
  conv => whnf
  refine Br.t rfl ?_
  conv => whnf
  refine Br.t rfl ?_
  conv => whnf
  refine cut_ 192 [(1, .bp 0 0), (30, .bool true)] [(0, .box [(sv_S_impl_StuffFoe a0_0), (sv_S_impl_StuffLot a0_1), (sv_S_impl_StuffVessel a0_2), (sv_S_impl_StuffOut a0_3)])] rfl ⟨.inl rfl, ⟨.inl rfl, trivial⟩⟩ ⟨rfl, trivial⟩ ?_
  conv => whnf
  refine Br.t rfl ?_
  conv => whnf
  refine cut_ 200 [(2, .bool false)] [] rfl ⟨.inl rfl, trivial⟩ trivial ?_
  conv => whnf
  injection H with H; subst H
  exact ret_fz [] (rtA_eq rfl)
  conv => whnf
  refine Br.f ff_ ?_
  conv => whnf
  refine Br.f ff_ ?_
  conv => whnf
  refine Br.f ff_ ?_
  conv => whnf
  refine Br.f ff_ ?_
  conv => whnf
  refine br_d H (fun c H => ?_) (fun c H => ?_)
  conv => whnf
  refine Br.t ft_ ?_
  conv => whnf
  refine Br.t ft_ ?_
  conv => whnf
  refine Br.t ft_ ?_
  conv => whnf
  refine Br.t ft_ ?_
  conv => whnf
  refine cut_ 192 [(1, .bp 0 0), (30, .bool true)] [(0, .box [(sv_S_impl_StuffFoe a0_0), (sv_S_impl_StuffLot a0_1), (sv_S_impl_StuffVessel a0_2), (sv_S_impl_StuffOut a0_3)])] rfl ⟨.inl rfl, ⟨.inl rfl, trivial⟩⟩ ⟨rfl, trivial⟩ ?_
  conv => whnf
  refine Br.t rfl ?_
  conv => whnf
  refine cut_ 200 [(2, .bool false)] [] rfl ⟨.inl rfl, trivial⟩ trivial ?_
  conv => whnf
  injection H with H; subst H
  exact ret_fz [] (rtA_eq rfl)
  conv => whnf
  refine Br.f ff_ ?_
  conv => whnf
  refine Br.f ff_ ?_
  conv => whnf
  refine Br.f ff_ ?_
  conv => whnf
  refine Br.f ff_ ?_
  conv => whnf
  refine cut_ 192 [(1, .bp 0 0), (30, .bool (decide ((a0_3.length : Int) > 12)))] [(0, .box [(sv_S_impl_StuffFoe a0_0), (sv_S_impl_StuffLot a0_1), (sv_S_impl_StuffVessel a0_2), (sv_S_impl_StuffOut a0_3)])] rfl ⟨.inl rfl, ⟨.inl rfl, trivial⟩⟩ ⟨rfl, trivial⟩ ?_
  conv => whnf
  refine br_d H (fun c H => ?_) (fun c H => ?_)
  conv => whnf
  refine cut_ 200 [(2, .bool false)] [] rfl ⟨.inl rfl, trivial⟩ trivial ?_
  conv => whnf
  injection H with H; subst H
  exact ret_fz [] (rtA_eq rfl)
  conv => whnf
  refine impl_StuffBookOk.l0_lp (a0_0 := a0_0) (a0_1 := a0_1) (a0_2 := a0_2) (a0_3 := a0_3) (k := k) H [] (fits_of ⟨.inl ⟨rfl, rfl⟩, trivial⟩ trivial fi_ trivial rfl) ?_
  intro k x34 hk H; rcases k with _ | k; exact none_elim H; rw [impl_StuffBookOk.l0] at H; conv => whnf
  refine br_d H (fun c H => ?_) (fun c H => ?_)
  conv => whnf
  refine nd_ H (fun c H => ?_)
  conv => whnf
  refine Nd.mk nf_ ?_
  conv => whnf
  refine El.mk (rdm_en_S_impl_StuffLot _ _ nf_ nf_) ?_
  conv => whnf
  refine cut_ 280 [(1, .bp 0 0), (3, .int .i64 x34), (4, .bp 256 0), (32, (sv_S_impl_StuffLot a0_1)), (33, .int .i64 (a0_1.length : Int)), (34, .int .i64 x34)] [(0, .box [(sv_S_impl_StuffFoe a0_0), (sv_S_impl_StuffLot a0_1), (sv_S_impl_StuffVessel a0_2), (sv_S_impl_StuffOut a0_3)]), (256, .box [.str ((rd_impl_StuffLot a0_1 x34).f0), .str ((rd_impl_StuffLot a0_1 x34).f1)])] rfl ⟨.inl rfl, ⟨.inl rfl, ⟨.inl rfl, ⟨.inl rfl, ⟨.inl rfl, ⟨.inl rfl, trivial⟩⟩⟩⟩⟩⟩ ⟨rfl, ⟨rfl, trivial⟩⟩ ?_
  conv => whnf
  revert H; refine bind_elim (fun t1039 A H => ?_)
  refine call_mk (impl_isName.ac A) (avAL_cons (avA_shut' rfl) (avAL_nil)) (Or.inl rfl) rfl rfl (Nat.le_of_ble_eq_true rfl) ?_
  conv => whnf
  refine br_nt H (fun c H => ?_) (fun c H => ?_)
  conv => whnf
  refine Br.f ff_ ?_
  conv => whnf
  refine Br.f ff_ ?_
  conv => whnf
  revert H; refine bind_elim (fun t1040 A H => ?_)
  refine call_mk (impl_isName.ac A) (avAL_cons (avA_shut' rfl) (avAL_nil)) (Or.inl rfl) rfl rfl (Nat.le_of_ble_eq_true rfl) ?_
  conv => whnf
  refine Br.f ff_ ?_
  conv => whnf
  refine Br.f ff_ ?_
  conv => whnf
  refine br_nt H (fun c H => ?_) (fun c H => ?_)
  conv => whnf
  refine Br.f ff_ ?_
  conv => whnf
  refine Br.f ff_ ?_
  conv => whnf
  refine br_d H (fun c H => ?_) (fun c H => ?_)
  conv => whnf
  refine Br.t ft_ ?_
  conv => whnf
  refine Br.t ft_ ?_
  conv => whnf
  refine Br.t ft_ ?_
  conv => whnf
  refine Br.t ft_ ?_
  conv => whnf
  refine nd_ H (fun c H => ?_)
  conv => whnf
  refine nd_ H (fun c H => ?_)
  conv => whnf
  refine El.mk (rdm_en_S_impl_StuffLot _ _ nf_ nf_) ?_
  conv => whnf
  refine Br.t ft_ ?_
  conv => whnf
  refine Br.t ft_ ?_
  conv => whnf
  refine Br.t ft_ ?_
  conv => whnf
  refine Br.t ft_ ?_
  conv => whnf
  refine Br.t ft_ ?_
  conv => whnf
  refine Br.f ff_ ?_
  conv => whnf
  refine Br.t ft_ ?_
  conv => whnf
  refine Br.f ff_ ?_
  conv => whnf
  refine cut_ 488 [(1, .bp 0 0), (32, (sv_S_impl_StuffLot a0_1)), (33, .int .i64 (a0_1.length : Int)), (34, .int .i64 x34), (64, .bool (!(Op.bytesLess ((rd_impl_StuffLot a0_1 (wrap64 (x34 - 1))).f0).toList ((rd_impl_StuffLot a0_1 x34).f0).toList)))] [(0, .box [(sv_S_impl_StuffFoe a0_0), (sv_S_impl_StuffLot a0_1), (sv_S_impl_StuffVessel a0_2), (sv_S_impl_StuffOut a0_3)])] rfl ⟨.inl rfl, ⟨.inl rfl, ⟨.inl rfl, ⟨.inl rfl, ⟨.inl rfl, trivial⟩⟩⟩⟩⟩ ⟨rfl, trivial⟩ ?_
  conv => whnf
  refine br_nt H (fun c H => ?_) (fun c H => ?_)
  conv => whnf
  exact ⟨(k, wrap64 (x34 + 1)), [], ⟨H, lt_⟩, lt_, (fits_of ⟨.inl ⟨rfl, rfl⟩, trivial⟩ trivial fi_ trivial rfl)⟩
  conv => whnf
  refine cut_ 496 [(2, .bool false)] [] rfl ⟨.inl rfl, trivial⟩ trivial ?_
  conv => whnf
  injection H with H; subst H
  exact ret_fz [] (rtA_eq rfl)
  conv => whnf
  refine Br.f ff_ ?_
  conv => whnf
  refine Br.f ff_ ?_
  conv => whnf
  refine Br.f ff_ ?_
  conv => whnf
  refine Br.f ff_ ?_
  conv => whnf
  refine Br.f ff_ ?_
  conv => whnf
  refine Br.f ff_ ?_
  conv => whnf
  refine Br.f ff_ ?_
  conv => whnf
  refine Br.f ff_ ?_
  conv => whnf
  refine Br.f ff_ ?_
  conv => whnf
  refine Br.f ff_ ?_
  conv => whnf
  refine Br.f ff_ ?_
  conv => whnf
  refine Br.f ff_ ?_
  conv => whnf
  refine cut_ 488 [(1, .bp 0 0), (32, (sv_S_impl_StuffLot a0_1)), (33, .int .i64 (a0_1.length : Int)), (34, .int .i64 x34), (64, .bool false)] [(0, .box [(sv_S_impl_StuffFoe a0_0), (sv_S_impl_StuffLot a0_1), (sv_S_impl_StuffVessel a0_2), (sv_S_impl_StuffOut a0_3)])] rfl ⟨.inl rfl, ⟨.inl rfl, ⟨.inl rfl, ⟨.inl rfl, ⟨.inl rfl, trivial⟩⟩⟩⟩⟩ ⟨rfl, trivial⟩ ?_
  conv => whnf
  refine Br.f rfl ?_
  conv => whnf
  exact ⟨(k, wrap64 (x34 + 1)), [], ⟨H, lt_⟩, lt_, (fits_of ⟨.inl ⟨rfl, rfl⟩, trivial⟩ trivial fi_ trivial rfl)⟩
  conv => whnf
  refine Br.t ft_ ?_
  conv => whnf
  refine Br.t ft_ ?_
  conv => whnf
  refine Br.t ft_ ?_
  conv => whnf
  refine Br.t ft_ ?_
  conv => whnf
  refine cut_ 488 [(1, .bp 0 0), (32, (sv_S_impl_StuffLot a0_1)), (33, .int .i64 (a0_1.length : Int)), (34, .int .i64 x34), (64, .bool true)] [(0, .box [(sv_S_impl_StuffFoe a0_0), (sv_S_impl_StuffLot a0_1), (sv_S_impl_StuffVessel a0_2), (sv_S_impl_StuffOut a0_3)])] rfl ⟨.inl rfl, ⟨.inl rfl, ⟨.inl rfl, ⟨.inl rfl, ⟨.inl rfl, trivial⟩⟩⟩⟩⟩ ⟨rfl, trivial⟩ ?_
  conv => whnf
  refine Br.t rfl ?_
  conv => whnf
  refine cut_ 496 [(2, .bool false)] [] rfl ⟨.inl rfl, trivial⟩ trivial ?_
  conv => whnf
  injection H with H; subst H
  exact ret_fz [] (rtA_eq rfl)
  conv => whnf
  refine Br.t ft_ ?_
  conv => whnf
  refine Br.t ft_ ?_
  conv => whnf
  refine Br.t ft_ ?_
  conv => whnf
  refine Br.t ft_ ?_
  conv => whnf
  refine Br.t rfl ?_
  conv => whnf
  refine Br.t rfl ?_
  conv => whnf
  refine Br.t rfl ?_
  conv => whnf
  refine Br.t rfl ?_
  conv => whnf
  refine Br.t rfl ?_
  conv => whnf
  refine cut_ 488 [(1, .bp 0 0), (32, (sv_S_impl_StuffLot a0_1)), (33, .int .i64 (a0_1.length : Int)), (34, .int .i64 x34), (64, .bool true)] [(0, .box [(sv_S_impl_StuffFoe a0_0), (sv_S_impl_StuffLot a0_1), (sv_S_impl_StuffVessel a0_2), (sv_S_impl_StuffOut a0_3)])] rfl ⟨.inl rfl, ⟨.inl rfl, ⟨.inl rfl, ⟨.inl rfl, ⟨.inl rfl, trivial⟩⟩⟩⟩⟩ ⟨rfl, trivial⟩ ?_
  conv => whnf
  refine Br.t rfl ?_
  conv => whnf
  refine cut_ 496 [(2, .bool false)] [] rfl ⟨.inl rfl, trivial⟩ trivial ?_
  conv => whnf
  injection H with H; subst H
  exact ret_fz [] (rtA_eq rfl)
  conv => whnf
  refine impl_StuffBookOk.l1_lp (a0_0 := a0_0) (a0_1 := a0_1) (a0_2 := a0_2) (a0_3 := a0_3) (k := k) H [] (fits_of ⟨.inl ⟨rfl, rfl⟩, trivial⟩ trivial fi_ trivial rfl) ?_
  intro k x69 hk H; rcases k with _ | k; exact none_elim H; rw [impl_StuffBookOk.l1] at H; conv => whnf
  refine cut_ 272 [(1, .bp 0 0), (67, (sv_S_impl_StuffVessel a0_2)), (68, .int .i64 (a0_2.length : Int)), (69, .int .i64 x69), (70, .bool (decide (x69 < (a0_2.length : Int))))] [(0, .box [(sv_S_impl_StuffFoe a0_0), (sv_S_impl_StuffLot a0_1), (sv_S_impl_StuffVessel a0_2), (sv_S_impl_StuffOut a0_3)])] rfl ⟨.inl rfl, ⟨.inl rfl, ⟨.inl rfl, ⟨.inl rfl, ⟨.inl rfl, trivial⟩⟩⟩⟩⟩ ⟨rfl, trivial⟩ ?_
  conv => whnf
  refine br_d H (fun c H => ?_) (fun c H => ?_)
  conv => whnf
  refine nd_ H (fun c H => ?_)
  conv => whnf
  refine Nd.mk nf_ ?_
  conv => whnf
  refine El.mk (rdm_en_S_impl_StuffVessel _ _ nf_ nf_) ?_
  conv => whnf
  revert H; refine bind_elim (fun t1050 A H => ?_)
  refine call_mk (impl_isName.ac A) (avAL_cons (avA_shut' rfl) (avAL_nil)) (Or.inl rfl) rfl rfl (Nat.le_of_ble_eq_true rfl) ?_
  conv => whnf
  refine br_nt H (fun c H => ?_) (fun c H => ?_)
  conv => whnf
  refine Br.f ff_ ?_
  conv => whnf
  refine Br.f ff_ ?_
  conv => whnf
  refine Br.f ff_ ?_
  conv => whnf
  refine br_d H (fun c H => ?_) (fun c H => ?_)
  conv => whnf
  refine Br.t ft_ ?_
  conv => whnf
  refine Br.t ft_ ?_
  conv => whnf
  refine Br.t ft_ ?_
  conv => whnf
  refine Br.t rfl ?_
  conv => whnf
  refine Br.t rfl ?_
  conv => whnf
  refine Br.t rfl ?_
  conv => whnf
  refine Br.t rfl ?_
  conv => whnf
  refine Br.t rfl ?_
  conv => whnf
  refine Br.t rfl ?_
  conv => whnf
  refine Br.t rfl ?_
  conv => whnf
  refine Br.t rfl ?_
  conv => whnf
  refine Br.t rfl ?_
  conv => whnf
  refine Br.t rfl ?_
  conv => whnf
  refine Br.t rfl ?_
  conv => whnf
  refine Br.t rfl ?_
  conv => whnf
  refine Br.t rfl ?_
  conv => whnf
  refine Br.t rfl ?_
  conv => whnf
  refine Br.t rfl ?_
  conv => whnf
  refine cut_ 648 [(1, .bp 0 0), (67, (sv_S_impl_StuffVessel a0_2)), (68, .int .i64 (a0_2.length : Int)), (69, .int .i64 x69), (114, .bool true)] [(0, .box [(sv_S_impl_StuffFoe a0_0), (sv_S_impl_StuffLot a0_1), (sv_S_impl_StuffVessel a0_2), (sv_S_impl_StuffOut a0_3)])] rfl ⟨.inl rfl, ⟨.inl rfl, ⟨.inl rfl, ⟨.inl rfl, ⟨.inl rfl, trivial⟩⟩⟩⟩⟩ ⟨rfl, trivial⟩ ?_
  conv => whnf
  refine Br.t rfl ?_
  conv => whnf
  refine cut_ 656 [(2, .bool false)] [] rfl ⟨.inl rfl, trivial⟩ trivial ?_
  conv => whnf
  injection H with H; subst H
  exact ret_fz [] (rtA_eq rfl)
  conv => whnf
  refine Br.f ff_ ?_
  conv => whnf
  refine Br.f ff_ ?_
  conv => whnf
  refine Br.f ff_ ?_
  conv => whnf
  refine br_d H (fun c H => ?_) (fun c H => ?_)
  conv => whnf
  refine Br.t ft_ ?_
  conv => whnf
  refine Br.t ft_ ?_
  conv => whnf
  refine Br.t ft_ ?_
  conv => whnf
  refine Br.t ft_ ?_
  conv => whnf
  refine Br.t rfl ?_
  conv => whnf
  refine Br.t rfl ?_
  conv => whnf
  refine Br.t rfl ?_
  conv => whnf
  refine Br.t rfl ?_
  conv => whnf
  refine Br.t rfl ?_
  conv => whnf
  refine Br.t rfl ?_
  conv => whnf
  refine Br.t rfl ?_
  conv => whnf
  refine Br.t rfl ?_
  conv => whnf
  refine Br.t rfl ?_
  conv => whnf
  refine Br.t rfl ?_
  conv => whnf
  refine cut_ 648 [(1, .bp 0 0), (67, (sv_S_impl_StuffVessel a0_2)), (68, .int .i64 (a0_2.length : Int)), (69, .int .i64 x69), (114, .bool true)] [(0, .box [(sv_S_impl_StuffFoe a0_0), (sv_S_impl_StuffLot a0_1), (sv_S_impl_StuffVessel a0_2), (sv_S_impl_StuffOut a0_3)])] rfl ⟨.inl rfl, ⟨.inl rfl, ⟨.inl rfl, ⟨.inl rfl, ⟨.inl rfl, trivial⟩⟩⟩⟩⟩ ⟨rfl, trivial⟩ ?_
  conv => whnf
  refine Br.t rfl ?_
  conv => whnf
  refine cut_ 656 [(2, .bool false)] [] rfl ⟨.inl rfl, trivial⟩ trivial ?_
  conv => whnf
  injection H with H; subst H
  exact ret_fz [] (rtA_eq rfl)
  conv => whnf
  refine Br.f ff_ ?_
  conv => whnf
  refine Br.f ff_ ?_
  conv => whnf
  refine br_d H (fun c H => ?_) (fun c H => ?_)
  conv => whnf
  refine Br.t ft_ ?_
  conv => whnf
  refine Br.t ft_ ?_
  conv => whnf
  refine Br.t ft_ ?_
  conv => whnf
  refine Br.t ft_ ?_
  conv => whnf
  refine nd_ H (fun c H => ?_)
  conv => whnf
  refine nd_ H (fun c H => ?_)
  conv => whnf
  refine El.mk (rdm_en_S_impl_StuffVessel _ _ nf_ nf_) ?_
  conv => whnf
  refine Br.t ft_ ?_
  conv => whnf
  refine Br.t ft_ ?_
  conv => whnf
  refine Br.t ft_ ?_
  conv => whnf
  refine Br.t ft_ ?_
  conv => whnf
  refine Br.t ft_ ?_
  conv => whnf
  refine Br.f ff_ ?_
  conv => whnf
  refine Br.t ft_ ?_
  conv => whnf
  refine Br.f ff_ ?_
  conv => whnf
  refine br_nt H (fun c H => ?_) (fun c H => ?_)
  conv => whnf
  refine Br.f ff_ ?_
  conv => whnf
  refine Br.f ff_ ?_
  conv => whnf
  refine Br.f ff_ ?_
  conv => whnf
  refine Br.f ff_ ?_
  conv => whnf
  refine Br.f ff_ ?_
  conv => whnf
  refine Br.f ff_ ?_
  conv => whnf
  refine Br.f ff_ ?_
  conv => whnf
  revert H; refine bind_elim (fun t1051 A H => ?_)
  refine call_mk (impl_StuffBook_held.ac A) (avAL_cons (avA_agg (avL_cons (av_shut' rfl) (avL_cons (av_shut' rfl) (avL_cons (av_shut' rfl) (avL_cons (av_shut' rfl) (avL_nil)))))) (avAL_cons (avA_shut' rfl) (avAL_cons (avA_shut' rfl) (avAL_cons (avA_shut' rfl) (avAL_nil))))) (Or.inl rfl) rfl rfl (Nat.le_of_ble_eq_true rfl) ?_
  conv => whnf
  refine Br.f ff_ ?_
  conv => whnf
  refine Br.f ff_ ?_
  conv => whnf
  refine cut_ 648 [(1, .bp 0 0), (67, (sv_S_impl_StuffVessel a0_2)), (68, .int .i64 (a0_2.length : Int)), (69, .int .i64 x69), (114, .bool (!t1051))] [(0, .box [(sv_S_impl_StuffFoe a0_0), (sv_S_impl_StuffLot a0_1), (sv_S_impl_StuffVessel a0_2), (sv_S_impl_StuffOut a0_3)])] rfl ⟨.inl rfl, ⟨.inl rfl, ⟨.inl rfl, ⟨.inl rfl, ⟨.inl rfl, trivial⟩⟩⟩⟩⟩ ⟨rfl, trivial⟩ ?_
  conv => whnf
  refine br_nt H (fun c H => ?_) (fun c H => ?_)
  conv => whnf
  exact ⟨(k, wrap64 (x69 + 1)), [], ⟨H, lt_⟩, lt_, (fits_of ⟨.inl ⟨rfl, rfl⟩, trivial⟩ trivial fi_ trivial rfl)⟩
  conv => whnf
  refine cut_ 656 [(2, .bool false)] [] rfl ⟨.inl rfl, trivial⟩ trivial ?_
  conv => whnf
  injection H with H; subst H
  exact ret_fz [] (rtA_eq rfl)
  conv => whnf
  refine Br.t ft_ ?_
  conv => whnf
  refine Br.t ft_ ?_
  conv => whnf
  refine Br.t ft_ ?_
  conv => whnf
  refine Br.t ft_ ?_
  conv => whnf
  refine Br.t ft_ ?_
  conv => whnf
  refine Br.t ft_ ?_
  conv => whnf
  refine Br.t ft_ ?_
  conv => whnf
  refine Br.t ft_ ?_
  conv => whnf
  refine Br.t ft_ ?_
  conv => whnf
  refine cut_ 648 [(1, .bp 0 0), (67, (sv_S_impl_StuffVessel a0_2)), (68, .int .i64 (a0_2.length : Int)), (69, .int .i64 x69), (114, .bool true)] [(0, .box [(sv_S_impl_StuffFoe a0_0), (sv_S_impl_StuffLot a0_1), (sv_S_impl_StuffVessel a0_2), (sv_S_impl_StuffOut a0_3)])] rfl ⟨.inl rfl, ⟨.inl rfl, ⟨.inl rfl, ⟨.inl rfl, ⟨.inl rfl, trivial⟩⟩⟩⟩⟩ ⟨rfl, trivial⟩ ?_
  conv => whnf
  refine Br.t rfl ?_
  conv => whnf
  refine cut_ 656 [(2, .bool false)] [] rfl ⟨.inl rfl, trivial⟩ trivial ?_
  conv => whnf
  injection H with H; subst H
  exact ret_fz [] (rtA_eq rfl)
  conv => whnf
  refine Br.f ff_ ?_
  conv => whnf
  refine Br.f ff_ ?_
  conv => whnf
  refine Br.f ff_ ?_
  conv => whnf
  refine Br.f ff_ ?_
  conv => whnf
  refine Br.f ff_ ?_
  conv => whnf
  refine Br.f ff_ ?_
  conv => whnf
  refine Br.f ff_ ?_
  conv => whnf
  refine Br.f ff_ ?_
  conv => whnf
  refine Br.f ff_ ?_
  conv => whnf
  refine Br.f ff_ ?_
  conv => whnf
  refine Br.f ff_ ?_
  conv => whnf
  refine Br.f ff_ ?_
  conv => whnf
  refine Br.f rfl ?_
  conv => whnf
  refine Br.f rfl ?_
  conv => whnf
  refine Br.f rfl ?_
  conv => whnf
  refine Br.f rfl ?_
  conv => whnf
  refine Br.f rfl ?_
  conv => whnf
  refine Br.f rfl ?_
  conv => whnf
  refine Br.f rfl ?_
  conv => whnf
  refine Br.f rfl ?_
  conv => whnf
  revert H; refine bind_elim (fun t1052 A H => ?_)
  refine call_mk (impl_StuffBook_held.ac A) (avAL_cons (avA_agg (avL_cons (av_shut' rfl) (avL_cons (av_shut' rfl) (avL_cons (av_shut' rfl) (avL_cons (av_shut' rfl) (avL_nil)))))) (avAL_cons (avA_shut' rfl) (avAL_cons (avA_shut' rfl) (avAL_cons (avA_shut' rfl) (avAL_nil))))) (Or.inl rfl) rfl rfl (Nat.le_of_ble_eq_true rfl) ?_
  conv => whnf
  refine Br.f rfl ?_
  conv => whnf
  refine Br.f rfl ?_
  conv => whnf
  refine cut_ 648 [(1, .bp 0 0), (67, (sv_S_impl_StuffVessel a0_2)), (68, .int .i64 (a0_2.length : Int)), (69, .int .i64 x69), (114, .bool (!t1052))] [(0, .box [(sv_S_impl_StuffFoe a0_0), (sv_S_impl_StuffLot a0_1), (sv_S_impl_StuffVessel a0_2), (sv_S_impl_StuffOut a0_3)])] rfl ⟨.inl rfl, ⟨.inl rfl, ⟨.inl rfl, ⟨.inl rfl, ⟨.inl rfl, trivial⟩⟩⟩⟩⟩ ⟨rfl, trivial⟩ ?_
  conv => whnf
  refine br_nt H (fun c H => ?_) (fun c H => ?_)
  conv => whnf
  exact ⟨(k, wrap64 (x69 + 1)), [], ⟨H, lt_⟩, lt_, (fits_of ⟨.inl ⟨rfl, rfl⟩, trivial⟩ trivial fi_ trivial rfl)⟩
  conv => whnf
  refine cut_ 656 [(2, .bool false)] [] rfl ⟨.inl rfl, trivial⟩ trivial ?_
  conv => whnf
  injection H with H; subst H
  exact ret_fz [] (rtA_eq rfl)
  conv => whnf
  refine Br.t ft_ ?_
  conv => whnf
  refine Br.t ft_ ?_
  conv => whnf
  refine Br.t ft_ ?_
  conv => whnf
  refine Br.t rfl ?_
  conv => whnf
  refine Br.t rfl ?_
  conv => whnf
  refine Br.t rfl ?_
  conv => whnf
  refine Br.t rfl ?_
  conv => whnf
  refine Br.t rfl ?_
  conv => whnf
  refine Br.t rfl ?_
  conv => whnf
  refine Br.t rfl ?_
  conv => whnf
  refine Br.t rfl ?_
  conv => whnf
  refine Br.t rfl ?_
  conv => whnf
  refine Br.t rfl ?_
  conv => whnf
  refine Br.t rfl ?_
  conv => whnf
  refine Br.t rfl ?_
  conv => whnf
  refine Br.t rfl ?_
  conv => whnf
  refine Br.t rfl ?_
  conv => whnf
  refine Br.t rfl ?_
  conv => whnf
  refine Br.t rfl ?_
  conv => whnf
  refine Br.t rfl ?_
  conv => whnf
  refine Br.t rfl ?_
  conv => whnf
  refine Br.t rfl ?_
  conv => whnf
  refine cut_ 648 [(1, .bp 0 0), (67, (sv_S_impl_StuffVessel a0_2)), (68, .int .i64 (a0_2.length : Int)), (69, .int .i64 x69), (114, .bool true)] [(0, .box [(sv_S_impl_StuffFoe a0_0), (sv_S_impl_StuffLot a0_1), (sv_S_impl_StuffVessel a0_2), (sv_S_impl_StuffOut a0_3)])] rfl ⟨.inl rfl, ⟨.inl rfl, ⟨.inl rfl, ⟨.inl rfl, ⟨.inl rfl, trivial⟩⟩⟩⟩⟩ ⟨rfl, trivial⟩ ?_
  conv => whnf
  refine Br.t rfl ?_
  conv => whnf
  refine cut_ 656 [(2, .bool false)] [] rfl ⟨.inl rfl, trivial⟩ trivial ?_
  conv => whnf
  injection H with H; subst H
  exact ret_fz [] (rtA_eq rfl)
  conv => whnf
  refine impl_StuffBookOk.l2_lp (a0_0 := a0_0) (a0_1 := a0_1) (a0_2 := a0_2) (a0_3 := a0_3) (k := k) H [] (fits_of ⟨.inl ⟨rfl, rfl⟩, trivial⟩ trivial fi_ trivial rfl) ?_
  intro k x119 hk H; rcases k with _ | k; exact none_elim H; rw [impl_StuffBookOk.l2] at H; conv => whnf
  refine br_d H (fun c H => ?_) (fun c H => ?_)
  conv => whnf
  refine nd_ H (fun c H => ?_)
  conv => whnf
  refine Nd.mk nf_ ?_
  conv => whnf
  refine El.mk (rdm_en_S_impl_StuffOut _ _ nf_ nf_) ?_
  conv => whnf
  refine cut_ 360 [(1, .bp 0 0), (7, .int .i64 x119), (8, .bp 336 0), (117, (sv_S_impl_StuffOut a0_3)), (118, .int .i64 (a0_3.length : Int)), (119, .int .i64 x119)] [(0, .box [(sv_S_impl_StuffFoe a0_0), (sv_S_impl_StuffLot a0_1), (sv_S_impl_StuffVessel a0_2), (sv_S_impl_StuffOut a0_3)]), (336, .box [.str ((rd_impl_StuffOut a0_3 x119).f0), (sv_S_impl_StuffPart ((rd_impl_StuffOut a0_3 x119).f1)), (sv_str ((rd_impl_StuffOut a0_3 x119).f2))])] rfl ⟨.inl rfl, ⟨.inl rfl, ⟨.inl rfl, ⟨.inl rfl, ⟨.inl rfl, ⟨.inl rfl, trivial⟩⟩⟩⟩⟩⟩ ⟨rfl, ⟨rfl, trivial⟩⟩ ?_
  conv => whnf
  revert H; refine bind_elim (fun t1065 A H => ?_)
  refine call_mk (impl_isName.ac A) (avAL_cons (avA_shut' rfl) (avAL_nil)) (Or.inl rfl) rfl rfl (Nat.le_of_ble_eq_true rfl) ?_
  conv => whnf
  refine br_nt H (fun c H => ?_) (fun c H => ?_)
  conv => whnf
  refine Br.f ff_ ?_
  conv => whnf
  refine Br.f ff_ ?_
  conv => whnf
  refine Br.f ff_ ?_
  conv => whnf
  revert H; refine bind_elim (fun t1066 A H => ?_)
  refine call_mk (impl_StuffBook_vessel.ac A) (avAL_cons (avA_agg (avL_cons (av_shut' rfl) (avL_cons (av_shut' rfl) (avL_cons (av_shut' rfl) (avL_cons (av_shut' rfl) (avL_nil)))))) (avAL_cons (avA_shut' rfl) (avAL_nil))) (Or.inl rfl) rfl rfl (Nat.le_of_ble_eq_true rfl) ?_
  conv => whnf
  refine Br.f ff_ ?_
  conv => whnf
  refine Br.f ff_ ?_
  conv => whnf
  refine br_d H (fun c H => ?_) (fun c H => ?_)
  conv => whnf
  refine Br.t ft_ ?_
  conv => whnf
  refine Br.t ft_ ?_
  conv => whnf
  refine Br.t ft_ ?_
  conv => whnf
  refine Br.t ft_ ?_
  conv => whnf
  refine Br.t rfl ?_
  conv => whnf
  refine Br.t rfl ?_
  conv => whnf
  refine Br.t rfl ?_
  conv => whnf
  refine Br.t rfl ?_
  conv => whnf
  refine Br.t rfl ?_
  conv => whnf
  refine Br.t rfl ?_
  conv => whnf
  refine Br.t rfl ?_
  conv => whnf
  refine Br.t rfl ?_
  conv => whnf
  refine cut_ 648 [(1, .bp 0 0), (117, (sv_S_impl_StuffOut a0_3)), (118, .int .i64 (a0_3.length : Int)), (119, .int .i64 x119), (159, .bool true)] [(0, .box [(sv_S_impl_StuffFoe a0_0), (sv_S_impl_StuffLot a0_1), (sv_S_impl_StuffVessel a0_2), (sv_S_impl_StuffOut a0_3)])] rfl ⟨.inl rfl, ⟨.inl rfl, ⟨.inl rfl, ⟨.inl rfl, ⟨.inl rfl, trivial⟩⟩⟩⟩⟩ ⟨rfl, trivial⟩ ?_
  conv => whnf
  refine Br.t rfl ?_
  conv => whnf
  refine cut_ 656 [(2, .bool false)] [] rfl ⟨.inl rfl, trivial⟩ trivial ?_
  conv => whnf
  injection H with H; subst H
  exact ret_fz [] (rtA_eq rfl)
  conv => whnf
  refine Br.f ff_ ?_
  conv => whnf
  refine Br.f ff_ ?_
  conv => whnf
  refine br_d H (fun c H => ?_) (fun c H => ?_)
  conv => whnf
  refine Br.t ft_ ?_
  conv => whnf
  refine Br.t ft_ ?_
  conv => whnf
  refine Br.t ft_ ?_
  conv => whnf
  refine Br.t ft_ ?_
  conv => whnf
  refine nd_ H (fun c H => ?_)
  conv => whnf
  refine nd_ H (fun c H => ?_)
  conv => whnf
  refine El.mk (rdm_en_S_impl_StuffOut _ _ nf_ nf_) ?_
  conv => whnf
  refine Br.t ft_ ?_
  conv => whnf
  refine Br.t ft_ ?_
  conv => whnf
  refine Br.t ft_ ?_
  conv => whnf
  refine Br.t ft_ ?_
  conv => whnf
  refine Br.t ft_ ?_
  conv => whnf
  refine Br.f ff_ ?_
  conv => whnf
  refine Br.t ft_ ?_
  conv => whnf
  refine Br.f ff_ ?_
  conv => whnf
  refine br_nt H (fun c H => ?_) (fun c H => ?_)
  conv => whnf
  refine Br.f ff_ ?_
  conv => whnf
  refine Br.f ff_ ?_
  conv => whnf
  refine Br.f ff_ ?_
  conv => whnf
  refine Br.f ff_ ?_
  conv => whnf
  refine Br.f ff_ ?_
  conv => whnf
  revert H; refine bind_elim (fun t1067 A H => ?_)
  refine call_mk (impl_StuffBook_held.ac A) (avAL_cons (avA_agg (avL_cons (av_shut' rfl) (avL_cons (av_shut' rfl) (avL_cons (av_shut' rfl) (avL_cons (av_shut' rfl) (avL_nil)))))) (avAL_cons (avA_shut' rfl) (avAL_cons (avA_shut' rfl) (avAL_cons (avA_shut' rfl) (avAL_nil))))) (Or.inl rfl) rfl rfl (Nat.le_of_ble_eq_true rfl) ?_
  conv => whnf
  refine Br.f ff_ ?_
  conv => whnf
  refine Br.f ff_ ?_
  conv => whnf
  refine cut_ 648 [(1, .bp 0 0), (117, (sv_S_impl_StuffOut a0_3)), (118, .int .i64 (a0_3.length : Int)), (119, .int .i64 x119), (159, .bool (!t1067))] [(0, .box [(sv_S_impl_StuffFoe a0_0), (sv_S_impl_StuffLot a0_1), (sv_S_impl_StuffVessel a0_2), (sv_S_impl_StuffOut a0_3)])] rfl ⟨.inl rfl, ⟨.inl rfl, ⟨.inl rfl, ⟨.inl rfl, ⟨.inl rfl, trivial⟩⟩⟩⟩⟩ ⟨rfl, trivial⟩ ?_
  conv => whnf
  refine br_nt H (fun c H => ?_) (fun c H => ?_)
  conv => whnf
  exact ⟨(k, wrap64 (x119 + 1)), [], ⟨H, lt_⟩, lt_, (fits_of ⟨.inl ⟨rfl, rfl⟩, trivial⟩ trivial fi_ trivial rfl)⟩
  conv => whnf
  refine cut_ 656 [(2, .bool false)] [] rfl ⟨.inl rfl, trivial⟩ trivial ?_
  conv => whnf
  injection H with H; subst H
  exact ret_fz [] (rtA_eq rfl)
  conv => whnf
  refine Br.t ft_ ?_
  conv => whnf
  refine Br.t ft_ ?_
  conv => whnf
  refine Br.t ft_ ?_
  conv => whnf
  refine Br.t ft_ ?_
  conv => whnf
  refine Br.t ft_ ?_
  conv => whnf
  refine Br.t ft_ ?_
  conv => whnf
  refine Br.t ft_ ?_
  conv => whnf
  refine cut_ 648 [(1, .bp 0 0), (117, (sv_S_impl_StuffOut a0_3)), (118, .int .i64 (a0_3.length : Int)), (119, .int .i64 x119), (159, .bool true)] [(0, .box [(sv_S_impl_StuffFoe a0_0), (sv_S_impl_StuffLot a0_1), (sv_S_impl_StuffVessel a0_2), (sv_S_impl_StuffOut a0_3)])] rfl ⟨.inl rfl, ⟨.inl rfl, ⟨.inl rfl, ⟨.inl rfl, ⟨.inl rfl, trivial⟩⟩⟩⟩⟩ ⟨rfl, trivial⟩ ?_
  conv => whnf
  refine Br.t rfl ?_
  conv => whnf
  refine cut_ 656 [(2, .bool false)] [] rfl ⟨.inl rfl, trivial⟩ trivial ?_
  conv => whnf
  injection H with H; subst H
  exact ret_fz [] (rtA_eq rfl)
  conv => whnf
  refine Br.f ff_ ?_
  conv => whnf
  refine Br.f ff_ ?_
  conv => whnf
  refine Br.f ff_ ?_
  conv => whnf
  refine Br.f ff_ ?_
  conv => whnf
  refine Br.f ff_ ?_
  conv => whnf
  refine Br.f ff_ ?_
  conv => whnf
  refine Br.f ff_ ?_
  conv => whnf
  refine Br.f ff_ ?_
  conv => whnf
  refine Br.f ff_ ?_
  conv => whnf
  refine Br.f ff_ ?_
  conv => whnf
  refine Br.f ff_ ?_
  conv => whnf
  refine Br.f ff_ ?_
  conv => whnf
  refine Br.f rfl ?_
  conv => whnf
  refine Br.f rfl ?_
  conv => whnf
  refine Br.f rfl ?_
  conv => whnf
  refine Br.f rfl ?_
  conv => whnf
  refine Br.f rfl ?_
  conv => whnf
  refine Br.f rfl ?_
  conv => whnf
  revert H; refine bind_elim (fun t1068 A H => ?_)
  refine call_mk (impl_StuffBook_held.ac A) (avAL_cons (avA_agg (avL_cons (av_shut' rfl) (avL_cons (av_shut' rfl) (avL_cons (av_shut' rfl) (avL_cons (av_shut' rfl) (avL_nil)))))) (avAL_cons (avA_shut' rfl) (avAL_cons (avA_shut' rfl) (avAL_cons (avA_shut' rfl) (avAL_nil))))) (Or.inl rfl) rfl rfl (Nat.le_of_ble_eq_true rfl) ?_
  conv => whnf
  refine Br.f rfl ?_
  conv => whnf
  refine Br.f rfl ?_
  conv => whnf
  refine cut_ 648 [(1, .bp 0 0), (117, (sv_S_impl_StuffOut a0_3)), (118, .int .i64 (a0_3.length : Int)), (119, .int .i64 x119), (159, .bool (!t1068))] [(0, .box [(sv_S_impl_StuffFoe a0_0), (sv_S_impl_StuffLot a0_1), (sv_S_impl_StuffVessel a0_2), (sv_S_impl_StuffOut a0_3)])] rfl ⟨.inl rfl, ⟨.inl rfl, ⟨.inl rfl, ⟨.inl rfl, ⟨.inl rfl, trivial⟩⟩⟩⟩⟩ ⟨rfl, trivial⟩ ?_
  conv => whnf
  refine br_nt H (fun c H => ?_) (fun c H => ?_)
  conv => whnf
  exact ⟨(k, wrap64 (x119 + 1)), [], ⟨H, lt_⟩, lt_, (fits_of ⟨.inl ⟨rfl, rfl⟩, trivial⟩ trivial fi_ trivial rfl)⟩
  conv => whnf
  refine cut_ 656 [(2, .bool false)] [] rfl ⟨.inl rfl, trivial⟩ trivial ?_
  conv => whnf
  injection H with H; subst H
  exact ret_fz [] (rtA_eq rfl)
  conv => whnf
  refine Br.t ft_ ?_
  conv => whnf
  refine Br.t ft_ ?_
  conv => whnf
  refine Br.t ft_ ?_
  conv => whnf
  refine Br.t ft_ ?_
  conv => whnf
  refine Br.t ft_ ?_
  conv => whnf
  refine Br.t rfl ?_
  conv => whnf
  refine Br.t rfl ?_
  conv => whnf
  refine Br.t rfl ?_
  conv => whnf
  refine Br.t rfl ?_
  conv => whnf
  refine Br.t rfl ?_
  conv => whnf
  refine Br.t rfl ?_
  conv => whnf
  refine Br.t rfl ?_
  conv => whnf
  refine Br.t rfl ?_
  conv => whnf
  refine Br.t rfl ?_
  conv => whnf
  refine Br.t rfl ?_
  conv => whnf
  refine Br.t rfl ?_
  conv => whnf
  refine Br.t rfl ?_
  conv => whnf
  refine Br.t rfl ?_
  conv => whnf
  refine cut_ 648 [(1, .bp 0 0), (117, (sv_S_impl_StuffOut a0_3)), (118, .int .i64 (a0_3.length : Int)), (119, .int .i64 x119), (159, .bool true)] [(0, .box [(sv_S_impl_StuffFoe a0_0), (sv_S_impl_StuffLot a0_1), (sv_S_impl_StuffVessel a0_2), (sv_S_impl_StuffOut a0_3)])] rfl ⟨.inl rfl, ⟨.inl rfl, ⟨.inl rfl, ⟨.inl rfl, ⟨.inl rfl, trivial⟩⟩⟩⟩⟩ ⟨rfl, trivial⟩ ?_
  conv => whnf
  refine Br.t rfl ?_
  conv => whnf
  refine cut_ 656 [(2, .bool false)] [] rfl ⟨.inl rfl, trivial⟩ trivial ?_
  conv => whnf
  injection H with H; subst H
  exact ret_fz [] (rtA_eq rfl)
  conv => whnf
  injection H with H; subst H
  exact ret_fz [] (rtA_eq rfl)
  conv => whnf
  refine Br.t ft_ ?_
  conv => whnf
  refine Br.t ft_ ?_
  conv => whnf
  refine Br.t ft_ ?_
  conv => whnf
  refine Br.t ft_ ?_
  conv => whnf
  refine Br.t rfl ?_
  conv => whnf
  refine Br.t rfl ?_
  conv => whnf
  refine Br.t rfl ?_
  conv => whnf
  refine Br.t rfl ?_
  conv => whnf
  refine Br.t rfl ?_
  conv => whnf
  refine Br.t rfl ?_
  conv => whnf
  refine Br.t rfl ?_
  conv => whnf
  refine Br.t rfl ?_
  conv => whnf
  refine Br.t rfl ?_
  conv => whnf
  refine Br.t rfl ?_
  conv => whnf
  refine cut_ 192 [(1, .bp 0 0), (30, .bool true)] [(0, .box [(sv_S_impl_StuffFoe a0_0), (sv_S_impl_StuffLot a0_1), (sv_S_impl_StuffVessel a0_2), (sv_S_impl_StuffOut a0_3)])] rfl ⟨.inl rfl, ⟨.inl rfl, trivial⟩⟩ ⟨rfl, trivial⟩ ?_
  conv => whnf
  refine Br.t rfl ?_
  conv => whnf
  refine cut_ 200 [(2, .bool false)] [] rfl ⟨.inl rfl, trivial⟩ trivial ?_
  conv => whnf
  injection H with H; subst H
  exact ret_fz [] (rtA_eq rfl)
theorem impl_StuffMeets.ac {k : Nat} {a0_0 : List S_impl_StuffFoe} {a0_1 : List S_impl_StuffLot} {a0_2 : List S_impl_StuffVessel} {a0_3 : List S_impl_StuffOut} {a1 : ByteArray} {a2 : ByteArray} {r : Bool} (H : impl_StuffMeets.f k a0_0 a0_1 a0_2 a0_3 a1 a2 = some r) : ACalls Try.prog G 19 [] [.agg [(sv_S_impl_StuffFoe a0_0), (sv_S_impl_StuffLot a0_1), (sv_S_impl_StuffVessel a0_2), (sv_S_impl_StuffOut a0_3)], .str a1, .str a2] [] (.bool r) := by
  refine acalls_of tok hP Try.func19 rfl (by kernel_rfl) [.tmp 6] rfl (by kernel_rfl) (Nat.le_of_ble_eq_true rfl) (.l .n (.c .n (.c .n .n))) rfl ?_
  unfold impl_StuffMeets.f at H
  conv => whnf
  revert H; refine bind_elim (fun t1071 A H => ?_)
  refine call_mk (impl_StuffBook_vessel.ac A) (avAL_cons (avA_agg (avL_cons (av_shut' rfl) (avL_cons (av_shut' rfl) (avL_cons (av_shut' rfl) (avL_cons (av_shut' rfl) (avL_nil)))))) (avAL_cons (avA_shut' rfl) (avAL_nil))) (Or.inl rfl) rfl rfl (Nat.le_of_ble_eq_true rfl) ?_
  conv => whnf
  revert H; refine bind_elim (fun t1072 A H => ?_)
  refine call_mk (impl_StuffBook_vessel.ac A) (avAL_cons (avA_agg (avL_cons (av_shut' rfl) (avL_cons (av_shut' rfl) (avL_cons (av_shut' rfl) (avL_cons (av_shut' rfl) (avL_nil)))))) (avAL_cons (avA_shut' rfl) (avAL_nil))) (Or.inl rfl) rfl rfl (Nat.le_of_ble_eq_true rfl) ?_
  conv => whnf
  refine cut_ 80 [(3, .bp 0 0), (7, .int .i64 t1071), (8, .int .i64 t1072)] [(0, .box [(sv_S_impl_StuffFoe a0_0), (sv_S_impl_StuffLot a0_1), (sv_S_impl_StuffVessel a0_2), (sv_S_impl_StuffOut a0_3)])] rfl ⟨.inl rfl, ⟨.inl rfl, ⟨.inl rfl, trivial⟩⟩⟩ ⟨rfl, trivial⟩ ?_
  conv => whnf
  refine br_d H (fun c H => ?_) (fun c H => ?_)
  conv => whnf
  refine Br.t ft_ ?_
  conv => whnf
  refine Br.t ft_ ?_
  conv => whnf
  refine br_d H (fun c H => ?_) (fun c H => ?_)
  conv => whnf
  refine Br.t ft_ ?_
  conv => whnf
  revert H; refine bind_elim (fun t1078 A H => ?_)
  refine call_mk (impl_StuffBookOk.ac A) (avAL_cons (avA_agg (avL_cons (av_shut' rfl) (avL_cons (av_shut' rfl) (avL_cons (av_shut' rfl) (avL_cons (av_shut' rfl) (avL_nil)))))) (avAL_nil)) (Or.inl rfl) rfl rfl (Nat.le_of_ble_eq_true rfl) ?_
  conv => whnf
  refine Br.t ft_ ?_
  conv => whnf
  refine br_t H (fun c H => ?_) (fun c H => ?_)
  conv => whnf
  refine Br.t ft_ ?_
  conv => whnf
  revert H; refine bind_elim (fun t1079 A H => ?_)
  refine call_mk (impl_StuffBook_pairs.ac A) (avAL_cons (avA_agg (avL_cons (av_shut' rfl) (avL_cons (av_shut' rfl) (avL_cons (av_shut' rfl) (avL_cons (av_shut' rfl) (avL_nil)))))) (avAL_nil)) (Or.inl rfl) rfl rfl (Nat.le_of_ble_eq_true rfl) ?_
  conv => whnf
  refine Br.t ft_ ?_
  conv => whnf
  refine Br.t ft_ ?_
  conv => whnf
  refine Br.t ft_ ?_
  conv => whnf
  refine Br.t ft_ ?_
  conv => whnf
  refine Br.t ft_ ?_
  conv => whnf
  refine nd_ H (fun c H => ?_)
  conv => whnf
  refine nd_ H (fun c H => ?_)
  conv => whnf
  refine El.mk (rdm_en_S_impl_StuffVessel _ _ nf_ nf_) ?_
  conv => whnf
  refine Br.t ft_ ?_
  conv => whnf
  refine Br.t ft_ ?_
  conv => whnf
  refine Br.t ft_ ?_
  conv => whnf
  revert H; refine bind_elim (fun t1080 A H => ?_)
  refine call_mk (impl_StuffBook_stuffs.ac A) (avAL_cons (avA_agg (avL_cons (av_shut' rfl) (avL_cons (av_shut' rfl) (avL_cons (av_shut' rfl) (avL_cons (av_shut' rfl) (avL_nil)))))) (avAL_cons (avA_shut' rfl) (avAL_nil))) (Or.inl rfl) rfl rfl (Nat.le_of_ble_eq_true rfl) ?_
  conv => whnf
  refine Br.t ft_ ?_
  conv => whnf
  refine Br.t ft_ ?_
  conv => whnf
  refine Br.t ft_ ?_
  conv => whnf
  refine Br.t ft_ ?_
  conv => whnf
  refine Br.t ft_ ?_
  conv => whnf
  refine nd_ H (fun c H => ?_)
  conv => whnf
  refine nd_ H (fun c H => ?_)
  conv => whnf
  refine El.mk (rdm_en_S_impl_StuffVessel _ _ nf_ nf_) ?_
  conv => whnf
  refine Br.t ft_ ?_
  conv => whnf
  refine Br.t ft_ ?_
  conv => whnf
  refine Br.t ft_ ?_
  conv => whnf
  revert H; refine bind_elim (fun t1081 A H => ?_)
  refine call_mk (impl_StuffBook_stuffs.ac A) (avAL_cons (avA_agg (avL_cons (av_shut' rfl) (avL_cons (av_shut' rfl) (avL_cons (av_shut' rfl) (avL_cons (av_shut' rfl) (avL_nil)))))) (avAL_cons (avA_shut' rfl) (avAL_nil))) (Or.inl rfl) rfl rfl (Nat.le_of_ble_eq_true rfl) ?_
  conv => whnf
  refine Br.t ft_ ?_
  conv => whnf
  revert H; refine bind_elim (fun t1082 A H => ?_)
  refine call_mk (impl_anyFoes.ac A) (avAL_cons (avA_shut' rfl) (avAL_cons (avA_shut' rfl) (avAL_cons (avA_shut' rfl) (avAL_nil)))) (Or.inl rfl) rfl rfl (Nat.le_of_ble_eq_true rfl) ?_
  conv => whnf
  refine Br.t ft_ ?_
  conv => whnf
  refine cut_ 336 [(6, .bool t1082)] [] rfl ⟨.inl rfl, trivial⟩ trivial ?_
  conv => whnf
  injection H with H; subst H
  exact ret_fz [] (rtA_eq rfl)
  conv => whnf
  refine Br.f ff_ ?_
  conv => whnf
  refine Br.f ff_ ?_
  conv => whnf
  refine Br.f ff_ ?_
  conv => whnf
  refine Br.f ff_ ?_
  conv => whnf
  refine Br.f ff_ ?_
  conv => whnf
  refine Br.f ff_ ?_
  conv => whnf
  refine Br.f ff_ ?_
  conv => whnf
  refine Br.f ff_ ?_
  conv => whnf
  refine Br.f ff_ ?_
  conv => whnf
  refine Br.f ff_ ?_
  conv => whnf
  refine Br.f ff_ ?_
  conv => whnf
  refine Br.f ff_ ?_
  conv => whnf
  refine Br.f ff_ ?_
  conv => whnf
  refine Br.f ff_ ?_
  conv => whnf
  refine Br.f ff_ ?_
  conv => whnf
  refine Br.f ff_ ?_
  conv => whnf
  refine Br.f ff_ ?_
  conv => whnf
  refine Br.f ff_ ?_
  conv => whnf
  refine Br.f ff_ ?_
  conv => whnf
  refine cut_ 336 [(6, .bool false)] [] rfl ⟨.inl rfl, trivial⟩ trivial ?_
  conv => whnf
  injection H with H; subst H
  exact ret_fz [] (rtA_eq rfl)
  conv => whnf
  refine Br.f ff_ ?_
  conv => whnf
  refine Br.f ff_ ?_
  conv => whnf
  refine Br.f rfl ?_
  conv => whnf
  refine Br.f rfl ?_
  conv => whnf
  refine Br.f rfl ?_
  conv => whnf
  refine Br.f rfl ?_
  conv => whnf
  refine Br.f rfl ?_
  conv => whnf
  refine Br.f rfl ?_
  conv => whnf
  refine Br.f rfl ?_
  conv => whnf
  refine Br.f rfl ?_
  conv => whnf
  refine Br.f rfl ?_
  conv => whnf
  refine Br.f rfl ?_
  conv => whnf
  refine Br.f rfl ?_
  conv => whnf
  refine Br.f rfl ?_
  conv => whnf
  refine Br.f rfl ?_
  conv => whnf
  refine Br.f rfl ?_
  conv => whnf
  refine Br.f rfl ?_
  conv => whnf
  refine Br.f rfl ?_
  conv => whnf
  refine Br.f rfl ?_
  conv => whnf
  refine Br.f rfl ?_
  conv => whnf
  refine Br.f rfl ?_
  conv => whnf
  refine Br.f rfl ?_
  conv => whnf
  refine cut_ 336 [(6, .bool false)] [] rfl ⟨.inl rfl, trivial⟩ trivial ?_
  conv => whnf
  injection H with H; subst H
  exact ret_fz [] (rtA_eq rfl)
  conv => whnf
  refine Br.f ff_ ?_
  conv => whnf
  refine Br.f ff_ ?_
  conv => whnf
  refine Br.f rfl ?_
  conv => whnf
  refine Br.f rfl ?_
  conv => whnf
  refine Br.f rfl ?_
  conv => whnf
  refine Br.f rfl ?_
  conv => whnf
  refine Br.f rfl ?_
  conv => whnf
  refine Br.f rfl ?_
  conv => whnf
  refine Br.f rfl ?_
  conv => whnf
  refine Br.f rfl ?_
  conv => whnf
  refine Br.f rfl ?_
  conv => whnf
  refine Br.f rfl ?_
  conv => whnf
  refine Br.f rfl ?_
  conv => whnf
  refine Br.f rfl ?_
  conv => whnf
  refine Br.f rfl ?_
  conv => whnf
  refine Br.f rfl ?_
  conv => whnf
  refine Br.f rfl ?_
  conv => whnf
  refine Br.f rfl ?_
  conv => whnf
  refine Br.f rfl ?_
  conv => whnf
  refine Br.f rfl ?_
  conv => whnf
  refine Br.f rfl ?_
  conv => whnf
  refine Br.f rfl ?_
  conv => whnf
  refine Br.f rfl ?_
  conv => whnf
  refine Br.f rfl ?_
  conv => whnf
  refine Br.f rfl ?_
  conv => whnf
  refine cut_ 336 [(6, .bool false)] [] rfl ⟨.inl rfl, trivial⟩ trivial ?_
  conv => whnf
  injection H with H; subst H
  exact ret_fz [] (rtA_eq rfl)
theorem laws_eqStuffFoe.ac {a0_0 : ByteArray} {a0_1 : ByteArray} {a1_0 : ByteArray} {a1_1 : ByteArray} {r : Bool} (H : laws_eqStuffFoe.f a0_0 a0_1 a1_0 a1_1 = some r) : ACalls Try.prog G 156 [] [.agg [.str a0_0, .str a0_1], .agg [.str a1_0, .str a1_1]] [] (.bool r) := by
  refine acalls_of tok hP Try.func156 rfl (by kernel_rfl) [.tmp 4] rfl (by kernel_rfl) (Nat.le_of_ble_eq_true rfl) (.l .n (.l .n (.l (.c .n .n) .n))) rfl ?_
  unfold laws_eqStuffFoe.f at H
  conv => whnf
  refine br_nd H (fun c H => ?_) (fun c H => ?_)
  conv => whnf
  refine cut_ 104 [(14, .bool (!(decide (a0_1.toList = a1_1.toList))))] [] rfl ⟨.inl rfl, trivial⟩ trivial ?_
  conv => whnf
  refine br_nd H (fun c H => ?_) (fun c H => ?_)
  conv => whnf
  injection H with H; subst H
  exact ret_fz [] (rtA_eq rfl)
  conv => whnf
  injection H with H; subst H
  exact ret_fz [] (rtA_eq rfl)
  conv => whnf
  injection H with H; subst H
  exact ret_fz [] (rtA_eq rfl)
theorem laws_eqStuffFoeS.l0_lp {F : (Exit → St → Prop) → St → Prop} {hv : List Tmp} {Q : Exit → St → Prop} {σ : St} {r : Bool} {k : Nat} {l0 : List S_impl_StuffFoe} {l1 : List S_impl_StuffFoe} {x5 : Int} (H : laws_eqStuffFoeS.l0 k l0 l1 x5 = some r) (rn : List (Option Nat)) (h1 : Fits σ σ [] [(5, .int .i64 x5)] [] [] rn)
    (h2 : ∀ (k0 : Nat) (x5 : Int), k0 < k + 1 → laws_eqStuffFoeS.l0 k0 l0 l1 x5 = some r → headN σ hv [] [(5, .int .i64 x5)] [] [] (F (fun e σ' => match e with | .normal => ∃ (y : Nat × Int) (rn : List (Option Nat)), (laws_eqStuffFoeS.l0 y.1 l0 l1 y.2 = some r ∧ y.1 < k + 1) ∧ y.1 < k0 ∧ Fits σ σ' [] [(5, .int .i64 y.2)] [] [] rn | e => Q e σ'))) : Lp F hv Q σ := by
  unfold Lp
  refine ⟨Nat × Int, fun x => laws_eqStuffFoeS.l0 x.1 l0 l1 x.2 = some r ∧ x.1 < k + 1, fun x => x.1, [], fun x => [(5, .int .i64 x.2)], fun x => [], fun x => [], ⟨(k, x5), rn, ⟨H, Nat.lt_succ_self _⟩, h1⟩, ?_⟩
  rintro ⟨k, x5⟩ ⟨H, hk⟩
  exact h2 k x5 hk H
theorem laws_eqStuffFoeS.ac {k : Nat} {l0 : List S_impl_StuffFoe} {l1 : List S_impl_StuffFoe} {r : Bool} (H : laws_eqStuffFoeS.f k l0 l1 = some r) : ACalls Try.prog G 74 [] [(sv_S_impl_StuffFoe l0), (sv_S_impl_StuffFoe l1)] [] (.bool r) := by
  refine acalls_of tok hP Try.func74 rfl (by kernel_rfl) [.tmp 4] rfl (by kernel_rfl) (Nat.le_of_ble_eq_true rfl) (.l .n (.l .n (.l (.l .n (.l (.c .n .n) (.l (.c .n .n) .n))) .n))) rfl ?_
  unfold laws_eqStuffFoeS.f at H
  conv => whnf
  refine br_nd H (fun c H => ?_) (fun c H => ?_)
  conv => whnf
  refine laws_eqStuffFoeS.l0_lp (l0 := l0) (l1 := l1) (k := k) H [] (fits_of ⟨.inl ⟨rfl, rfl⟩, trivial⟩ trivial fi_ trivial rfl) ?_
  intro k x5 hk H; rcases k with _ | k; exact none_elim H; rw [laws_eqStuffFoeS.l0] at H; conv => whnf
  refine cut_ 88 [(0, (sv_S_impl_StuffFoe l0)), (1, (sv_S_impl_StuffFoe l1)), (5, .int .i64 x5), (14, .bool (decide (x5 < (l0.length : Int))))] [] rfl ⟨.inl rfl, ⟨.inl rfl, ⟨.inl rfl, ⟨.inl rfl, trivial⟩⟩⟩⟩ trivial ?_
  conv => whnf
  refine br_d H (fun c H => ?_) (fun c H => ?_)
  conv => whnf
  refine nd_ H (fun c H => ?_)
  conv => whnf
  refine Nd.mk nf_ ?_
  conv => whnf
  refine El.mk (rdm_en_S_impl_StuffFoe _ _ nf_ nf_) ?_
  conv => whnf
  refine Nd.mk nf_ ?_
  conv => whnf
  refine nd_ H (fun c H => ?_)
  conv => whnf
  refine El.mk (rdm_en_S_impl_StuffFoe _ _ nf_ nf_) ?_
  conv => whnf
  revert H; refine bind_elim (fun t1119 A H => ?_)
  refine call_mk (laws_eqStuffFoe.ac A) (avAL_cons (avA_agg (avL_cons (av_shut' rfl) (avL_cons (av_shut' rfl) (avL_nil)))) (avAL_cons (avA_agg (avL_cons (av_shut' rfl) (avL_cons (av_shut' rfl) (avL_nil)))) (avAL_nil))) (Or.inl rfl) rfl rfl (Nat.le_of_ble_eq_true rfl) ?_
  conv => whnf
  refine cut_ 168 [(0, (sv_S_impl_StuffFoe l0)), (1, (sv_S_impl_StuffFoe l1)), (5, .int .i64 x5), (26, .bool (!t1119))] [] rfl ⟨.inl rfl, ⟨.inl rfl, ⟨.inl rfl, ⟨.inl rfl, trivial⟩⟩⟩⟩ trivial ?_
  conv => whnf
  refine br_nt H (fun c H => ?_) (fun c H => ?_)
  conv => whnf
  exact ⟨(k, wrap64 (x5 + 1)), [], ⟨H, lt_⟩, lt_, (fits_of ⟨.inl ⟨rfl, rfl⟩, trivial⟩ trivial fi_ trivial rfl)⟩
  conv => whnf
  injection H with H; subst H
  exact ret_fz [] (rtA_eq rfl)
  conv => whnf
  injection H with H; subst H
  exact ret_fz [] (rtA_eq rfl)
  conv => whnf
  injection H with H; subst H
  exact ret_fz [] (rtA_eq rfl)
theorem laws_eqStuffLot.ac {a0_0 : ByteArray} {a0_1 : ByteArray} {a1_0 : ByteArray} {a1_1 : ByteArray} {r : Bool} (H : laws_eqStuffLot.f a0_0 a0_1 a1_0 a1_1 = some r) : ACalls Try.prog G 157 [] [.agg [.str a0_0, .str a0_1], .agg [.str a1_0, .str a1_1]] [] (.bool r) := by
  refine acalls_of tok hP Try.func157 rfl (by kernel_rfl) [.tmp 4] rfl (by kernel_rfl) (Nat.le_of_ble_eq_true rfl) (.l .n (.l .n (.l (.c .n .n) .n))) rfl ?_
  unfold laws_eqStuffLot.f at H
  conv => whnf
  refine br_nd H (fun c H => ?_) (fun c H => ?_)
  conv => whnf
  refine cut_ 104 [(14, .bool (!(decide (a0_1.toList = a1_1.toList))))] [] rfl ⟨.inl rfl, trivial⟩ trivial ?_
  conv => whnf
  refine br_nd H (fun c H => ?_) (fun c H => ?_)
  conv => whnf
  injection H with H; subst H
  exact ret_fz [] (rtA_eq rfl)
  conv => whnf
  injection H with H; subst H
  exact ret_fz [] (rtA_eq rfl)
  conv => whnf
  injection H with H; subst H
  exact ret_fz [] (rtA_eq rfl)
theorem laws_eqStuffLotS.l0_lp {F : (Exit → St → Prop) → St → Prop} {hv : List Tmp} {Q : Exit → St → Prop} {σ : St} {r : Bool} {k : Nat} {l0 : List S_impl_StuffLot} {l1 : List S_impl_StuffLot} {x5 : Int} (H : laws_eqStuffLotS.l0 k l0 l1 x5 = some r) (rn : List (Option Nat)) (h1 : Fits σ σ [] [(5, .int .i64 x5)] [] [] rn)
    (h2 : ∀ (k0 : Nat) (x5 : Int), k0 < k + 1 → laws_eqStuffLotS.l0 k0 l0 l1 x5 = some r → headN σ hv [] [(5, .int .i64 x5)] [] [] (F (fun e σ' => match e with | .normal => ∃ (y : Nat × Int) (rn : List (Option Nat)), (laws_eqStuffLotS.l0 y.1 l0 l1 y.2 = some r ∧ y.1 < k + 1) ∧ y.1 < k0 ∧ Fits σ σ' [] [(5, .int .i64 y.2)] [] [] rn | e => Q e σ'))) : Lp F hv Q σ := by
  unfold Lp
  refine ⟨Nat × Int, fun x => laws_eqStuffLotS.l0 x.1 l0 l1 x.2 = some r ∧ x.1 < k + 1, fun x => x.1, [], fun x => [(5, .int .i64 x.2)], fun x => [], fun x => [], ⟨(k, x5), rn, ⟨H, Nat.lt_succ_self _⟩, h1⟩, ?_⟩
  rintro ⟨k, x5⟩ ⟨H, hk⟩
  exact h2 k x5 hk H
theorem laws_eqStuffLotS.ac {k : Nat} {l0 : List S_impl_StuffLot} {l1 : List S_impl_StuffLot} {r : Bool} (H : laws_eqStuffLotS.f k l0 l1 = some r) : ACalls Try.prog G 75 [] [(sv_S_impl_StuffLot l0), (sv_S_impl_StuffLot l1)] [] (.bool r) := by
  refine acalls_of tok hP Try.func75 rfl (by kernel_rfl) [.tmp 4] rfl (by kernel_rfl) (Nat.le_of_ble_eq_true rfl) (.l .n (.l .n (.l (.l .n (.l (.c .n .n) (.l (.c .n .n) .n))) .n))) rfl ?_
  unfold laws_eqStuffLotS.f at H
  conv => whnf
  refine br_nd H (fun c H => ?_) (fun c H => ?_)
  conv => whnf
  refine laws_eqStuffLotS.l0_lp (l0 := l0) (l1 := l1) (k := k) H [] (fits_of ⟨.inl ⟨rfl, rfl⟩, trivial⟩ trivial fi_ trivial rfl) ?_
  intro k x5 hk H; rcases k with _ | k; exact none_elim H; rw [laws_eqStuffLotS.l0] at H; conv => whnf
  refine cut_ 88 [(0, (sv_S_impl_StuffLot l0)), (1, (sv_S_impl_StuffLot l1)), (5, .int .i64 x5), (14, .bool (decide (x5 < (l0.length : Int))))] [] rfl ⟨.inl rfl, ⟨.inl rfl, ⟨.inl rfl, ⟨.inl rfl, trivial⟩⟩⟩⟩ trivial ?_
  conv => whnf
  refine br_d H (fun c H => ?_) (fun c H => ?_)
  conv => whnf
  refine nd_ H (fun c H => ?_)
  conv => whnf
  refine Nd.mk nf_ ?_
  conv => whnf
  refine El.mk (rdm_en_S_impl_StuffLot _ _ nf_ nf_) ?_
  conv => whnf
  refine Nd.mk nf_ ?_
  conv => whnf
  refine nd_ H (fun c H => ?_)
  conv => whnf
  refine El.mk (rdm_en_S_impl_StuffLot _ _ nf_ nf_) ?_
  conv => whnf
  revert H; refine bind_elim (fun t1151 A H => ?_)
  refine call_mk (laws_eqStuffLot.ac A) (avAL_cons (avA_agg (avL_cons (av_shut' rfl) (avL_cons (av_shut' rfl) (avL_nil)))) (avAL_cons (avA_agg (avL_cons (av_shut' rfl) (avL_cons (av_shut' rfl) (avL_nil)))) (avAL_nil))) (Or.inl rfl) rfl rfl (Nat.le_of_ble_eq_true rfl) ?_
  conv => whnf
  refine cut_ 168 [(0, (sv_S_impl_StuffLot l0)), (1, (sv_S_impl_StuffLot l1)), (5, .int .i64 x5), (26, .bool (!t1151))] [] rfl ⟨.inl rfl, ⟨.inl rfl, ⟨.inl rfl, ⟨.inl rfl, trivial⟩⟩⟩⟩ trivial ?_
  conv => whnf
  refine br_nt H (fun c H => ?_) (fun c H => ?_)
  conv => whnf
  exact ⟨(k, wrap64 (x5 + 1)), [], ⟨H, lt_⟩, lt_, (fits_of ⟨.inl ⟨rfl, rfl⟩, trivial⟩ trivial fi_ trivial rfl)⟩
  conv => whnf
  injection H with H; subst H
  exact ret_fz [] (rtA_eq rfl)
  conv => whnf
  injection H with H; subst H
  exact ret_fz [] (rtA_eq rfl)
  conv => whnf
  injection H with H; subst H
  exact ret_fz [] (rtA_eq rfl)
theorem laws_eqStuffPart.ac {a0_0 : ByteArray} {a0_1 : Int} {a1_0 : ByteArray} {a1_1 : Int} {r : Bool} (H : laws_eqStuffPart.f a0_0 a0_1 a1_0 a1_1 = some r) : ACalls Try.prog G 223 [] [.agg [.str a0_0, .int .i64 a0_1], .agg [.str a1_0, .int .i64 a1_1]] [] (.bool r) := by
  refine acalls_of tok hP Try.func223 rfl (by kernel_rfl) [.tmp 4] rfl (by kernel_rfl) (Nat.le_of_ble_eq_true rfl) (.l .n (.l .n (.l (.c .n .n) .n))) rfl ?_
  unfold laws_eqStuffPart.f at H
  conv => whnf
  refine br_nd H (fun c H => ?_) (fun c H => ?_)
  conv => whnf
  refine cut_ 104 [(14, .bool (!(decide (a0_1 = a1_1))))] [] rfl ⟨.inl rfl, trivial⟩ trivial ?_
  conv => whnf
  refine br_nd H (fun c H => ?_) (fun c H => ?_)
  conv => whnf
  injection H with H; subst H
  exact ret_fz [] (rtA_eq rfl)
  conv => whnf
  injection H with H; subst H
  exact ret_fz [] (rtA_eq rfl)
  conv => whnf
  injection H with H; subst H
  exact ret_fz [] (rtA_eq rfl)
theorem laws_eqStuffPartS.l0_lp {F : (Exit → St → Prop) → St → Prop} {hv : List Tmp} {Q : Exit → St → Prop} {σ : St} {r : Bool} {k : Nat} {l0 : List S_impl_StuffPart} {l1 : List S_impl_StuffPart} {x5 : Int} (H : laws_eqStuffPartS.l0 k l0 l1 x5 = some r) (rn : List (Option Nat)) (h1 : Fits σ σ [] [(5, .int .i64 x5)] [] [] rn)
    (h2 : ∀ (k0 : Nat) (x5 : Int), k0 < k + 1 → laws_eqStuffPartS.l0 k0 l0 l1 x5 = some r → headN σ hv [] [(5, .int .i64 x5)] [] [] (F (fun e σ' => match e with | .normal => ∃ (y : Nat × Int) (rn : List (Option Nat)), (laws_eqStuffPartS.l0 y.1 l0 l1 y.2 = some r ∧ y.1 < k + 1) ∧ y.1 < k0 ∧ Fits σ σ' [] [(5, .int .i64 y.2)] [] [] rn | e => Q e σ'))) : Lp F hv Q σ := by
  unfold Lp
  refine ⟨Nat × Int, fun x => laws_eqStuffPartS.l0 x.1 l0 l1 x.2 = some r ∧ x.1 < k + 1, fun x => x.1, [], fun x => [(5, .int .i64 x.2)], fun x => [], fun x => [], ⟨(k, x5), rn, ⟨H, Nat.lt_succ_self _⟩, h1⟩, ?_⟩
  rintro ⟨k, x5⟩ ⟨H, hk⟩
  exact h2 k x5 hk H
theorem laws_eqStuffPartS.ac {k : Nat} {l0 : List S_impl_StuffPart} {l1 : List S_impl_StuffPart} {r : Bool} (H : laws_eqStuffPartS.f k l0 l1 = some r) : ACalls Try.prog G 206 [] [(sv_S_impl_StuffPart l0), (sv_S_impl_StuffPart l1)] [] (.bool r) := by
  refine acalls_of tok hP Try.func206 rfl (by kernel_rfl) [.tmp 4] rfl (by kernel_rfl) (Nat.le_of_ble_eq_true rfl) (.l .n (.l .n (.l (.l .n (.l (.c .n .n) (.l (.c .n .n) .n))) .n))) rfl ?_
  unfold laws_eqStuffPartS.f at H
  conv => whnf
  refine br_nd H (fun c H => ?_) (fun c H => ?_)
  conv => whnf
  refine laws_eqStuffPartS.l0_lp (l0 := l0) (l1 := l1) (k := k) H [] (fits_of ⟨.inl ⟨rfl, rfl⟩, trivial⟩ trivial fi_ trivial rfl) ?_
  intro k x5 hk H; rcases k with _ | k; exact none_elim H; rw [laws_eqStuffPartS.l0] at H; conv => whnf
  refine cut_ 88 [(0, (sv_S_impl_StuffPart l0)), (1, (sv_S_impl_StuffPart l1)), (5, .int .i64 x5), (14, .bool (decide (x5 < (l0.length : Int))))] [] rfl ⟨.inl rfl, ⟨.inl rfl, ⟨.inl rfl, ⟨.inl rfl, trivial⟩⟩⟩⟩ trivial ?_
  conv => whnf
  refine br_d H (fun c H => ?_) (fun c H => ?_)
  conv => whnf
  refine nd_ H (fun c H => ?_)
  conv => whnf
  refine Nd.mk nf_ ?_
  conv => whnf
  refine El.mk (rdm_en_S_impl_StuffPart _ _ nf_ nf_) ?_
  conv => whnf
  refine Nd.mk nf_ ?_
  conv => whnf
  refine nd_ H (fun c H => ?_)
  conv => whnf
  refine El.mk (rdm_en_S_impl_StuffPart _ _ nf_ nf_) ?_
  conv => whnf
  revert H; refine bind_elim (fun t1223 A H => ?_)
  refine call_mk (laws_eqStuffPart.ac A) (avAL_cons (avA_agg (avL_cons (av_shut' rfl) (avL_cons (av_shut' rfl) (avL_nil)))) (avAL_cons (avA_agg (avL_cons (av_shut' rfl) (avL_cons (av_shut' rfl) (avL_nil)))) (avAL_nil))) (Or.inl rfl) rfl rfl (Nat.le_of_ble_eq_true rfl) ?_
  conv => whnf
  refine cut_ 168 [(0, (sv_S_impl_StuffPart l0)), (1, (sv_S_impl_StuffPart l1)), (5, .int .i64 x5), (26, .bool (!t1223))] [] rfl ⟨.inl rfl, ⟨.inl rfl, ⟨.inl rfl, ⟨.inl rfl, trivial⟩⟩⟩⟩ trivial ?_
  conv => whnf
  refine br_nt H (fun c H => ?_) (fun c H => ?_)
  conv => whnf
  exact ⟨(k, wrap64 (x5 + 1)), [], ⟨H, lt_⟩, lt_, (fits_of ⟨.inl ⟨rfl, rfl⟩, trivial⟩ trivial fi_ trivial rfl)⟩
  conv => whnf
  injection H with H; subst H
  exact ret_fz [] (rtA_eq rfl)
  conv => whnf
  injection H with H; subst H
  exact ret_fz [] (rtA_eq rfl)
  conv => whnf
  injection H with H; subst H
  exact ret_fz [] (rtA_eq rfl)
theorem laws_eqStringS.l0_lp {F : (Exit → St → Prop) → St → Prop} {hv : List Tmp} {Q : Exit → St → Prop} {σ : St} {r : Bool} {k : Nat} {l0 : List ByteArray} {l1 : List ByteArray} {x5 : Int} (H : laws_eqStringS.l0 k l0 l1 x5 = some r) (rn : List (Option Nat)) (h1 : Fits σ σ [] [(5, .int .i64 x5)] [] [] rn)
    (h2 : ∀ (k0 : Nat) (x5 : Int), k0 < k + 1 → laws_eqStringS.l0 k0 l0 l1 x5 = some r → headN σ hv [] [(5, .int .i64 x5)] [] [] (F (fun e σ' => match e with | .normal => ∃ (y : Nat × Int) (rn : List (Option Nat)), (laws_eqStringS.l0 y.1 l0 l1 y.2 = some r ∧ y.1 < k + 1) ∧ y.1 < k0 ∧ Fits σ σ' [] [(5, .int .i64 y.2)] [] [] rn | e => Q e σ'))) : Lp F hv Q σ := by
  unfold Lp
  refine ⟨Nat × Int, fun x => laws_eqStringS.l0 x.1 l0 l1 x.2 = some r ∧ x.1 < k + 1, fun x => x.1, [], fun x => [(5, .int .i64 x.2)], fun x => [], fun x => [], ⟨(k, x5), rn, ⟨H, Nat.lt_succ_self _⟩, h1⟩, ?_⟩
  rintro ⟨k, x5⟩ ⟨H, hk⟩
  exact h2 k x5 hk H
theorem laws_eqStringS.ac {k : Nat} {l0 : List ByteArray} {l1 : List ByteArray} {r : Bool} (H : laws_eqStringS.f k l0 l1 = some r) : ACalls Try.prog G 24 [] [(sv_str l0), (sv_str l1)] [] (.bool r) := by
  refine acalls_of tok hP Try.func24 rfl (by kernel_rfl) [.tmp 4] rfl (by kernel_rfl) (Nat.le_of_ble_eq_true rfl) (.l .n (.l .n (.l (.l .n (.l (.c .n .n) (.l (.l .n (.l (.c .n .n) .n)) .n))) .n))) rfl ?_
  unfold laws_eqStringS.f at H
  conv => whnf
  refine br_nd H (fun c H => ?_) (fun c H => ?_)
  conv => whnf
  refine laws_eqStringS.l0_lp (l0 := l0) (l1 := l1) (k := k) H [] (fits_of ⟨.inl ⟨rfl, rfl⟩, trivial⟩ trivial fi_ trivial rfl) ?_
  intro k x5 hk H; rcases k with _ | k; exact none_elim H; rw [laws_eqStringS.l0] at H; conv => whnf
  refine cut_ 88 [(0, (sv_str l0)), (1, (sv_str l1)), (5, .int .i64 x5), (14, .bool (decide (x5 < (l0.length : Int))))] [] rfl ⟨.inl rfl, ⟨.inl rfl, ⟨.inl rfl, ⟨.inl rfl, trivial⟩⟩⟩⟩ trivial ?_
  conv => whnf
  refine br_d H (fun c H => ?_) (fun c H => ?_)
  conv => whnf
  refine nd_ H (fun c H => ?_)
  conv => whnf
  refine Nd.mk nf_ ?_
  conv => whnf
  refine El.mk (rdm_en_str _ _ nf_ nf_) ?_
  conv => whnf
  refine Nd.mk nf_ ?_
  conv => whnf
  refine nd_ H (fun c H => ?_)
  conv => whnf
  refine El.mk (rdm_en_str _ _ nf_ nf_) ?_
  conv => whnf
  refine br_nd H (fun c H => ?_) (fun c H => ?_)
  conv => whnf
  exact ⟨(k, wrap64 (x5 + 1)), [], ⟨H, lt_⟩, lt_, (fits_of ⟨.inl ⟨rfl, rfl⟩, trivial⟩ trivial fi_ trivial rfl)⟩
  conv => whnf
  refine cut_ 168 [(4, .bool false)] [] rfl ⟨.inl rfl, trivial⟩ trivial ?_
  conv => whnf
  injection H with H; subst H
  exact ret_fz [] (rtA_eq rfl)
  conv => whnf
  injection H with H; subst H
  exact ret_fz [] (rtA_eq rfl)
  conv => whnf
  injection H with H; subst H
  exact ret_fz [] (rtA_eq rfl)
theorem laws_eqStuffVessel.ac {k : Nat} {a0_0 : ByteArray} {a0_1 : Int} {a0_2 : List S_impl_StuffPart} {a0_3 : List ByteArray} {a1_0 : ByteArray} {a1_1 : Int} {a1_2 : List S_impl_StuffPart} {a1_3 : List ByteArray} {r : Bool} (H : laws_eqStuffVessel.f k a0_0 a0_1 a0_2 a0_3 a1_0 a1_1 a1_2 a1_3 = some r) : ACalls Try.prog G 158 [] [.agg [.str a0_0, .int .i64 a0_1, (sv_S_impl_StuffPart a0_2), (sv_str a0_3)], .agg [.str a1_0, .int .i64 a1_1, (sv_S_impl_StuffPart a1_2), (sv_str a1_3)]] [] (.bool r) := by
  refine acalls_of tok hP Try.func158 rfl (by kernel_rfl) [.tmp 4] rfl (by kernel_rfl) (Nat.le_of_ble_eq_true rfl) (.l .n (.l .n (.l (.c .n .n) (.l .n (.l (.c .n .n) .n))))) rfl ?_
  unfold laws_eqStuffVessel.f at H
  conv => whnf
  refine br_nd H (fun c H => ?_) (fun c H => ?_)
  conv => whnf
  refine cut_ 104 [(2, .bp 0 0), (3, .bp 8 0), (14, .bool (!(decide (a0_1 = a1_1))))] [(0, .box [.str a0_0, .int .i64 a0_1, (sv_S_impl_StuffPart a0_2), (sv_str a0_3)]), (8, .box [.str a1_0, .int .i64 a1_1, (sv_S_impl_StuffPart a1_2), (sv_str a1_3)])] rfl ⟨.inl rfl, ⟨.inl rfl, ⟨.inl rfl, trivial⟩⟩⟩ ⟨rfl, ⟨rfl, trivial⟩⟩ ?_
  conv => whnf
  refine br_nd H (fun c H => ?_) (fun c H => ?_)
  conv => whnf
  revert H; refine bind_elim (fun t1246 A H => ?_)
  refine call_mk (laws_eqStuffPartS.ac A) (avAL_cons (avA_shut' rfl) (avAL_cons (avA_shut' rfl) (avAL_nil))) (Or.inl rfl) rfl rfl (Nat.le_of_ble_eq_true rfl) ?_
  conv => whnf
  refine br_nt H (fun c H => ?_) (fun c H => ?_)
  conv => whnf
  revert H; refine bind_elim (fun t1249 A H => ?_)
  refine call_mk (laws_eqStringS.ac A) (avAL_cons (avA_shut' rfl) (avAL_cons (avA_shut' rfl) (avAL_nil))) (Or.inl rfl) rfl rfl (Nat.le_of_ble_eq_true rfl) ?_
  conv => whnf
  refine cut_ 200 [(26, .bool (!t1249))] [] rfl ⟨.inl rfl, trivial⟩ trivial ?_
  conv => whnf
  refine br_nt H (fun c H => ?_) (fun c H => ?_)
  conv => whnf
  injection H with H; subst H
  exact ret_fz [] (rtA_eq rfl)
  conv => whnf
  injection H with H; subst H
  exact ret_fz [] (rtA_eq rfl)
  conv => whnf
  injection H with H; subst H
  exact ret_fz [] (rtA_eq rfl)
  conv => whnf
  injection H with H; subst H
  exact ret_fz [] (rtA_eq rfl)
  conv => whnf
  injection H with H; subst H
  exact ret_fz [] (rtA_eq rfl)
theorem laws_eqStuffVesselS.l0_lp {F : (Exit → St → Prop) → St → Prop} {hv : List Tmp} {Q : Exit → St → Prop} {σ : St} {r : Bool} {k : Nat} {l0 : List S_impl_StuffVessel} {l1 : List S_impl_StuffVessel} {x5 : Int} (H : laws_eqStuffVesselS.l0 k l0 l1 x5 = some r) (rn : List (Option Nat)) (h1 : Fits σ σ [] [(5, .int .i64 x5)] [] [] rn)
    (h2 : ∀ (k0 : Nat) (x5 : Int), k0 < k + 1 → laws_eqStuffVesselS.l0 k0 l0 l1 x5 = some r → headN σ hv [] [(5, .int .i64 x5)] [] [] (F (fun e σ' => match e with | .normal => ∃ (y : Nat × Int) (rn : List (Option Nat)), (laws_eqStuffVesselS.l0 y.1 l0 l1 y.2 = some r ∧ y.1 < k + 1) ∧ y.1 < k0 ∧ Fits σ σ' [] [(5, .int .i64 y.2)] [] [] rn | e => Q e σ'))) : Lp F hv Q σ := by
  unfold Lp
  refine ⟨Nat × Int, fun x => laws_eqStuffVesselS.l0 x.1 l0 l1 x.2 = some r ∧ x.1 < k + 1, fun x => x.1, [], fun x => [(5, .int .i64 x.2)], fun x => [], fun x => [], ⟨(k, x5), rn, ⟨H, Nat.lt_succ_self _⟩, h1⟩, ?_⟩
  rintro ⟨k, x5⟩ ⟨H, hk⟩
  exact h2 k x5 hk H
theorem laws_eqStuffVesselS.ac {k : Nat} {l0 : List S_impl_StuffVessel} {l1 : List S_impl_StuffVessel} {r : Bool} (H : laws_eqStuffVesselS.f k l0 l1 = some r) : ACalls Try.prog G 76 [] [(sv_S_impl_StuffVessel l0), (sv_S_impl_StuffVessel l1)] [] (.bool r) := by
  refine acalls_of tok hP Try.func76 rfl (by kernel_rfl) [.tmp 4] rfl (by kernel_rfl) (Nat.le_of_ble_eq_true rfl) (.l .n (.l .n (.l (.l .n (.l (.c .n .n) (.l (.c .n .n) .n))) .n))) rfl ?_
  unfold laws_eqStuffVesselS.f at H
  conv => whnf
  refine br_nd H (fun c H => ?_) (fun c H => ?_)
  conv => whnf
  refine laws_eqStuffVesselS.l0_lp (l0 := l0) (l1 := l1) (k := k) H [] (fits_of ⟨.inl ⟨rfl, rfl⟩, trivial⟩ trivial fi_ trivial rfl) ?_
  intro k x5 hk H; rcases k with _ | k; exact none_elim H; rw [laws_eqStuffVesselS.l0] at H; conv => whnf
  refine cut_ 88 [(0, (sv_S_impl_StuffVessel l0)), (1, (sv_S_impl_StuffVessel l1)), (5, .int .i64 x5), (14, .bool (decide (x5 < (l0.length : Int))))] [] rfl ⟨.inl rfl, ⟨.inl rfl, ⟨.inl rfl, ⟨.inl rfl, trivial⟩⟩⟩⟩ trivial ?_
  conv => whnf
  refine br_d H (fun c H => ?_) (fun c H => ?_)
  conv => whnf
  refine nd_ H (fun c H => ?_)
  conv => whnf
  refine Nd.mk nf_ ?_
  conv => whnf
  refine El.mk (rdm_en_S_impl_StuffVessel _ _ nf_ nf_) ?_
  conv => whnf
  refine Nd.mk nf_ ?_
  conv => whnf
  refine nd_ H (fun c H => ?_)
  conv => whnf
  refine El.mk (rdm_en_S_impl_StuffVessel _ _ nf_ nf_) ?_
  conv => whnf
  revert H; refine bind_elim (fun t1253 A H => ?_)
  refine call_mk (laws_eqStuffVessel.ac A) (avAL_cons (avA_agg (avL_cons (av_shut' rfl) (avL_cons (av_shut' rfl) (avL_cons (av_shut' rfl) (avL_cons (av_shut' rfl) (avL_nil)))))) (avAL_cons (avA_agg (avL_cons (av_shut' rfl) (avL_cons (av_shut' rfl) (avL_cons (av_shut' rfl) (avL_cons (av_shut' rfl) (avL_nil)))))) (avAL_nil))) (Or.inl rfl) rfl rfl (Nat.le_of_ble_eq_true rfl) ?_
  conv => whnf
  refine cut_ 168 [(0, (sv_S_impl_StuffVessel l0)), (1, (sv_S_impl_StuffVessel l1)), (5, .int .i64 x5), (26, .bool (!t1253))] [] rfl ⟨.inl rfl, ⟨.inl rfl, ⟨.inl rfl, ⟨.inl rfl, trivial⟩⟩⟩⟩ trivial ?_
  conv => whnf
  refine br_nt H (fun c H => ?_) (fun c H => ?_)
  conv => whnf
  exact ⟨(k, wrap64 (x5 + 1)), [], ⟨H, lt_⟩, lt_, (fits_of ⟨.inl ⟨rfl, rfl⟩, trivial⟩ trivial fi_ trivial rfl)⟩
  conv => whnf
  injection H with H; subst H
  exact ret_fz [] (rtA_eq rfl)
  conv => whnf
  injection H with H; subst H
  exact ret_fz [] (rtA_eq rfl)
  conv => whnf
  injection H with H; subst H
  exact ret_fz [] (rtA_eq rfl)
theorem laws_eqStuffOut.ac {k : Nat} {a0_0 : ByteArray} {a0_1 : List S_impl_StuffPart} {a0_2 : List ByteArray} {a1_0 : ByteArray} {a1_1 : List S_impl_StuffPart} {a1_2 : List ByteArray} {r : Bool} (H : laws_eqStuffOut.f k a0_0 a0_1 a0_2 a1_0 a1_1 a1_2 = some r) : ACalls Try.prog G 159 [] [.agg [.str a0_0, (sv_S_impl_StuffPart a0_1), (sv_str a0_2)], .agg [.str a1_0, (sv_S_impl_StuffPart a1_1), (sv_str a1_2)]] [] (.bool r) := by
  refine acalls_of tok hP Try.func159 rfl (by kernel_rfl) [.tmp 4] rfl (by kernel_rfl) (Nat.le_of_ble_eq_true rfl) (.l .n (.l .n (.l (.c .n .n) .n))) rfl ?_
  unfold laws_eqStuffOut.f at H
  conv => whnf
  refine br_nd H (fun c H => ?_) (fun c H => ?_)
  conv => whnf
  revert H; refine bind_elim (fun t1296 A H => ?_)
  refine call_mk (laws_eqStuffPartS.ac A) (avAL_cons (avA_shut' rfl) (avAL_cons (avA_shut' rfl) (avAL_nil))) (Or.inl rfl) rfl rfl (Nat.le_of_ble_eq_true rfl) ?_
  conv => whnf
  refine cut_ 112 [(2, .bp 0 0), (3, .bp 8 0), (15, .bool (!t1296))] [(0, .box [.str a0_0, (sv_S_impl_StuffPart a0_1), (sv_str a0_2)]), (8, .box [.str a1_0, (sv_S_impl_StuffPart a1_1), (sv_str a1_2)])] rfl ⟨.inl rfl, ⟨.inl rfl, ⟨.inl rfl, trivial⟩⟩⟩ ⟨rfl, ⟨rfl, trivial⟩⟩ ?_
  conv => whnf
  refine br_nt H (fun c H => ?_) (fun c H => ?_)
  conv => whnf
  revert H; refine bind_elim (fun t1299 A H => ?_)
  refine call_mk (laws_eqStringS.ac A) (avAL_cons (avA_shut' rfl) (avAL_cons (avA_shut' rfl) (avAL_nil))) (Or.inl rfl) rfl rfl (Nat.le_of_ble_eq_true rfl) ?_
  conv => whnf
  refine br_nt H (fun c H => ?_) (fun c H => ?_)
  conv => whnf
  injection H with H; subst H
  exact ret_fz [] (rtA_eq rfl)
  conv => whnf
  injection H with H; subst H
  exact ret_fz [] (rtA_eq rfl)
  conv => whnf
  injection H with H; subst H
  exact ret_fz [] (rtA_eq rfl)
  conv => whnf
  injection H with H; subst H
  exact ret_fz [] (rtA_eq rfl)
theorem laws_eqStuffOutS.l0_lp {F : (Exit → St → Prop) → St → Prop} {hv : List Tmp} {Q : Exit → St → Prop} {σ : St} {r : Bool} {k : Nat} {l0 : List S_impl_StuffOut} {l1 : List S_impl_StuffOut} {x5 : Int} (H : laws_eqStuffOutS.l0 k l0 l1 x5 = some r) (rn : List (Option Nat)) (h1 : Fits σ σ [] [(5, .int .i64 x5)] [] [] rn)
    (h2 : ∀ (k0 : Nat) (x5 : Int), k0 < k + 1 → laws_eqStuffOutS.l0 k0 l0 l1 x5 = some r → headN σ hv [] [(5, .int .i64 x5)] [] [] (F (fun e σ' => match e with | .normal => ∃ (y : Nat × Int) (rn : List (Option Nat)), (laws_eqStuffOutS.l0 y.1 l0 l1 y.2 = some r ∧ y.1 < k + 1) ∧ y.1 < k0 ∧ Fits σ σ' [] [(5, .int .i64 y.2)] [] [] rn | e => Q e σ'))) : Lp F hv Q σ := by
  unfold Lp
  refine ⟨Nat × Int, fun x => laws_eqStuffOutS.l0 x.1 l0 l1 x.2 = some r ∧ x.1 < k + 1, fun x => x.1, [], fun x => [(5, .int .i64 x.2)], fun x => [], fun x => [], ⟨(k, x5), rn, ⟨H, Nat.lt_succ_self _⟩, h1⟩, ?_⟩
  rintro ⟨k, x5⟩ ⟨H, hk⟩
  exact h2 k x5 hk H
theorem laws_eqStuffOutS.ac {k : Nat} {l0 : List S_impl_StuffOut} {l1 : List S_impl_StuffOut} {r : Bool} (H : laws_eqStuffOutS.f k l0 l1 = some r) : ACalls Try.prog G 77 [] [(sv_S_impl_StuffOut l0), (sv_S_impl_StuffOut l1)] [] (.bool r) := by
  refine acalls_of tok hP Try.func77 rfl (by kernel_rfl) [.tmp 4] rfl (by kernel_rfl) (Nat.le_of_ble_eq_true rfl) (.l .n (.l .n (.l (.l .n (.l (.c .n .n) (.l (.c .n .n) .n))) .n))) rfl ?_
  unfold laws_eqStuffOutS.f at H
  conv => whnf
  refine br_nd H (fun c H => ?_) (fun c H => ?_)
  conv => whnf
  refine laws_eqStuffOutS.l0_lp (l0 := l0) (l1 := l1) (k := k) H [] (fits_of ⟨.inl ⟨rfl, rfl⟩, trivial⟩ trivial fi_ trivial rfl) ?_
  intro k x5 hk H; rcases k with _ | k; exact none_elim H; rw [laws_eqStuffOutS.l0] at H; conv => whnf
  refine cut_ 88 [(0, (sv_S_impl_StuffOut l0)), (1, (sv_S_impl_StuffOut l1)), (5, .int .i64 x5), (14, .bool (decide (x5 < (l0.length : Int))))] [] rfl ⟨.inl rfl, ⟨.inl rfl, ⟨.inl rfl, ⟨.inl rfl, trivial⟩⟩⟩⟩ trivial ?_
  conv => whnf
  refine br_d H (fun c H => ?_) (fun c H => ?_)
  conv => whnf
  refine nd_ H (fun c H => ?_)
  conv => whnf
  refine Nd.mk nf_ ?_
  conv => whnf
  refine El.mk (rdm_en_S_impl_StuffOut _ _ nf_ nf_) ?_
  conv => whnf
  refine Nd.mk nf_ ?_
  conv => whnf
  refine nd_ H (fun c H => ?_)
  conv => whnf
  refine El.mk (rdm_en_S_impl_StuffOut _ _ nf_ nf_) ?_
  conv => whnf
  revert H; refine bind_elim (fun t1303 A H => ?_)
  refine call_mk (laws_eqStuffOut.ac A) (avAL_cons (avA_agg (avL_cons (av_shut' rfl) (avL_cons (av_shut' rfl) (avL_cons (av_shut' rfl) (avL_nil))))) (avAL_cons (avA_agg (avL_cons (av_shut' rfl) (avL_cons (av_shut' rfl) (avL_cons (av_shut' rfl) (avL_nil))))) (avAL_nil))) (Or.inl rfl) rfl rfl (Nat.le_of_ble_eq_true rfl) ?_
  conv => whnf
  refine cut_ 168 [(0, (sv_S_impl_StuffOut l0)), (1, (sv_S_impl_StuffOut l1)), (5, .int .i64 x5), (26, .bool (!t1303))] [] rfl ⟨.inl rfl, ⟨.inl rfl, ⟨.inl rfl, ⟨.inl rfl, trivial⟩⟩⟩⟩ trivial ?_
  conv => whnf
  refine br_nt H (fun c H => ?_) (fun c H => ?_)
  conv => whnf
  exact ⟨(k, wrap64 (x5 + 1)), [], ⟨H, lt_⟩, lt_, (fits_of ⟨.inl ⟨rfl, rfl⟩, trivial⟩ trivial fi_ trivial rfl)⟩
  conv => whnf
  injection H with H; subst H
  exact ret_fz [] (rtA_eq rfl)
  conv => whnf
  injection H with H; subst H
  exact ret_fz [] (rtA_eq rfl)
  conv => whnf
  injection H with H; subst H
  exact ret_fz [] (rtA_eq rfl)
theorem laws_eqStuffBook.ac {k : Nat} {a0_0 : List S_impl_StuffFoe} {a0_1 : List S_impl_StuffLot} {a0_2 : List S_impl_StuffVessel} {a0_3 : List S_impl_StuffOut} {a1_0 : List S_impl_StuffFoe} {a1_1 : List S_impl_StuffLot} {a1_2 : List S_impl_StuffVessel} {a1_3 : List S_impl_StuffOut} {r : Bool} (H : laws_eqStuffBook.f k a0_0 a0_1 a0_2 a0_3 a1_0 a1_1 a1_2 a1_3 = some r) : ACalls Try.prog G 17 [] [.agg [(sv_S_impl_StuffFoe a0_0), (sv_S_impl_StuffLot a0_1), (sv_S_impl_StuffVessel a0_2), (sv_S_impl_StuffOut a0_3)], .agg [(sv_S_impl_StuffFoe a1_0), (sv_S_impl_StuffLot a1_1), (sv_S_impl_StuffVessel a1_2), (sv_S_impl_StuffOut a1_3)]] [] (.bool r) := by
  refine acalls_of tok hP Try.func17 rfl (by kernel_rfl) [.tmp 4] rfl (by kernel_rfl) (Nat.le_of_ble_eq_true rfl) (.l .n (.l (.l .n (.l (.c .n .n) .n)) (.l (.c .n .n) (.l .n (.l (.c .n .n) .n))))) rfl ?_
  unfold laws_eqStuffBook.f at H
  conv => whnf
  revert H; refine bind_elim (fun t1306 A H => ?_)
  refine call_mk (laws_eqStuffFoeS.ac A) (avAL_cons (avA_shut' rfl) (avAL_cons (avA_shut' rfl) (avAL_nil))) (Or.inl rfl) rfl rfl (Nat.le_of_ble_eq_true rfl) ?_
  conv => whnf
  refine br_nt H (fun c H => ?_) (fun c H => ?_)
  conv => whnf
  revert H; refine bind_elim (fun t1309 A H => ?_)
  refine call_mk (laws_eqStuffLotS.ac A) (avAL_cons (avA_shut' rfl) (avAL_cons (avA_shut' rfl) (avAL_nil))) (Or.inl rfl) rfl rfl (Nat.le_of_ble_eq_true rfl) ?_
  conv => whnf
  refine cut_ 120 [(2, .bp 0 0), (3, .bp 8 0), (16, .bool (!t1309))] [(0, .box [(sv_S_impl_StuffFoe a0_0), (sv_S_impl_StuffLot a0_1), (sv_S_impl_StuffVessel a0_2), (sv_S_impl_StuffOut a0_3)]), (8, .box [(sv_S_impl_StuffFoe a1_0), (sv_S_impl_StuffLot a1_1), (sv_S_impl_StuffVessel a1_2), (sv_S_impl_StuffOut a1_3)])] rfl ⟨.inl rfl, ⟨.inl rfl, ⟨.inl rfl, trivial⟩⟩⟩ ⟨rfl, ⟨rfl, trivial⟩⟩ ?_
  conv => whnf
  refine br_nt H (fun c H => ?_) (fun c H => ?_)
  conv => whnf
  revert H; refine bind_elim (fun t1312 A H => ?_)
  refine call_mk (laws_eqStuffVesselS.ac A) (avAL_cons (avA_shut' rfl) (avAL_cons (avA_shut' rfl) (avAL_nil))) (Or.inl rfl) rfl rfl (Nat.le_of_ble_eq_true rfl) ?_
  conv => whnf
  refine br_nt H (fun c H => ?_) (fun c H => ?_)
  conv => whnf
  revert H; refine bind_elim (fun t1315 A H => ?_)
  refine call_mk (laws_eqStuffOutS.ac A) (avAL_cons (avA_shut' rfl) (avAL_cons (avA_shut' rfl) (avAL_nil))) (Or.inl rfl) rfl rfl (Nat.le_of_ble_eq_true rfl) ?_
  conv => whnf
  refine cut_ 216 [(28, .bool (!t1315))] [] rfl ⟨.inl rfl, trivial⟩ trivial ?_
  conv => whnf
  refine br_nt H (fun c H => ?_) (fun c H => ?_)
  conv => whnf
  injection H with H; subst H
  exact ret_fz [] (rtA_eq rfl)
  conv => whnf
  injection H with H; subst H
  exact ret_fz [] (rtA_eq rfl)
  conv => whnf
  injection H with H; subst H
  exact ret_fz [] (rtA_eq rfl)
  conv => whnf
  injection H with H; subst H
  exact ret_fz [] (rtA_eq rfl)
  conv => whnf
  refine cut_ 80 [(4, .bool false)] [] rfl ⟨.inl rfl, trivial⟩ trivial ?_
  conv => whnf
  injection H with H; subst H
  exact ret_fz [] (rtA_eq rfl)
theorem laws_FnExactStuffMeets.ac {k : Nat} {a0_0 : List S_laws_StuffFoe} {a0_1 : List S_laws_StuffLot} {a0_2 : List S_laws_StuffVessel} {a0_3 : List S_laws_StuffOut} {a1 : ByteArray} {a2 : ByteArray} {r : Bool} (H : laws_FnExactStuffMeets.f k a0_0 a0_1 a0_2 a0_3 a1 a2 = some r) : ACalls Try.prog G 4 [] [.agg [(sv_S_laws_StuffFoe a0_0), (sv_S_laws_StuffLot a0_1), (sv_S_laws_StuffVessel a0_2), (sv_S_laws_StuffOut a0_3)], .str a1, .str a2] [] (.bool r) := by
  refine acalls_of tok hP Try.func4 rfl (by kernel_rfl) [.tmp 6] rfl (by kernel_rfl) (Nat.le_of_ble_eq_true rfl) (.l .n (.l .n (.l .n (.l .n (.c .n (.l .n (.l .n (.c .n (.l .n (.l .n (.l (.c .n .n) .n))))))))))) rfl ?_
  unfold laws_FnExactStuffMeets.f at H
  conv => whnf
  refine br_d H (fun c H => ?_) (fun c H => ?_)
  conv => whnf
  injection H with H; subst H
  exact ret_fz [] (rtA_eq rfl)
  conv => whnf
  refine br_d H (fun c H => ?_) (fun c H => ?_)
  conv => whnf
  injection H with H; subst H
  exact ret_fz [] (rtA_eq rfl)
  conv => whnf
  revert H; refine bind_elim (fun t1317 A H => ?_)
  refine call_mk (laws_szStuffBook.ac A) (avAL_cons (avA_agg (avL_cons (av_shut' rfl) (avL_cons (av_shut' rfl) (avL_cons (av_shut' rfl) (avL_cons (av_shut' rfl) (avL_nil)))))) (avAL_cons (avA_shut' rfl) (avAL_nil))) (Or.inl rfl) rfl rfl (Nat.le_of_ble_eq_true rfl) ?_
  conv => whnf
  refine cut_ 104 [(1, .str a1), (2, .str a2), (3, .bp 0 0), (7, .int .i64 t1317)] [(0, .box [(sv_S_laws_StuffFoe a0_0), (sv_S_laws_StuffLot a0_1), (sv_S_laws_StuffVessel a0_2), (sv_S_laws_StuffOut a0_3)])] rfl ⟨.inl rfl, ⟨.inl rfl, ⟨.inl rfl, ⟨.inl rfl, trivial⟩⟩⟩⟩ ⟨rfl, trivial⟩ ?_
  conv => whnf
  refine br_d H (fun c H => ?_) (fun c H => ?_)
  conv => whnf
  injection H with H; subst H
  exact ret_fz [] (rtA_eq rfl)
  conv => whnf
  revert H; refine bind_elim (fun t1320 A H => ?_)
  refine call_mk (laws_toStuffBook.ac A) (avAL_cons (avA_agg (avL_cons (av_shut' rfl) (avL_cons (av_shut' rfl) (avL_cons (av_shut' rfl) (avL_cons (av_shut' rfl) (avL_nil)))))) (avAL_nil)) (Or.inl rfl) rfl rfl (Nat.le_of_ble_eq_true rfl) ?_
  conv => whnf
  revert H; refine bind_elim (fun t1321 A H => ?_)
  refine call_mk (spec_StuffMeets.ac A) (avAL_cons (avA_agg (avL_cons (av_shut' rfl) (avL_cons (av_shut' rfl) (avL_cons (av_shut' rfl) (avL_cons (av_shut' rfl) (avL_nil)))))) (avAL_cons (avA_shut' rfl) (avAL_cons (avA_shut' rfl) (avAL_nil)))) (Or.inl rfl) rfl rfl (Nat.le_of_ble_eq_true rfl) ?_
  conv => whnf
  revert H; refine bind_elim (fun t1323 A H => ?_)
  refine call_mk (laws_toStuffBook.ac A) (avAL_cons (avA_agg (avL_cons (av_shut' rfl) (avL_cons (av_shut' rfl) (avL_cons (av_shut' rfl) (avL_cons (av_shut' rfl) (avL_nil)))))) (avAL_nil)) (Or.inl rfl) rfl rfl (Nat.le_of_ble_eq_true rfl) ?_
  conv => whnf
  refine cut_ 200 [(1, .str a1), (2, .str a2), (3, .bp 0 0), (8, .bool t1321), (9, .bp 184 0)] [(0, .box [(sv_S_laws_StuffFoe a0_0), (sv_S_laws_StuffLot a0_1), (sv_S_laws_StuffVessel a0_2), (sv_S_laws_StuffOut a0_3)]), (184, .box [(sv_S_impl_StuffFoe t1323.1), (sv_S_impl_StuffLot t1323.2.1), (sv_S_impl_StuffVessel t1323.2.2.1), (sv_S_impl_StuffOut t1323.2.2.2)])] rfl ⟨.inl rfl, ⟨.inl rfl, ⟨.inl rfl, ⟨.inl rfl, ⟨.inl rfl, trivial⟩⟩⟩⟩⟩ ⟨rfl, ⟨rfl, trivial⟩⟩ ?_
  conv => whnf
  revert H; refine bind_elim (fun t1325 A H => ?_)
  refine call_mk (impl_StuffMeets.ac A) (avAL_cons (avA_agg (avL_cons (av_shut' rfl) (avL_cons (av_shut' rfl) (avL_cons (av_shut' rfl) (avL_cons (av_shut' rfl) (avL_nil)))))) (avAL_cons (avA_shut' rfl) (avAL_cons (avA_shut' rfl) (avAL_nil)))) (Or.inl rfl) rfl rfl (Nat.le_of_ble_eq_true rfl) ?_
  conv => whnf
  refine br_t H (fun c H => ?_) (fun c H => ?_)
  conv => whnf
  injection H with H; subst H
  exact ret_fz [] (rtA_eq rfl)
  conv => whnf
  revert H; refine bind_elim (fun t1330 A H => ?_)
  refine call_mk (laws_toStuffBook.ac A) (avAL_cons (avA_agg (avL_cons (av_shut' rfl) (avL_cons (av_shut' rfl) (avL_cons (av_shut' rfl) (avL_cons (av_shut' rfl) (avL_nil)))))) (avAL_nil)) (Or.inl rfl) rfl rfl (Nat.le_of_ble_eq_true rfl) ?_
  conv => whnf
  revert H; refine bind_elim (fun t1331 A H => ?_)
  refine call_mk (laws_eqStuffBook.ac A) (avAL_cons (avA_agg (avL_cons (av_shut' rfl) (avL_cons (av_shut' rfl) (avL_cons (av_shut' rfl) (avL_cons (av_shut' rfl) (avL_nil)))))) (avAL_cons (avA_agg (avL_cons (av_shut' rfl) (avL_cons (av_shut' rfl) (avL_cons (av_shut' rfl) (avL_cons (av_shut' rfl) (avL_nil)))))) (avAL_nil))) (Or.inl rfl) rfl rfl (Nat.le_of_ble_eq_true rfl) ?_
  conv => whnf
  refine cut_ 304 [(40, .bool (!t1331))] [] rfl ⟨.inl rfl, trivial⟩ trivial ?_
  conv => whnf
  refine br_nt H (fun c H => ?_) (fun c H => ?_)
  conv => whnf
  injection H with H; subst H
  exact ret_fz [] (rtA_eq rfl)
  conv => whnf
  injection H with H; subst H
  exact ret_fz [] (rtA_eq rfl)

end Go.Proofs.Ytamkmmkchdnkmaa.SM

