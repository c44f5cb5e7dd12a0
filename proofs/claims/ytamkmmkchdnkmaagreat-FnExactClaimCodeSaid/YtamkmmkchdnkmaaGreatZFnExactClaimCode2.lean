import Derived.Test.YtamkmmkchdnkmaaGreatZFnExactClaimCode1
import Derived.Shelf.Lay
import Derived.Shelf.Sort.AssemblyIn
import Derived.Ground.SoProg
import Derived.Test.YtamkmmkchdnkmaaGreatProg
import Derived.KernelRfl
set_option linter.unusedVariables false
set_option linter.unusedSimpArgs false
namespace Go.Proofs.YtamkmmkchdnkmaaGreat.CC
open Go Go.Aw Go.RowKit Go.Proofs
set_option maxRecDepth 100000
set_option maxHeartbeats 40000000
variable {G : Nat → Option Obj}
attribute [local irreducible] callE Lp Sq Cut RetOk Fits
theorem spec_l23Amounts.ac {k : Nat} {a0_0 : List S_impl_ClaimFoe} {a0_1 : List S_impl_ClaimSpot} {a0_2 : List ByteArray} {a0_3 : List S_impl_ClaimPart} {a0_4 : Int} {a1_0 : Int} {a1_1 : Int} {a1_2 : List ByteArray} {a1_3 : List S_impl_ClaimUse} {a1_4 : List ByteArray} {a1_5 : List ByteArray} {r : Int} (H : spec_l23Amounts.f k a0_0 a0_1 a0_2 a0_3 a0_4 a1_0 a1_1 a1_2 a1_3 a1_4 a1_5 = some r) : ACalls Tryz.prog G 26 [] [.agg [(sv_S_impl_ClaimFoe a0_0), (sv_S_impl_ClaimSpot a0_1), (sv_str a0_2), (sv_S_impl_ClaimPart a0_3), .int .i64 a0_4], .agg [.int .i64 a1_0, .int .i64 a1_1, (sv_str a1_2), (sv_S_impl_ClaimUse a1_3), (sv_str a1_4), (sv_str a1_5)]] [] (.int .i64 r) := by
  refine acalls_of tok hP Tryz.func26 rfl (by kernel_rfl) [.tmp 4] rfl (by kernel_rfl) (Nat.le_of_ble_eq_true rfl) (.l .n (.l (.l .n (.l .n (.l (.c .n (.l .n (.l (.c .n (.l (.c .n .n) .n)) (.l (.c .n (.l (.c .n .n) .n)) (.c .n (.l (.c .n .n) .n)))))) .n))) (.c .n .n))) rfl ?_
  unfold spec_l23Amounts.f at H
  conv => whnf
  refine spec_l23Amounts.l0_lp (a0_0 := a0_0) (a0_1 := a0_1) (a0_2 := a0_2) (a0_3 := a0_3) (a0_4 := a0_4) (a1_1 := a1_1) (a1_3 := a1_3) (k := k) H [] (fits_of ⟨.inl ⟨rfl, rfl⟩, trivial⟩ trivial fi_ trivial rfl) ?_
  intro k x5 hk H; rcases k with _ | k; exact none_elim H; rw [spec_l23Amounts.l0] at H; conv => whnf
  refine br_d H (fun c H => ?_) (fun c H => ?_)
  conv => whnf
  refine nd_ H (fun c H => ?_)
  conv => whnf
  refine Nd.mk nf_ ?_
  conv => whnf
  refine El.mk (rdm_en_S_impl_ClaimUse _ _ nf_ nf_) ?_
  conv => whnf
  revert H; refine bind_elim (fun t1008 A H => ?_)
  refine call_mk (spec_l22Spot.ac A) (avAL_cons (avA_agg (avL_cons (av_shut' rfl) (avL_cons (av_shut' rfl) (avL_cons (av_shut' rfl) (avL_cons (av_shut' rfl) (avL_cons (av_shut' rfl) (avL_nil))))))) (avAL_cons (avA_shut' rfl) (avAL_nil))) (Or.inl rfl) rfl rfl (Nat.le_of_ble_eq_true rfl) ?_
  conv => whnf
  refine nd_ H (fun c H => ?_)
  conv => whnf
  refine nd_ H (fun c H => ?_)
  conv => whnf
  refine El.mk (rdm_en_S_impl_ClaimSpot _ _ nf_ nf_) ?_
  conv => whnf
  refine cut_ 184 [(2, .bp 0 0), (3, .bp 8 0), (5, .int .i64 x5), (6, .bp 168 0)] [(0, .box [(sv_S_impl_ClaimFoe a0_0), (sv_S_impl_ClaimSpot a0_1), (sv_str a0_2), (sv_S_impl_ClaimPart a0_3), .int .i64 a0_4]), (8, .box [.int .i64 a1_0, .int .i64 a1_1, (sv_str a1_2), (sv_S_impl_ClaimUse a1_3), (sv_str a1_4), (sv_str a1_5)]), (168, .box [.str ((rd_impl_ClaimSpot a0_1 t1008).f0), .int .i64 ((rd_impl_ClaimSpot a0_1 t1008).f1), .int .i64 ((rd_impl_ClaimSpot a0_1 t1008).f2), .int .i64 ((rd_impl_ClaimSpot a0_1 t1008).f3), (sv_str ((rd_impl_ClaimSpot a0_1 t1008).f4))])] rfl ⟨.inl rfl, ⟨.inl rfl, ⟨.inl rfl, ⟨.inl rfl, trivial⟩⟩⟩⟩ ⟨rfl, ⟨rfl, ⟨rfl, trivial⟩⟩⟩ ?_
  conv => whnf
  refine Nd.mk nf_ ?_
  conv => whnf
  refine Nd.mk nf_ ?_
  conv => whnf
  refine El.mk (rdm_en_S_impl_ClaimUse _ _ nf_ nf_) ?_
  conv => whnf
  refine br_d H (fun c H => ?_) (fun c H => ?_)
  conv => whnf
  refine Br.t ft_ ?_
  conv => whnf
  refine Br.t ft_ ?_
  conv => whnf
  refine Br.t ft_ ?_
  conv => whnf
  refine Br.t ft_ ?_
  conv => whnf
  refine Br.t ft_ ?_
  conv => whnf
  refine cut_ 320 [(2, .bp 0 0), (3, .bp 8 0), (5, .int .i64 x5), (6, .bp 168 0), (7, .bp 224 0), (41, .bool (decide (((rd_impl_ClaimSpot a0_1 t1008).f2) < ((rd_impl_ClaimUse a1_3 x5).f2))))] [(0, .box [(sv_S_impl_ClaimFoe a0_0), (sv_S_impl_ClaimSpot a0_1), (sv_str a0_2), (sv_S_impl_ClaimPart a0_3), .int .i64 a0_4]), (8, .box [.int .i64 a1_0, .int .i64 a1_1, (sv_str a1_2), (sv_S_impl_ClaimUse a1_3), (sv_str a1_4), (sv_str a1_5)]), (168, .box [.str ((rd_impl_ClaimSpot a0_1 t1008).f0), .int .i64 ((rd_impl_ClaimSpot a0_1 t1008).f1), .int .i64 ((rd_impl_ClaimSpot a0_1 t1008).f2), .int .i64 ((rd_impl_ClaimSpot a0_1 t1008).f3), (sv_str ((rd_impl_ClaimSpot a0_1 t1008).f4))]), (224, .box [.str ((rd_impl_ClaimUse a1_3 x5).f0), .int .i64 ((rd_impl_ClaimUse a1_3 x5).f1), .int .i64 ((rd_impl_ClaimUse a1_3 x5).f2)])] rfl ⟨.inl rfl, ⟨.inl rfl, ⟨.inl rfl, ⟨.inl rfl, ⟨.inl rfl, ⟨.inl rfl, trivial⟩⟩⟩⟩⟩⟩ ⟨rfl, ⟨rfl, ⟨rfl, ⟨rfl, trivial⟩⟩⟩⟩ ?_
  conv => whnf
  refine br_d H (fun c H => ?_) (fun c H => ?_)
  conv => whnf
  refine cut_ 328 [(4, .int .i64 9)] [] rfl ⟨.inl rfl, trivial⟩ trivial ?_
  conv => whnf
  injection H with H; subst H
  exact ret_fz [] (rtA_eq rfl)
  conv => whnf
  refine br_d H (fun c H => ?_) (fun c H => ?_)
  conv => whnf
  refine Br.t ft_ ?_
  conv => whnf
  refine Br.t ft_ ?_
  conv => whnf
  refine Br.t ft_ ?_
  conv => whnf
  refine Br.t ft_ ?_
  conv => whnf
  refine Br.t ft_ ?_
  conv => whnf
  refine Br.t ft_ ?_
  conv => whnf
  refine Br.t ft_ ?_
  conv => whnf
  refine Br.t ft_ ?_
  conv => whnf
  refine cut_ 424 [(2, .bp 0 0), (3, .bp 8 0), (5, .int .i64 x5), (6, .bp 168 0), (54, .bool (decide ((wrap64 (((rd_impl_ClaimSpot a0_1 t1008).f3) + ((rd_impl_ClaimUse a1_3 x5).f2))) > ((rd_impl_ClaimSpot a0_1 t1008).f1))))] [(0, .box [(sv_S_impl_ClaimFoe a0_0), (sv_S_impl_ClaimSpot a0_1), (sv_str a0_2), (sv_S_impl_ClaimPart a0_3), .int .i64 a0_4]), (8, .box [.int .i64 a1_0, .int .i64 a1_1, (sv_str a1_2), (sv_S_impl_ClaimUse a1_3), (sv_str a1_4), (sv_str a1_5)]), (168, .box [.str ((rd_impl_ClaimSpot a0_1 t1008).f0), .int .i64 ((rd_impl_ClaimSpot a0_1 t1008).f1), .int .i64 ((rd_impl_ClaimSpot a0_1 t1008).f2), .int .i64 ((rd_impl_ClaimSpot a0_1 t1008).f3), (sv_str ((rd_impl_ClaimSpot a0_1 t1008).f4))])] rfl ⟨.inl rfl, ⟨.inl rfl, ⟨.inl rfl, ⟨.inl rfl, ⟨.inl rfl, trivial⟩⟩⟩⟩⟩ ⟨rfl, ⟨rfl, ⟨rfl, trivial⟩⟩⟩ ?_
  conv => whnf
  refine br_d H (fun c H => ?_) (fun c H => ?_)
  conv => whnf
  refine cut_ 432 [(4, .int .i64 10)] [] rfl ⟨.inl rfl, trivial⟩ trivial ?_
  conv => whnf
  injection H with H; subst H
  exact ret_fz [] (rtA_eq rfl)
  conv => whnf
  refine br_d H (fun c H => ?_) (fun c H => ?_)
  conv => whnf
  refine Br.t ft_ ?_
  conv => whnf
  refine Br.t ft_ ?_
  conv => whnf
  refine Br.t ft_ ?_
  conv => whnf
  refine cut_ 488 [(2, .bp 0 0), (3, .bp 8 0), (5, .int .i64 x5), (62, .bool (decide (((rd_impl_ClaimSpot a0_1 t1008).f3) > 0)))] [(0, .box [(sv_S_impl_ClaimFoe a0_0), (sv_S_impl_ClaimSpot a0_1), (sv_str a0_2), (sv_S_impl_ClaimPart a0_3), .int .i64 a0_4]), (8, .box [.int .i64 a1_0, .int .i64 a1_1, (sv_str a1_2), (sv_S_impl_ClaimUse a1_3), (sv_str a1_4), (sv_str a1_5)])] rfl ⟨.inl rfl, ⟨.inl rfl, ⟨.inl rfl, ⟨.inl rfl, trivial⟩⟩⟩⟩ ⟨rfl, ⟨rfl, trivial⟩⟩ ?_
  conv => whnf
  refine br_d H (fun c H => ?_) (fun c H => ?_)
  conv => whnf
  refine cut_ 496 [(4, .int .i64 11)] [] rfl ⟨.inl rfl, trivial⟩ trivial ?_
  conv => whnf
  injection H with H; subst H
  exact ret_fz [] (rtA_eq rfl)
  conv => whnf
  exact ⟨(k, wrap64 (x5 + 1)), [], ⟨H, lt_⟩, lt_, (fits_of ⟨.inl ⟨rfl, rfl⟩, trivial⟩ trivial fi_ trivial rfl)⟩
  conv => whnf
  refine Br.f ff_ ?_
  conv => whnf
  refine Br.f ff_ ?_
  conv => whnf
  refine Br.f ff_ ?_
  conv => whnf
  refine cut_ 488 [(2, .bp 0 0), (3, .bp 8 0), (5, .int .i64 x5), (62, .bool false)] [(0, .box [(sv_S_impl_ClaimFoe a0_0), (sv_S_impl_ClaimSpot a0_1), (sv_str a0_2), (sv_S_impl_ClaimPart a0_3), .int .i64 a0_4]), (8, .box [.int .i64 a1_0, .int .i64 a1_1, (sv_str a1_2), (sv_S_impl_ClaimUse a1_3), (sv_str a1_4), (sv_str a1_5)])] rfl ⟨.inl rfl, ⟨.inl rfl, ⟨.inl rfl, ⟨.inl rfl, trivial⟩⟩⟩⟩ ⟨rfl, ⟨rfl, trivial⟩⟩ ?_
  conv => whnf
  refine Br.f rfl ?_
  conv => whnf
  exact ⟨(k, wrap64 (x5 + 1)), [], ⟨H, lt_⟩, lt_, (fits_of ⟨.inl ⟨rfl, rfl⟩, trivial⟩ trivial fi_ trivial rfl)⟩
  conv => whnf
  refine Br.f ff_ ?_
  conv => whnf
  refine Br.f ff_ ?_
  conv => whnf
  refine Br.f ff_ ?_
  conv => whnf
  refine Br.f ff_ ?_
  conv => whnf
  refine Br.f ff_ ?_
  conv => whnf
  refine Br.f ff_ ?_
  conv => whnf
  refine Br.f ff_ ?_
  conv => whnf
  refine Br.f ff_ ?_
  conv => whnf
  refine cut_ 424 [(2, .bp 0 0), (3, .bp 8 0), (5, .int .i64 x5), (6, .bp 168 0), (54, .bool false)] [(0, .box [(sv_S_impl_ClaimFoe a0_0), (sv_S_impl_ClaimSpot a0_1), (sv_str a0_2), (sv_S_impl_ClaimPart a0_3), .int .i64 a0_4]), (8, .box [.int .i64 a1_0, .int .i64 a1_1, (sv_str a1_2), (sv_S_impl_ClaimUse a1_3), (sv_str a1_4), (sv_str a1_5)]), (168, .box [.str ((rd_impl_ClaimSpot a0_1 t1008).f0), .int .i64 ((rd_impl_ClaimSpot a0_1 t1008).f1), .int .i64 ((rd_impl_ClaimSpot a0_1 t1008).f2), .int .i64 ((rd_impl_ClaimSpot a0_1 t1008).f3), (sv_str ((rd_impl_ClaimSpot a0_1 t1008).f4))])] rfl ⟨.inl rfl, ⟨.inl rfl, ⟨.inl rfl, ⟨.inl rfl, ⟨.inl rfl, trivial⟩⟩⟩⟩⟩ ⟨rfl, ⟨rfl, ⟨rfl, trivial⟩⟩⟩ ?_
  conv => whnf
  refine Br.f rfl ?_
  conv => whnf
  refine br_d H (fun c H => ?_) (fun c H => ?_)
  conv => whnf
  refine Br.t ft_ ?_
  conv => whnf
  refine Br.t ft_ ?_
  conv => whnf
  refine Br.t ft_ ?_
  conv => whnf
  refine cut_ 488 [(2, .bp 0 0), (3, .bp 8 0), (5, .int .i64 x5), (62, .bool (decide (((rd_impl_ClaimSpot a0_1 t1008).f3) > 0)))] [(0, .box [(sv_S_impl_ClaimFoe a0_0), (sv_S_impl_ClaimSpot a0_1), (sv_str a0_2), (sv_S_impl_ClaimPart a0_3), .int .i64 a0_4]), (8, .box [.int .i64 a1_0, .int .i64 a1_1, (sv_str a1_2), (sv_S_impl_ClaimUse a1_3), (sv_str a1_4), (sv_str a1_5)])] rfl ⟨.inl rfl, ⟨.inl rfl, ⟨.inl rfl, ⟨.inl rfl, trivial⟩⟩⟩⟩ ⟨rfl, ⟨rfl, trivial⟩⟩ ?_
  conv => whnf
  refine br_d H (fun c H => ?_) (fun c H => ?_)
  conv => whnf
  refine cut_ 496 [(4, .int .i64 11)] [] rfl ⟨.inl rfl, trivial⟩ trivial ?_
  conv => whnf
  injection H with H; subst H
  exact ret_fz [] (rtA_eq rfl)
  conv => whnf
  exact ⟨(k, wrap64 (x5 + 1)), [], ⟨H, lt_⟩, lt_, (fits_of ⟨.inl ⟨rfl, rfl⟩, trivial⟩ trivial fi_ trivial rfl)⟩
  conv => whnf
  refine Br.f ff_ ?_
  conv => whnf
  refine Br.f ff_ ?_
  conv => whnf
  refine Br.f ff_ ?_
  conv => whnf
  refine cut_ 488 [(2, .bp 0 0), (3, .bp 8 0), (5, .int .i64 x5), (62, .bool false)] [(0, .box [(sv_S_impl_ClaimFoe a0_0), (sv_S_impl_ClaimSpot a0_1), (sv_str a0_2), (sv_S_impl_ClaimPart a0_3), .int .i64 a0_4]), (8, .box [.int .i64 a1_0, .int .i64 a1_1, (sv_str a1_2), (sv_S_impl_ClaimUse a1_3), (sv_str a1_4), (sv_str a1_5)])] rfl ⟨.inl rfl, ⟨.inl rfl, ⟨.inl rfl, ⟨.inl rfl, trivial⟩⟩⟩⟩ ⟨rfl, ⟨rfl, trivial⟩⟩ ?_
  conv => whnf
  refine Br.f rfl ?_
  conv => whnf
  exact ⟨(k, wrap64 (x5 + 1)), [], ⟨H, lt_⟩, lt_, (fits_of ⟨.inl ⟨rfl, rfl⟩, trivial⟩ trivial fi_ trivial rfl)⟩
  conv => whnf
  refine Br.f ff_ ?_
  conv => whnf
  refine Br.f ff_ ?_
  conv => whnf
  refine Br.f ff_ ?_
  conv => whnf
  refine Br.f ff_ ?_
  conv => whnf
  refine Br.f ff_ ?_
  conv => whnf
  refine cut_ 320 [(2, .bp 0 0), (3, .bp 8 0), (5, .int .i64 x5), (6, .bp 168 0), (7, .bp 224 0), (41, .bool false)] [(0, .box [(sv_S_impl_ClaimFoe a0_0), (sv_S_impl_ClaimSpot a0_1), (sv_str a0_2), (sv_S_impl_ClaimPart a0_3), .int .i64 a0_4]), (8, .box [.int .i64 a1_0, .int .i64 a1_1, (sv_str a1_2), (sv_S_impl_ClaimUse a1_3), (sv_str a1_4), (sv_str a1_5)]), (168, .box [.str ((rd_impl_ClaimSpot a0_1 t1008).f0), .int .i64 ((rd_impl_ClaimSpot a0_1 t1008).f1), .int .i64 ((rd_impl_ClaimSpot a0_1 t1008).f2), .int .i64 ((rd_impl_ClaimSpot a0_1 t1008).f3), (sv_str ((rd_impl_ClaimSpot a0_1 t1008).f4))]), (224, .box [.str ((rd_impl_ClaimUse a1_3 x5).f0), .int .i64 ((rd_impl_ClaimUse a1_3 x5).f1), .int .i64 ((rd_impl_ClaimUse a1_3 x5).f2)])] rfl ⟨.inl rfl, ⟨.inl rfl, ⟨.inl rfl, ⟨.inl rfl, ⟨.inl rfl, ⟨.inl rfl, trivial⟩⟩⟩⟩⟩⟩ ⟨rfl, ⟨rfl, ⟨rfl, ⟨rfl, trivial⟩⟩⟩⟩ ?_
  conv => whnf
  refine Br.f rfl ?_
  conv => whnf
  refine br_d H (fun c H => ?_) (fun c H => ?_)
  conv => whnf
  refine Br.t ft_ ?_
  conv => whnf
  refine Br.t ft_ ?_
  conv => whnf
  refine Br.t ft_ ?_
  conv => whnf
  refine Br.t ft_ ?_
  conv => whnf
  refine Br.t ft_ ?_
  conv => whnf
  refine Br.t ft_ ?_
  conv => whnf
  refine Br.t ft_ ?_
  conv => whnf
  refine Br.t ft_ ?_
  conv => whnf
  refine cut_ 424 [(2, .bp 0 0), (3, .bp 8 0), (5, .int .i64 x5), (6, .bp 168 0), (54, .bool (decide ((wrap64 (((rd_impl_ClaimSpot a0_1 t1008).f3) + ((rd_impl_ClaimUse a1_3 x5).f2))) > ((rd_impl_ClaimSpot a0_1 t1008).f1))))] [(0, .box [(sv_S_impl_ClaimFoe a0_0), (sv_S_impl_ClaimSpot a0_1), (sv_str a0_2), (sv_S_impl_ClaimPart a0_3), .int .i64 a0_4]), (8, .box [.int .i64 a1_0, .int .i64 a1_1, (sv_str a1_2), (sv_S_impl_ClaimUse a1_3), (sv_str a1_4), (sv_str a1_5)]), (168, .box [.str ((rd_impl_ClaimSpot a0_1 t1008).f0), .int .i64 ((rd_impl_ClaimSpot a0_1 t1008).f1), .int .i64 ((rd_impl_ClaimSpot a0_1 t1008).f2), .int .i64 ((rd_impl_ClaimSpot a0_1 t1008).f3), (sv_str ((rd_impl_ClaimSpot a0_1 t1008).f4))])] rfl ⟨.inl rfl, ⟨.inl rfl, ⟨.inl rfl, ⟨.inl rfl, ⟨.inl rfl, trivial⟩⟩⟩⟩⟩ ⟨rfl, ⟨rfl, ⟨rfl, trivial⟩⟩⟩ ?_
  conv => whnf
  refine br_d H (fun c H => ?_) (fun c H => ?_)
  conv => whnf
  refine cut_ 432 [(4, .int .i64 10)] [] rfl ⟨.inl rfl, trivial⟩ trivial ?_
  conv => whnf
  injection H with H; subst H
  exact ret_fz [] (rtA_eq rfl)
  conv => whnf
  refine br_d H (fun c H => ?_) (fun c H => ?_)
  conv => whnf
  refine Br.t ft_ ?_
  conv => whnf
  refine Br.t ft_ ?_
  conv => whnf
  refine Br.t ft_ ?_
  conv => whnf
  refine cut_ 488 [(2, .bp 0 0), (3, .bp 8 0), (5, .int .i64 x5), (62, .bool (decide (((rd_impl_ClaimSpot a0_1 t1008).f3) > 0)))] [(0, .box [(sv_S_impl_ClaimFoe a0_0), (sv_S_impl_ClaimSpot a0_1), (sv_str a0_2), (sv_S_impl_ClaimPart a0_3), .int .i64 a0_4]), (8, .box [.int .i64 a1_0, .int .i64 a1_1, (sv_str a1_2), (sv_S_impl_ClaimUse a1_3), (sv_str a1_4), (sv_str a1_5)])] rfl ⟨.inl rfl, ⟨.inl rfl, ⟨.inl rfl, ⟨.inl rfl, trivial⟩⟩⟩⟩ ⟨rfl, ⟨rfl, trivial⟩⟩ ?_
  conv => whnf
  refine br_d H (fun c H => ?_) (fun c H => ?_)
  conv => whnf
  refine cut_ 496 [(4, .int .i64 11)] [] rfl ⟨.inl rfl, trivial⟩ trivial ?_
  conv => whnf
  injection H with H; subst H
  exact ret_fz [] (rtA_eq rfl)
  conv => whnf
  exact ⟨(k, wrap64 (x5 + 1)), [], ⟨H, lt_⟩, lt_, (fits_of ⟨.inl ⟨rfl, rfl⟩, trivial⟩ trivial fi_ trivial rfl)⟩
  conv => whnf
  refine Br.f ff_ ?_
  conv => whnf
  refine Br.f ff_ ?_
  conv => whnf
  refine Br.f ff_ ?_
  conv => whnf
  refine cut_ 488 [(2, .bp 0 0), (3, .bp 8 0), (5, .int .i64 x5), (62, .bool false)] [(0, .box [(sv_S_impl_ClaimFoe a0_0), (sv_S_impl_ClaimSpot a0_1), (sv_str a0_2), (sv_S_impl_ClaimPart a0_3), .int .i64 a0_4]), (8, .box [.int .i64 a1_0, .int .i64 a1_1, (sv_str a1_2), (sv_S_impl_ClaimUse a1_3), (sv_str a1_4), (sv_str a1_5)])] rfl ⟨.inl rfl, ⟨.inl rfl, ⟨.inl rfl, ⟨.inl rfl, trivial⟩⟩⟩⟩ ⟨rfl, ⟨rfl, trivial⟩⟩ ?_
  conv => whnf
  refine Br.f rfl ?_
  conv => whnf
  exact ⟨(k, wrap64 (x5 + 1)), [], ⟨H, lt_⟩, lt_, (fits_of ⟨.inl ⟨rfl, rfl⟩, trivial⟩ trivial fi_ trivial rfl)⟩
  conv => whnf
  refine Br.f ff_ ?_
  conv => whnf
  refine Br.f ff_ ?_
  conv => whnf
  refine Br.f ff_ ?_
  conv => whnf
  refine Br.f ff_ ?_
  conv => whnf
  refine Br.f ff_ ?_
  conv => whnf
  refine Br.f ff_ ?_
  conv => whnf
  refine Br.f ff_ ?_
  conv => whnf
  refine Br.f ff_ ?_
  conv => whnf
  refine cut_ 424 [(2, .bp 0 0), (3, .bp 8 0), (5, .int .i64 x5), (6, .bp 168 0), (54, .bool false)] [(0, .box [(sv_S_impl_ClaimFoe a0_0), (sv_S_impl_ClaimSpot a0_1), (sv_str a0_2), (sv_S_impl_ClaimPart a0_3), .int .i64 a0_4]), (8, .box [.int .i64 a1_0, .int .i64 a1_1, (sv_str a1_2), (sv_S_impl_ClaimUse a1_3), (sv_str a1_4), (sv_str a1_5)]), (168, .box [.str ((rd_impl_ClaimSpot a0_1 t1008).f0), .int .i64 ((rd_impl_ClaimSpot a0_1 t1008).f1), .int .i64 ((rd_impl_ClaimSpot a0_1 t1008).f2), .int .i64 ((rd_impl_ClaimSpot a0_1 t1008).f3), (sv_str ((rd_impl_ClaimSpot a0_1 t1008).f4))])] rfl ⟨.inl rfl, ⟨.inl rfl, ⟨.inl rfl, ⟨.inl rfl, ⟨.inl rfl, trivial⟩⟩⟩⟩⟩ ⟨rfl, ⟨rfl, ⟨rfl, trivial⟩⟩⟩ ?_
  conv => whnf
  refine Br.f rfl ?_
  conv => whnf
  refine br_d H (fun c H => ?_) (fun c H => ?_)
  conv => whnf
  refine Br.t ft_ ?_
  conv => whnf
  refine Br.t ft_ ?_
  conv => whnf
  refine Br.t ft_ ?_
  conv => whnf
  refine cut_ 488 [(2, .bp 0 0), (3, .bp 8 0), (5, .int .i64 x5), (62, .bool (decide (((rd_impl_ClaimSpot a0_1 t1008).f3) > 0)))] [(0, .box [(sv_S_impl_ClaimFoe a0_0), (sv_S_impl_ClaimSpot a0_1), (sv_str a0_2), (sv_S_impl_ClaimPart a0_3), .int .i64 a0_4]), (8, .box [.int .i64 a1_0, .int .i64 a1_1, (sv_str a1_2), (sv_S_impl_ClaimUse a1_3), (sv_str a1_4), (sv_str a1_5)])] rfl ⟨.inl rfl, ⟨.inl rfl, ⟨.inl rfl, ⟨.inl rfl, trivial⟩⟩⟩⟩ ⟨rfl, ⟨rfl, trivial⟩⟩ ?_
  conv => whnf
  refine br_d H (fun c H => ?_) (fun c H => ?_)
  conv => whnf
  refine cut_ 496 [(4, .int .i64 11)] [] rfl ⟨.inl rfl, trivial⟩ trivial ?_
  conv => whnf
  injection H with H; subst H
  exact ret_fz [] (rtA_eq rfl)
  conv => whnf
  exact ⟨(k, wrap64 (x5 + 1)), [], ⟨H, lt_⟩, lt_, (fits_of ⟨.inl ⟨rfl, rfl⟩, trivial⟩ trivial fi_ trivial rfl)⟩
  conv => whnf
  refine Br.f ff_ ?_
  conv => whnf
  refine Br.f ff_ ?_
  conv => whnf
  refine Br.f ff_ ?_
  conv => whnf
  refine cut_ 488 [(2, .bp 0 0), (3, .bp 8 0), (5, .int .i64 x5), (62, .bool false)] [(0, .box [(sv_S_impl_ClaimFoe a0_0), (sv_S_impl_ClaimSpot a0_1), (sv_str a0_2), (sv_S_impl_ClaimPart a0_3), .int .i64 a0_4]), (8, .box [.int .i64 a1_0, .int .i64 a1_1, (sv_str a1_2), (sv_S_impl_ClaimUse a1_3), (sv_str a1_4), (sv_str a1_5)])] rfl ⟨.inl rfl, ⟨.inl rfl, ⟨.inl rfl, ⟨.inl rfl, trivial⟩⟩⟩⟩ ⟨rfl, ⟨rfl, trivial⟩⟩ ?_
  conv => whnf
  refine Br.f rfl ?_
  conv => whnf
  exact ⟨(k, wrap64 (x5 + 1)), [], ⟨H, lt_⟩, lt_, (fits_of ⟨.inl ⟨rfl, rfl⟩, trivial⟩ trivial fi_ trivial rfl)⟩
  conv => whnf
  refine cut_ 80 [(4, .int .i64 0)] [] rfl ⟨.inl rfl, trivial⟩ trivial ?_
  conv => whnf
  injection H with H; subst H
  exact ret_fz [] (rtA_eq rfl)
theorem spec_ClaimCode.l1_lp {F : (Exit → St → Prop) → St → Prop} {hv : List Tmp} {Q : Exit → St → Prop} {σ : St} {r : Int} {k : Nat} {a0_0 : List S_impl_ClaimFoe} {a0_1 : List S_impl_ClaimSpot} {a0_2 : List ByteArray} {a0_3 : List S_impl_ClaimPart} {a0_4 : Int} {a1_0 : Int} {a1_1 : Int} {a1_2 : List ByteArray} {a1_3 : List S_impl_ClaimUse} {a1_4 : List ByteArray} {a1_5 : List ByteArray} {x7 : Int} (H : spec_ClaimCode.l1 k a0_0 a0_1 a0_2 a0_3 a0_4 a1_0 a1_1 a1_2 a1_3 a1_4 a1_5 x7 = some r) (rn : List (Option Nat)) (h1 : Fits σ σ [] [(7, .int .i64 x7)] [] [] rn)
    (h2 : ∀ (k0 : Nat) (x7 : Int), k0 < k + 1 → spec_ClaimCode.l1 k0 a0_0 a0_1 a0_2 a0_3 a0_4 a1_0 a1_1 a1_2 a1_3 a1_4 a1_5 x7 = some r → headN σ hv [] [(7, .int .i64 x7)] [] [] (F (fun e σ' => match e with | .normal => ∃ (y : Nat × Int) (rn : List (Option Nat)), (spec_ClaimCode.l1 y.1 a0_0 a0_1 a0_2 a0_3 a0_4 a1_0 a1_1 a1_2 a1_3 a1_4 a1_5 y.2 = some r ∧ y.1 < k + 1) ∧ y.1 < k0 ∧ Fits σ σ' [] [(7, .int .i64 y.2)] [] [] rn | e => Q e σ'))) : Lp F hv Q σ := by
  unfold Lp
  refine ⟨Nat × Int, fun x => spec_ClaimCode.l1 x.1 a0_0 a0_1 a0_2 a0_3 a0_4 a1_0 a1_1 a1_2 a1_3 a1_4 a1_5 x.2 = some r ∧ x.1 < k + 1, fun x => x.1, [], fun x => [(7, .int .i64 x.2)], fun x => [], fun x => [], ⟨(k, x7), rn, ⟨H, Nat.lt_succ_self _⟩, h1⟩, ?_⟩
  rintro ⟨k, x7⟩ ⟨H, hk⟩
  exact h2 k x7 hk H
theorem spec_ClaimCode.l0_lp {F : (Exit → St → Prop) → St → Prop} {hv : List Tmp} {Q : Exit → St → Prop} {σ : St} {r : Int} {k : Nat} {a0_0 : List S_impl_ClaimFoe} {a0_1 : List S_impl_ClaimSpot} {a0_2 : List ByteArray} {a0_3 : List S_impl_ClaimPart} {a0_4 : Int} {a1_0 : Int} {a1_1 : Int} {a1_2 : List ByteArray} {a1_3 : List S_impl_ClaimUse} {a1_4 : List ByteArray} {a1_5 : List ByteArray} {x6 : Int} (H : spec_ClaimCode.l0 k a0_0 a0_1 a0_2 a0_3 a0_4 a1_0 a1_1 a1_2 a1_3 a1_4 a1_5 x6 = some r) (rn : List (Option Nat)) (h1 : Fits σ σ [] [(6, .int .i64 x6)] [] [] rn)
    (h2 : ∀ (k0 : Nat) (x6 : Int), k0 < k + 1 → spec_ClaimCode.l0 k0 a0_0 a0_1 a0_2 a0_3 a0_4 a1_0 a1_1 a1_2 a1_3 a1_4 a1_5 x6 = some r → headN σ hv [] [(6, .int .i64 x6)] [] [] (F (fun e σ' => match e with | .normal => ∃ (y : Nat × Int) (rn : List (Option Nat)), (spec_ClaimCode.l0 y.1 a0_0 a0_1 a0_2 a0_3 a0_4 a1_0 a1_1 a1_2 a1_3 a1_4 a1_5 y.2 = some r ∧ y.1 < k + 1) ∧ y.1 < k0 ∧ Fits σ σ' [] [(6, .int .i64 y.2)] [] [] rn | e => Q e σ'))) : Lp F hv Q σ := by
  unfold Lp
  refine ⟨Nat × Int, fun x => spec_ClaimCode.l0 x.1 a0_0 a0_1 a0_2 a0_3 a0_4 a1_0 a1_1 a1_2 a1_3 a1_4 a1_5 x.2 = some r ∧ x.1 < k + 1, fun x => x.1, [], fun x => [(6, .int .i64 x.2)], fun x => [], fun x => [], ⟨(k, x6), rn, ⟨H, Nat.lt_succ_self _⟩, h1⟩, ?_⟩
  rintro ⟨k, x6⟩ ⟨H, hk⟩
  exact h2 k x6 hk H
theorem spec_ClaimCode.ac {k : Nat} {a0_0 : List S_impl_ClaimFoe} {a0_1 : List S_impl_ClaimSpot} {a0_2 : List ByteArray} {a0_3 : List S_impl_ClaimPart} {a0_4 : Int} {a1_0 : Int} {a1_1 : Int} {a1_2 : List ByteArray} {a1_3 : List S_impl_ClaimUse} {a1_4 : List ByteArray} {a1_5 : List ByteArray} {r : Int} (H : spec_ClaimCode.f k a0_0 a0_1 a0_2 a0_3 a0_4 a1_0 a1_1 a1_2 a1_3 a1_4 a1_5 = some r) : ACalls Tryz.prog G 6 [] [.agg [(sv_S_impl_ClaimFoe a0_0), (sv_S_impl_ClaimSpot a0_1), (sv_str a0_2), (sv_S_impl_ClaimPart a0_3), .int .i64 a0_4], .agg [.int .i64 a1_0, .int .i64 a1_1, (sv_str a1_2), (sv_S_impl_ClaimUse a1_3), (sv_str a1_4), (sv_str a1_5)]] [] (.int .i64 r) := by
  refine acalls_of tok hP Tryz.func6 rfl (by kernel_rfl) [.tmp 4] rfl (by kernel_rfl) (Nat.le_of_ble_eq_true rfl) (.l .n (.l .n (.l (.c .n (.l (.c .n .n) .n)) (.c .n (.l (.l .n (.l (.l (.c .n .n) .n) .n)) (.l .n (.l (.c .n .n) (.l (.l .n (.l .n (.l (.c .n .n) .n))) (.l (.l .n (.l (.c .n .n) .n)) (.l .n (.l .n (.c .n .n)))))))))))) rfl ?_
  unfold spec_ClaimCode.f at H
  conv => whnf
  revert H; refine bind_elim (fun t1011 A H => ?_)
  refine call_mk (spec_ClaimBookOk.ac A) (avAL_cons (avA_agg (avL_cons (av_shut' rfl) (avL_cons (av_shut' rfl) (avL_cons (av_shut' rfl) (avL_cons (av_shut' rfl) (avL_cons (av_shut' rfl) (avL_nil))))))) (avAL_nil)) (Or.inl rfl) rfl rfl (Nat.le_of_ble_eq_true rfl) ?_
  conv => whnf
  refine br_nt H (fun c H => ?_) (fun c H => ?_)
  conv => whnf
  revert H; refine bind_elim (fun t1042 A H => ?_)
  refine call_mk (spec_ClaimWantOk.ac A) (avAL_cons (avA_agg (avL_cons (av_shut' rfl) (avL_cons (av_shut' rfl) (avL_cons (av_shut' rfl) (avL_cons (av_shut' rfl) (avL_cons (av_shut' rfl) (avL_cons (av_shut' rfl) (avL_nil)))))))) (avAL_nil)) (Or.inl rfl) rfl rfl (Nat.le_of_ble_eq_true rfl) ?_
  conv => whnf
  refine br_nt H (fun c H => ?_) (fun c H => ?_)
  conv => whnf
  refine Br.f ff_ ?_
  conv => whnf
  refine Br.f ff_ ?_
  conv => whnf
  revert H; refine bind_elim (fun t1043 A H => ?_)
  refine call_mk (spec_l22Knows.ac A) (avAL_cons (avA_agg (avL_cons (av_shut' rfl) (avL_cons (av_shut' rfl) (avL_cons (av_shut' rfl) (avL_cons (av_shut' rfl) (avL_cons (av_shut' rfl) (avL_nil))))))) (avAL_cons (avA_agg (avL_cons (av_shut' rfl) (avL_cons (av_shut' rfl) (avL_cons (av_shut' rfl) (avL_cons (av_shut' rfl) (avL_cons (av_shut' rfl) (avL_cons (av_shut' rfl) (avL_nil)))))))) (avAL_nil))) (Or.inl rfl) rfl rfl (Nat.le_of_ble_eq_true rfl) ?_
  conv => whnf
  refine Br.f ff_ ?_
  conv => whnf
  refine Br.f ff_ ?_
  conv => whnf
  refine cut_ 120 [(2, .bp 0 0), (3, .bp 8 0), (20, .bool (!t1043))] [(0, .box [(sv_S_impl_ClaimFoe a0_0), (sv_S_impl_ClaimSpot a0_1), (sv_str a0_2), (sv_S_impl_ClaimPart a0_3), .int .i64 a0_4]), (8, .box [.int .i64 a1_0, .int .i64 a1_1, (sv_str a1_2), (sv_S_impl_ClaimUse a1_3), (sv_str a1_4), (sv_str a1_5)])] rfl ⟨.inl rfl, ⟨.inl rfl, ⟨.inl rfl, trivial⟩⟩⟩ ⟨rfl, ⟨rfl, trivial⟩⟩ ?_
  conv => whnf
  refine br_nt H (fun c H => ?_) (fun c H => ?_)
  conv => whnf
  revert H; refine bind_elim (fun t1044 A H => ?_)
  refine call_mk (spec_l22Part.ac A) (avAL_cons (avA_agg (avL_cons (av_shut' rfl) (avL_cons (av_shut' rfl) (avL_cons (av_shut' rfl) (avL_cons (av_shut' rfl) (avL_cons (av_shut' rfl) (avL_nil))))))) (avAL_cons (avA_shut' rfl) (avAL_nil))) (Or.inl rfl) rfl rfl (Nat.le_of_ble_eq_true rfl) ?_
  conv => whnf
  refine cut_ 160 [(2, .bp 0 0), (3, .bp 8 0), (5, .int .i64 t1044)] [(0, .box [(sv_S_impl_ClaimFoe a0_0), (sv_S_impl_ClaimSpot a0_1), (sv_str a0_2), (sv_S_impl_ClaimPart a0_3), .int .i64 a0_4]), (8, .box [.int .i64 a1_0, .int .i64 a1_1, (sv_str a1_2), (sv_S_impl_ClaimUse a1_3), (sv_str a1_4), (sv_str a1_5)])] rfl ⟨.inl rfl, ⟨.inl rfl, ⟨.inl rfl, trivial⟩⟩⟩ ⟨rfl, ⟨rfl, trivial⟩⟩ ?_
  conv => whnf
  refine br_d H (fun c H => ?_) (fun c H => ?_)
  conv => whnf
  refine nd_ H (fun c H => ?_)
  conv => whnf
  refine nd_ H (fun c H => ?_)
  conv => whnf
  refine El.mk (rdm_en_S_impl_ClaimPart _ _ nf_ nf_) ?_
  conv => whnf
  revert H; refine bind_elim (fun t1045 A H => ?_)
  refine call_mk (spec_l21Same.ac A) (avAL_cons (avA_agg (avL_cons (av_shut' rfl) (avL_cons (av_shut' rfl) (avL_cons (av_shut' rfl) (avL_cons (av_shut' rfl) (avL_cons (av_shut' rfl) (avL_cons (av_shut' rfl) (avL_nil)))))))) (avAL_cons (avA_agg (avL_cons (av_shut' rfl) (avL_cons (av_shut' rfl) (avL_cons (av_shut' rfl) (avL_cons (av_shut' rfl) (avL_cons (av_shut' rfl) (avL_cons (av_shut' rfl) (avL_nil)))))))) (avAL_nil))) (Or.inl rfl) rfl rfl (Nat.le_of_ble_eq_true rfl) ?_
  conv => whnf
  refine cut_ 240 [(34, .bool t1045)] [] rfl ⟨.inl rfl, trivial⟩ trivial ?_
  conv => whnf
  refine br_t H (fun c H => ?_) (fun c H => ?_)
  conv => whnf
  injection H with H; subst H
  exact ret_fz [] (rtA_eq rfl)
  conv => whnf
  injection H with H; subst H
  exact ret_fz [] (rtA_eq rfl)
  conv => whnf
  refine br_d H (fun c H => ?_) (fun c H => ?_)
  conv => whnf
  injection H with H; subst H
  exact ret_fz [] (rtA_eq rfl)
  conv => whnf
  refine cut_ 248 [(2, .bp 0 0), (3, .bp 8 0), (43, .bool (decide ((a0_3.length : Int) ≥ 6)))] [(0, .box [(sv_S_impl_ClaimFoe a0_0), (sv_S_impl_ClaimSpot a0_1), (sv_str a0_2), (sv_S_impl_ClaimPart a0_3), .int .i64 a0_4]), (8, .box [.int .i64 a1_0, .int .i64 a1_1, (sv_str a1_2), (sv_S_impl_ClaimUse a1_3), (sv_str a1_4), (sv_str a1_5)])] rfl ⟨.inl rfl, ⟨.inl rfl, ⟨.inl rfl, trivial⟩⟩⟩ ⟨rfl, ⟨rfl, trivial⟩⟩ ?_
  conv => whnf
  refine br_d H (fun c H => ?_) (fun c H => ?_)
  conv => whnf
  injection H with H; subst H
  exact ret_fz [] (rtA_eq rfl)
  conv => whnf
  refine spec_ClaimCode.l0_lp (a0_0 := a0_0) (a0_1 := a0_1) (a0_2 := a0_2) (a0_3 := a0_3) (a0_4 := a0_4) (a1_0 := a1_0) (a1_1 := a1_1) (a1_2 := a1_2) (a1_3 := a1_3) (a1_4 := a1_4) (a1_5 := a1_5) (k := k) H [] (fits_of ⟨.inl ⟨rfl, rfl⟩, trivial⟩ trivial fi_ trivial rfl) ?_
  intro k x6 hk H; rcases k with _ | k; exact none_elim H; rw [spec_ClaimCode.l0] at H; conv => whnf
  refine br_d H (fun c H => ?_) (fun c H => ?_)
  conv => whnf
  revert H; refine bind_elim (fun t1046 A H => ?_)
  refine call_mk (spec_l22Uses.ac A) (avAL_cons (avA_agg (avL_cons (av_shut' rfl) (avL_cons (av_shut' rfl) (avL_cons (av_shut' rfl) (avL_cons (av_shut' rfl) (avL_cons (av_shut' rfl) (avL_cons (av_shut' rfl) (avL_nil)))))))) (avAL_nil)) (Or.inl rfl) rfl rfl (Nat.le_of_ble_eq_true rfl) ?_
  conv => whnf
  refine nd_ H (fun c H => ?_)
  conv => whnf
  refine Nd.mk nf_ ?_
  conv => whnf
  refine El.mk (rdm_en_S_impl_ClaimPart _ _ nf_ nf_) ?_
  conv => whnf
  revert H; refine bind_elim (fun t1047 A H => ?_)
  refine call_mk (spec_l22Uses.ac A) (avAL_cons (avA_agg (avL_cons (av_shut' rfl) (avL_cons (av_shut' rfl) (avL_cons (av_shut' rfl) (avL_cons (av_shut' rfl) (avL_cons (av_shut' rfl) (avL_cons (av_shut' rfl) (avL_nil)))))))) (avAL_nil)) (Or.inl rfl) rfl rfl (Nat.le_of_ble_eq_true rfl) ?_
  conv => whnf
  revert H; refine bind_elim (fun t1048 A H => ?_)
  refine call_mk (spec_l21Share.ac A) (avAL_cons (avA_shut' rfl) (avAL_cons (avA_shut' rfl) (avAL_nil))) (Or.inl rfl) rfl rfl (Nat.le_of_ble_eq_true rfl) ?_
  conv => whnf
  refine cut_ 376 [(2, .bp 0 0), (3, .bp 8 0), (6, .int .i64 x6), (60, .bool t1048)] [(0, .box [(sv_S_impl_ClaimFoe a0_0), (sv_S_impl_ClaimSpot a0_1), (sv_str a0_2), (sv_S_impl_ClaimPart a0_3), .int .i64 a0_4]), (8, .box [.int .i64 a1_0, .int .i64 a1_1, (sv_str a1_2), (sv_S_impl_ClaimUse a1_3), (sv_str a1_4), (sv_str a1_5)])] rfl ⟨.inl rfl, ⟨.inl rfl, ⟨.inl rfl, ⟨.inl rfl, trivial⟩⟩⟩⟩ ⟨rfl, ⟨rfl, trivial⟩⟩ ?_
  conv => whnf
  refine br_t H (fun c H => ?_) (fun c H => ?_)
  conv => whnf
  injection H with H; subst H
  exact ret_fz [] (rtA_eq rfl)
  conv => whnf
  exact ⟨(k, wrap64 (x6 + 1)), [], ⟨H, lt_⟩, lt_, (fits_of ⟨.inl ⟨rfl, rfl⟩, trivial⟩ trivial fi_ trivial rfl)⟩
  conv => whnf
  refine spec_ClaimCode.l1_lp (a0_0 := a0_0) (a0_1 := a0_1) (a0_2 := a0_2) (a0_3 := a0_3) (a0_4 := a0_4) (a1_0 := a1_0) (a1_1 := a1_1) (a1_2 := a1_2) (a1_3 := a1_3) (a1_4 := a1_4) (a1_5 := a1_5) (k := k) H [] (fits_of ⟨.inl ⟨rfl, rfl⟩, trivial⟩ trivial fi_ trivial rfl) ?_
  intro k x7 hk H; rcases k with _ | k; exact none_elim H; rw [spec_ClaimCode.l1] at H; conv => whnf
  refine cut_ 344 [(2, .bp 0 0), (3, .bp 8 0), (7, .int .i64 x7), (65, .bool (decide (x7 < (a0_3.length : Int))))] [(0, .box [(sv_S_impl_ClaimFoe a0_0), (sv_S_impl_ClaimSpot a0_1), (sv_str a0_2), (sv_S_impl_ClaimPart a0_3), .int .i64 a0_4]), (8, .box [.int .i64 a1_0, .int .i64 a1_1, (sv_str a1_2), (sv_S_impl_ClaimUse a1_3), (sv_str a1_4), (sv_str a1_5)])] rfl ⟨.inl rfl, ⟨.inl rfl, ⟨.inl rfl, ⟨.inl rfl, trivial⟩⟩⟩⟩ ⟨rfl, ⟨rfl, trivial⟩⟩ ?_
  conv => whnf
  refine br_d H (fun c H => ?_) (fun c H => ?_)
  conv => whnf
  refine nd_ H (fun c H => ?_)
  conv => whnf
  refine Nd.mk nf_ ?_
  conv => whnf
  refine El.mk (rdm_en_S_impl_ClaimPart _ _ nf_ nf_) ?_
  conv => whnf
  revert H; refine bind_elim (fun t1049 A H => ?_)
  refine call_mk (spec_l22Crosses.ac A) (avAL_cons (avA_agg (avL_cons (av_shut' rfl) (avL_cons (av_shut' rfl) (avL_cons (av_shut' rfl) (avL_cons (av_shut' rfl) (avL_cons (av_shut' rfl) (avL_cons (av_shut' rfl) (avL_nil)))))))) (avAL_cons (avA_agg (avL_cons (av_shut' rfl) (avL_cons (av_shut' rfl) (avL_cons (av_shut' rfl) (avL_cons (av_shut' rfl) (avL_cons (av_shut' rfl) (avL_cons (av_shut' rfl) (avL_nil)))))))) (avAL_nil))) (Or.inl rfl) rfl rfl (Nat.le_of_ble_eq_true rfl) ?_
  conv => whnf
  refine br_t H (fun c H => ?_) (fun c H => ?_)
  conv => whnf
  injection H with H; subst H
  exact ret_fz [] (rtA_eq rfl)
  conv => whnf
  exact ⟨(k, wrap64 (x7 + 1)), [], ⟨H, lt_⟩, lt_, (fits_of ⟨.inl ⟨rfl, rfl⟩, trivial⟩ trivial fi_ trivial rfl)⟩
  conv => whnf
  revert H; refine bind_elim (fun t1050 A H => ?_)
  refine call_mk (spec_l23Stuffs.ac A) (avAL_cons (avA_agg (avL_cons (av_shut' rfl) (avL_cons (av_shut' rfl) (avL_cons (av_shut' rfl) (avL_cons (av_shut' rfl) (avL_cons (av_shut' rfl) (avL_nil))))))) (avAL_cons (avA_agg (avL_cons (av_shut' rfl) (avL_cons (av_shut' rfl) (avL_cons (av_shut' rfl) (avL_cons (av_shut' rfl) (avL_cons (av_shut' rfl) (avL_cons (av_shut' rfl) (avL_nil)))))))) (avAL_nil))) (Or.inl rfl) rfl rfl (Nat.le_of_ble_eq_true rfl) ?_
  conv => whnf
  refine br_nd H (fun c H => ?_) (fun c H => ?_)
  conv => whnf
  revert H; refine bind_elim (fun t1051 A H => ?_)
  refine call_mk (spec_l23Amounts.ac A) (avAL_cons (avA_agg (avL_cons (av_shut' rfl) (avL_cons (av_shut' rfl) (avL_cons (av_shut' rfl) (avL_cons (av_shut' rfl) (avL_cons (av_shut' rfl) (avL_nil))))))) (avAL_cons (avA_agg (avL_cons (av_shut' rfl) (avL_cons (av_shut' rfl) (avL_cons (av_shut' rfl) (avL_cons (av_shut' rfl) (avL_cons (av_shut' rfl) (avL_cons (av_shut' rfl) (avL_nil)))))))) (avAL_nil))) (Or.inl rfl) rfl rfl (Nat.le_of_ble_eq_true rfl) ?_
  conv => whnf
  refine cut_ 424 [(4, .int .i64 t1051)] [] rfl ⟨.inl rfl, trivial⟩ trivial ?_
  conv => whnf
  injection H with H; subst H
  exact ret_fz [] (rtA_eq rfl)
  conv => whnf
  injection H with H; subst H
  exact ret_fz [] (rtA_eq rfl)
  conv => whnf
  refine cut_ 128 [(4, .int .i64 2)] [] rfl ⟨.inl rfl, trivial⟩ trivial ?_
  conv => whnf
  injection H with H; subst H
  exact ret_fz [] (rtA_eq rfl)
  conv => whnf
  refine Br.t ft_ ?_
  conv => whnf
  refine Br.t ft_ ?_
  conv => whnf
  refine Br.t ft_ ?_
  conv => whnf
  refine Br.t ft_ ?_
  conv => whnf
  refine cut_ 120 [(2, .bp 0 0), (3, .bp 8 0), (20, .bool true)] [(0, .box [(sv_S_impl_ClaimFoe a0_0), (sv_S_impl_ClaimSpot a0_1), (sv_str a0_2), (sv_S_impl_ClaimPart a0_3), .int .i64 a0_4]), (8, .box [.int .i64 a1_0, .int .i64 a1_1, (sv_str a1_2), (sv_S_impl_ClaimUse a1_3), (sv_str a1_4), (sv_str a1_5)])] rfl ⟨.inl rfl, ⟨.inl rfl, ⟨.inl rfl, trivial⟩⟩⟩ ⟨rfl, ⟨rfl, trivial⟩⟩ ?_
  conv => whnf
  refine Br.t rfl ?_
  conv => whnf
  refine cut_ 128 [(4, .int .i64 2)] [] rfl ⟨.inl rfl, trivial⟩ trivial ?_
  conv => whnf
  injection H with H; subst H
  exact ret_fz [] (rtA_eq rfl)
  conv => whnf
  injection H with H; subst H
  exact ret_fz [] (rtA_eq rfl)
theorem impl_ClaimBook_pairs.l0_lp {F : (Exit → St → Prop) → St → Prop} {hv : List Tmp} {Q : Exit → St → Prop} {σ : St} {r : List S_A2_string} {k : Nat} {a0_0 : List S_impl_ClaimFoe} {x2 : List S_A2_string} {x8 : Int} (H : impl_ClaimBook_pairs.l0 k a0_0 x2 x8 = some r) (rn : List (Option Nat)) (h1 : Fits σ σ [0] [(2, .own 0 x2.length), (8, .int .i64 x8)] [] [.arr 111 2 (x2.map en_S_A2_string)] rn)
    (h2 : ∀ (k0 : Nat) (x2 : List S_A2_string) (x8 : Int), k0 < k + 1 → impl_ClaimBook_pairs.l0 k0 a0_0 x2 x8 = some r → headN σ hv [0] [(2, .own 0 x2.length), (8, .int .i64 x8)] [] [.arr 111 2 (x2.map en_S_A2_string)] (F (fun e σ' => match e with | .normal => ∃ (y : Nat × (List S_A2_string) × Int) (rn : List (Option Nat)), (impl_ClaimBook_pairs.l0 y.1 a0_0 y.2.1 y.2.2 = some r ∧ y.1 < k + 1) ∧ y.1 < k0 ∧ Fits σ σ' [0] [(2, .own 0 y.2.1.length), (8, .int .i64 y.2.2)] [] [.arr 111 2 (y.2.1.map en_S_A2_string)] rn | e => Q e σ'))) : Lp F hv Q σ := by
  unfold Lp
  refine ⟨Nat × (List S_A2_string) × Int, fun x => impl_ClaimBook_pairs.l0 x.1 a0_0 x.2.1 x.2.2 = some r ∧ x.1 < k + 1, fun x => x.1, [0], fun x => [(2, .own 0 x.2.1.length), (8, .int .i64 x.2.2)], fun x => [], fun x => [.arr 111 2 (x.2.1.map en_S_A2_string)], ⟨(k, x2, x8), rn, ⟨H, Nat.lt_succ_self _⟩, h1⟩, ?_⟩
  rintro ⟨k, x2, x8⟩ ⟨H, hk⟩
  exact h2 k x2 x8 hk H
theorem impl_ClaimBook_pairs.ac {k : Nat} {a0_0 : List S_impl_ClaimFoe} {a0_1 : List S_impl_ClaimSpot} {a0_2 : List ByteArray} {a0_3 : List S_impl_ClaimPart} {a0_4 : Int} {r : List S_A2_string} (H : impl_ClaimBook_pairs.f k a0_0 a0_1 a0_2 a0_3 a0_4 = some r) : ACalls Tryz.prog G 60 [] [.agg [(sv_S_impl_ClaimFoe a0_0), (sv_S_impl_ClaimSpot a0_1), (sv_str a0_2), (sv_S_impl_ClaimPart a0_3), .int .i64 a0_4]] [] ((sv_S_A2_string r)) := by
  refine acalls_of tok hP Tryz.func60 rfl (by kernel_rfl) [.tmp 2] rfl (by kernel_rfl) (Nat.le_of_ble_eq_true rfl) (.l .n (.l (.l .n (.l .n (.l .n (.l (.c .n .n) .n)))) .n)) rfl ?_
  unfold impl_ClaimBook_pairs.f at H
  conv => whnf
  refine impl_ClaimBook_pairs.l0_lp (a0_0 := a0_0) (k := k) H [none] (fits_of ⟨⟨rfl, rfl⟩, ⟨.inl ⟨rfl, rfl⟩, trivial⟩⟩ ⟨⟨_, _, rfl⟩, trivial⟩ fi_ trivial rfl) ?_
  intro k x2 x8 hk H; rcases k with _ | k; exact none_elim H; rw [impl_ClaimBook_pairs.l0] at H; conv => whnf
  refine br_d H (fun c H => ?_) (fun c H => ?_)
  conv => whnf
  refine nd_ H (fun c H => ?_)
  conv => whnf
  refine Nd.mk nf_ ?_
  conv => whnf
  refine El.mk (rdm_en_S_impl_ClaimFoe _ _ nf_ nf_) ?_
  conv => whnf
  refine cut_ 89 [(2, .own 48 x2.length), (4, .bp 73 0), (6, (sv_S_impl_ClaimFoe a0_0)), (7, .int .i64 (a0_0.length : Int)), (8, .int .i64 x8)] [(48, .arr 111 2 (x2.map en_S_A2_string)), (73, .box [.str ((rd_impl_ClaimFoe a0_0 x8).f0), .str ((rd_impl_ClaimFoe a0_0 x8).f1)])] rfl ⟨.inl rfl, ⟨.inl rfl, ⟨.inl rfl, ⟨.inl rfl, ⟨.inl rfl, trivial⟩⟩⟩⟩⟩ ⟨rfl, ⟨rfl, trivial⟩⟩ ?_
  conv => whnf
  refine nd_ H (fun c H => ?_)
  conv => whnf
  exact ⟨(k, (x2 ++ ([(⟨(rd_impl_ClaimFoe a0_0 x8).f0, (rd_impl_ClaimFoe a0_0 x8).f1⟩ : S_A2_string)] : List S_A2_string)), wrap64 (x8 + 1)), [some 145], ⟨H, lt_⟩, lt_, (fits_of ⟨mt_own lm_, ⟨.inl ⟨rfl, rfl⟩, trivial⟩⟩ ⟨fm_, trivial⟩ fi_ trivial rfl)⟩
  conv => whnf
  injection H with H; subst H
  exact ret_fz [48] (rtA_fz' rfl rfl)
theorem impl_isName.l0_lp {F : (Exit → St → Prop) → St → Prop} {hv : List Tmp} {Q : Exit → St → Prop} {σ : St} {r : Bool} {k : Nat} {a0 : ByteArray} {x7 : Int} (H : impl_isName.l0 k a0 x7 = some r) (rn : List (Option Nat)) (h1 : Fits σ σ [] [(7, .int .i64 x7)] [] [] rn)
    (h2 : ∀ (k0 : Nat) (x7 : Int), k0 < k + 1 → impl_isName.l0 k0 a0 x7 = some r → headN σ hv [] [(7, .int .i64 x7)] [] [] (F (fun e σ' => match e with | .normal => ∃ (y : Nat × Int) (rn : List (Option Nat)), (impl_isName.l0 y.1 a0 y.2 = some r ∧ y.1 < k + 1) ∧ y.1 < k0 ∧ Fits σ σ' [] [(7, .int .i64 y.2)] [] [] rn | e => Q e σ'))) : Lp F hv Q σ := by
  unfold Lp
  refine ⟨Nat × Int, fun x => impl_isName.l0 x.1 a0 x.2 = some r ∧ x.1 < k + 1, fun x => x.1, [], fun x => [(7, .int .i64 x.2)], fun x => [], fun x => [], ⟨(k, x7), rn, ⟨H, Nat.lt_succ_self _⟩, h1⟩, ?_⟩
  rintro ⟨k, x7⟩ ⟨H, hk⟩
  exact h2 k x7 hk H
theorem impl_isName.ac {k : Nat} {a0 : ByteArray} {r : Bool} (H : impl_isName.f k a0 = some r) : ACalls Tryz.prog G 62 [] [.str a0] [] (.bool r) := by
  refine acalls_of tok hP Tryz.func62 rfl (by kernel_rfl) [.tmp 2] rfl (by kernel_rfl) (Nat.le_of_ble_eq_true rfl) (.l .n (.l (.l .n (.l .n (.l .n (.l (.l .n (.c .n (.c .n (.l (.c .n .n) .n)))) .n)))) (.c .n .n))) rfl ?_
  unfold impl_isName.f at H
  conv => whnf
  refine impl_isName.l0_lp (a0 := a0) (k := k) H [] (fits_of ⟨.inl ⟨rfl, rfl⟩, trivial⟩ trivial fi_ trivial rfl) ?_
  intro k x7 hk H; rcases k with _ | k; exact none_elim H; rw [impl_isName.l0] at H; conv => whnf
  refine br_d H (fun c H => ?_) (fun c H => ?_)
  conv => whnf
  refine nd_ H (fun c H => ?_)
  conv => whnf
  refine Nd.mk nf_ ?_
  conv => whnf
  refine cut_ 88 [(0, .str a0), (4, .int .u8 (bt a0 x7)), (6, .int .i64 (a0.size : Int)), (7, .int .i64 x7)] [] rfl ⟨.inl rfl, ⟨.inl rfl, ⟨.inl rfl, ⟨.inl rfl, trivial⟩⟩⟩⟩ trivial ?_
  conv => whnf
  refine br_d H (fun c H => ?_) (fun c H => ?_)
  conv => whnf
  refine Br.t ft_ ?_
  conv => whnf
  refine Br.t ft_ ?_
  conv => whnf
  refine Br.t rfl ?_
  conv => whnf
  refine Br.t rfl ?_
  conv => whnf
  refine Br.t rfl ?_
  conv => whnf
  refine br_d H (fun c H => ?_) (fun c H => ?_)
  conv => whnf
  refine Br.t ft_ ?_
  conv => whnf
  refine Br.t rfl ?_
  conv => whnf
  refine Br.t ft_ ?_
  conv => whnf
  refine Br.t rfl ?_
  conv => whnf
  refine Br.t rfl ?_
  conv => whnf
  refine Br.t rfl ?_
  conv => whnf
  refine Br.t rfl ?_
  conv => whnf
  refine cut_ 232 [(0, .str a0), (6, .int .i64 (a0.size : Int)), (7, .int .i64 x7), (30, .bool (!(decide ((bt a0 x7) = 45))))] [] rfl ⟨.inl rfl, ⟨.inl rfl, ⟨.inl rfl, ⟨.inl rfl, trivial⟩⟩⟩⟩ trivial ?_
  conv => whnf
  refine br_nd H (fun c H => ?_) (fun c H => ?_)
  conv => whnf
  exact ⟨(k, wrap64 (x7 + 1)), [], ⟨H, lt_⟩, lt_, (fits_of ⟨.inl ⟨rfl, rfl⟩, trivial⟩ trivial fi_ trivial rfl)⟩
  conv => whnf
  refine cut_ 240 [(2, .bool false)] [] rfl ⟨.inl rfl, trivial⟩ trivial ?_
  conv => whnf
  injection H with H; subst H
  exact ret_fz [] (rtA_eq rfl)
  conv => whnf
  refine Br.f ff_ ?_
  conv => whnf
  refine Br.t rfl ?_
  conv => whnf
  refine Br.f ff_ ?_
  conv => whnf
  refine Br.t rfl ?_
  conv => whnf
  refine br_d H (fun c H => ?_) (fun c H => ?_)
  conv => whnf
  refine Br.t ft_ ?_
  conv => whnf
  refine Br.t ft_ ?_
  conv => whnf
  refine cut_ 232 [(0, .str a0), (6, .int .i64 (a0.size : Int)), (7, .int .i64 x7), (30, .bool (!(decide ((bt a0 x7) = 45))))] [] rfl ⟨.inl rfl, ⟨.inl rfl, ⟨.inl rfl, ⟨.inl rfl, trivial⟩⟩⟩⟩ trivial ?_
  conv => whnf
  refine br_nd H (fun c H => ?_) (fun c H => ?_)
  conv => whnf
  exact ⟨(k, wrap64 (x7 + 1)), [], ⟨H, lt_⟩, lt_, (fits_of ⟨.inl ⟨rfl, rfl⟩, trivial⟩ trivial fi_ trivial rfl)⟩
  conv => whnf
  refine cut_ 240 [(2, .bool false)] [] rfl ⟨.inl rfl, trivial⟩ trivial ?_
  conv => whnf
  injection H with H; subst H
  exact ret_fz [] (rtA_eq rfl)
  conv => whnf
  refine Br.f ff_ ?_
  conv => whnf
  refine Br.f ff_ ?_
  conv => whnf
  refine cut_ 232 [(0, .str a0), (6, .int .i64 (a0.size : Int)), (7, .int .i64 x7), (30, .bool false)] [] rfl ⟨.inl rfl, ⟨.inl rfl, ⟨.inl rfl, ⟨.inl rfl, trivial⟩⟩⟩⟩ trivial ?_
  conv => whnf
  refine Br.f rfl ?_
  conv => whnf
  exact ⟨(k, wrap64 (x7 + 1)), [], ⟨H, lt_⟩, lt_, (fits_of ⟨.inl ⟨rfl, rfl⟩, trivial⟩ trivial fi_ trivial rfl)⟩
  conv => whnf
  refine Br.f ff_ ?_
  conv => whnf
  refine Br.f ff_ ?_
  conv => whnf
  refine br_d H (fun c H => ?_) (fun c H => ?_)
  conv => whnf
  refine Br.t ft_ ?_
  conv => whnf
  refine Br.t ft_ ?_
  conv => whnf
  refine br_d H (fun c H => ?_) (fun c H => ?_)
  conv => whnf
  refine Br.t ft_ ?_
  conv => whnf
  refine Br.t ft_ ?_
  conv => whnf
  refine Br.t ft_ ?_
  conv => whnf
  refine Br.t ft_ ?_
  conv => whnf
  refine Br.t rfl ?_
  conv => whnf
  refine Br.t rfl ?_
  conv => whnf
  refine Br.t rfl ?_
  conv => whnf
  refine cut_ 232 [(0, .str a0), (6, .int .i64 (a0.size : Int)), (7, .int .i64 x7), (30, .bool (!(decide ((bt a0 x7) = 45))))] [] rfl ⟨.inl rfl, ⟨.inl rfl, ⟨.inl rfl, ⟨.inl rfl, trivial⟩⟩⟩⟩ trivial ?_
  conv => whnf
  refine br_nd H (fun c H => ?_) (fun c H => ?_)
  conv => whnf
  exact ⟨(k, wrap64 (x7 + 1)), [], ⟨H, lt_⟩, lt_, (fits_of ⟨.inl ⟨rfl, rfl⟩, trivial⟩ trivial fi_ trivial rfl)⟩
  conv => whnf
  refine cut_ 240 [(2, .bool false)] [] rfl ⟨.inl rfl, trivial⟩ trivial ?_
  conv => whnf
  injection H with H; subst H
  exact ret_fz [] (rtA_eq rfl)
  conv => whnf
  refine Br.f ff_ ?_
  conv => whnf
  refine Br.t ft_ ?_
  conv => whnf
  refine Br.f ff_ ?_
  conv => whnf
  refine Br.t ft_ ?_
  conv => whnf
  refine br_d H (fun c H => ?_) (fun c H => ?_)
  conv => whnf
  refine Br.t ft_ ?_
  conv => whnf
  refine Br.t ft_ ?_
  conv => whnf
  refine cut_ 232 [(0, .str a0), (6, .int .i64 (a0.size : Int)), (7, .int .i64 x7), (30, .bool (!(decide ((bt a0 x7) = 45))))] [] rfl ⟨.inl rfl, ⟨.inl rfl, ⟨.inl rfl, ⟨.inl rfl, trivial⟩⟩⟩⟩ trivial ?_
  conv => whnf
  refine br_nd H (fun c H => ?_) (fun c H => ?_)
  conv => whnf
  exact ⟨(k, wrap64 (x7 + 1)), [], ⟨H, lt_⟩, lt_, (fits_of ⟨.inl ⟨rfl, rfl⟩, trivial⟩ trivial fi_ trivial rfl)⟩
  conv => whnf
  refine cut_ 240 [(2, .bool false)] [] rfl ⟨.inl rfl, trivial⟩ trivial ?_
  conv => whnf
  injection H with H; subst H
  exact ret_fz [] (rtA_eq rfl)
  conv => whnf
  refine Br.f ff_ ?_
  conv => whnf
  refine Br.f ff_ ?_
  conv => whnf
  refine cut_ 232 [(0, .str a0), (6, .int .i64 (a0.size : Int)), (7, .int .i64 x7), (30, .bool false)] [] rfl ⟨.inl rfl, ⟨.inl rfl, ⟨.inl rfl, ⟨.inl rfl, trivial⟩⟩⟩⟩ trivial ?_
  conv => whnf
  refine Br.f rfl ?_
  conv => whnf
  exact ⟨(k, wrap64 (x7 + 1)), [], ⟨H, lt_⟩, lt_, (fits_of ⟨.inl ⟨rfl, rfl⟩, trivial⟩ trivial fi_ trivial rfl)⟩
  conv => whnf
  refine Br.f ff_ ?_
  conv => whnf
  refine Br.f ff_ ?_
  conv => whnf
  refine Br.f ff_ ?_
  conv => whnf
  refine Br.f ff_ ?_
  conv => whnf
  refine Br.f rfl ?_
  conv => whnf
  refine Br.f rfl ?_
  conv => whnf
  refine Br.f rfl ?_
  conv => whnf
  refine cut_ 232 [(0, .str a0), (6, .int .i64 (a0.size : Int)), (7, .int .i64 x7), (30, .bool false)] [] rfl ⟨.inl rfl, ⟨.inl rfl, ⟨.inl rfl, ⟨.inl rfl, trivial⟩⟩⟩⟩ trivial ?_
  conv => whnf
  refine Br.f rfl ?_
  conv => whnf
  exact ⟨(k, wrap64 (x7 + 1)), [], ⟨H, lt_⟩, lt_, (fits_of ⟨.inl ⟨rfl, rfl⟩, trivial⟩ trivial fi_ trivial rfl)⟩
  conv => whnf
  refine br_d H (fun c H => ?_) (fun c H => ?_)
  conv => whnf
  refine Br.t ft_ ?_
  conv => whnf
  refine Br.t ft_ ?_
  conv => whnf
  refine Br.t ft_ ?_
  conv => whnf
  refine cut_ 112 [(2, .bool (decide ((a0.size : Int) ≤ 8)))] [] rfl ⟨.inl rfl, trivial⟩ trivial ?_
  conv => whnf
  injection H with H; subst H
  exact ret_fz [] (rtA_eq rfl)
  conv => whnf
  refine Br.f ff_ ?_
  conv => whnf
  refine Br.f ff_ ?_
  conv => whnf
  refine Br.f ff_ ?_
  conv => whnf
  refine cut_ 112 [(2, .bool false)] [] rfl ⟨.inl rfl, trivial⟩ trivial ?_
  conv => whnf
  injection H with H; subst H
  exact ret_fz [] (rtA_eq rfl)
theorem impl_foesOk.l0_lp {F : (Exit → St → Prop) → St → Prop} {hv : List Tmp} {Q : Exit → St → Prop} {σ : St} {r : Bool} {k : Nat} {l0 : List S_A2_string} {a1 : Int} {x9 : Int} (H : impl_foesOk.l0 k l0 a1 x9 = some r) (rn : List (Option Nat)) (h1 : Fits σ σ [] [(9, .int .i64 x9)] [] [] rn)
    (h2 : ∀ (k0 : Nat) (x9 : Int), k0 < k + 1 → impl_foesOk.l0 k0 l0 a1 x9 = some r → headN σ hv [] [(9, .int .i64 x9)] [] [] (F (fun e σ' => match e with | .normal => ∃ (y : Nat × Int) (rn : List (Option Nat)), (impl_foesOk.l0 y.1 l0 a1 y.2 = some r ∧ y.1 < k + 1) ∧ y.1 < k0 ∧ Fits σ σ' [] [(9, .int .i64 y.2)] [] [] rn | e => Q e σ'))) : Lp F hv Q σ := by
  unfold Lp
  refine ⟨Nat × Int, fun x => impl_foesOk.l0 x.1 l0 a1 x.2 = some r ∧ x.1 < k + 1, fun x => x.1, [], fun x => [(9, .int .i64 x.2)], fun x => [], fun x => [], ⟨(k, x9), rn, ⟨H, Nat.lt_succ_self _⟩, h1⟩, ?_⟩
  rintro ⟨k, x9⟩ ⟨H, hk⟩
  exact h2 k x9 hk H
theorem impl_foesOk.ac {k : Nat} {l0 : List S_A2_string} {a1 : Int} {r : Bool} (H : impl_foesOk.f k l0 a1 = some r) : ACalls Tryz.prog G 59 [] [(sv_S_A2_string l0), .int .i64 a1] [] (.bool r) := by
  refine acalls_of tok hP Tryz.func59 rfl (by kernel_rfl) [.tmp 4] rfl (by kernel_rfl) (Nat.le_of_ble_eq_true rfl) (.l .n (.l (.l .n (.l .n (.l .n (.l (.c .n (.l (.c .n (.l (.c .n .n) .n)) (.c .n (.l (.c .n .n) .n)))) .n)))) (.c .n .n))) rfl ?_
  unfold impl_foesOk.f at H
  conv => whnf
  refine impl_foesOk.l0_lp (l0 := l0) (a1 := a1) (k := k) H [] (fits_of ⟨.inl ⟨rfl, rfl⟩, trivial⟩ trivial fi_ trivial rfl) ?_
  intro k x9 hk H; rcases k with _ | k; exact none_elim H; rw [impl_foesOk.l0] at H; conv => whnf
  refine br_d H (fun c H => ?_) (fun c H => ?_)
  conv => whnf
  refine nd_ H (fun c H => ?_)
  conv => whnf
  refine Nd.mk nf_ ?_
  conv => whnf
  refine El.mk (rdm_en_S_A2_string _ _ nf_ nf_) ?_
  conv => whnf
  refine cut_ 88 [(0, (sv_S_A2_string l0)), (1, .int .i64 a1), (5, .int .i64 x9), (6, .bp 64 0), (7, (sv_S_A2_string l0)), (8, .int .i64 (l0.length : Int)), (9, .int .i64 x9)] [(64, .box [.str ((rd_A2_string l0 x9).f0), .str ((rd_A2_string l0 x9).f1)])] rfl ⟨.inl rfl, ⟨.inl rfl, ⟨.inl rfl, ⟨.inl rfl, ⟨.inl rfl, ⟨.inl rfl, ⟨.inl rfl, trivial⟩⟩⟩⟩⟩⟩⟩ ⟨rfl, trivial⟩ ?_
  conv => whnf
  revert H; refine bind_elim (fun t1132 A H => ?_)
  refine call_mk (impl_isName.ac A) (avAL_cons (avA_shut' rfl) (avAL_nil)) (Or.inl rfl) rfl rfl (Nat.le_of_ble_eq_true rfl) ?_
  conv => whnf
  refine br_nt H (fun c H => ?_) (fun c H => ?_)
  conv => whnf
  refine Br.f ff_ ?_
  conv => whnf
  refine Br.f ff_ ?_
  conv => whnf
  revert H; refine bind_elim (fun t1133 A H => ?_)
  refine call_mk (impl_isName.ac A) (avAL_cons (avA_shut' rfl) (avAL_nil)) (Or.inl rfl) rfl rfl (Nat.le_of_ble_eq_true rfl) ?_
  conv => whnf
  refine Br.f ff_ ?_
  conv => whnf
  refine Br.f ff_ ?_
  conv => whnf
  refine br_nt H (fun c H => ?_) (fun c H => ?_)
  conv => whnf
  refine Br.f ff_ ?_
  conv => whnf
  refine Br.f ff_ ?_
  conv => whnf
  refine Br.f ff_ ?_
  conv => whnf
  refine Br.f ff_ ?_
  conv => whnf
  refine Br.f ff_ ?_
  conv => whnf
  refine cut_ 224 [(0, (sv_S_A2_string l0)), (1, .int .i64 a1), (5, .int .i64 x9), (6, .bp 64 0), (7, (sv_S_A2_string l0)), (8, .int .i64 (l0.length : Int)), (9, .int .i64 x9), (30, .bool (!(Op.bytesLess ((rd_A2_string l0 x9).f0).toList ((rd_A2_string l0 x9).f1).toList)))] [(64, .box [.str ((rd_A2_string l0 x9).f0), .str ((rd_A2_string l0 x9).f1)])] rfl ⟨.inl rfl, ⟨.inl rfl, ⟨.inl rfl, ⟨.inl rfl, ⟨.inl rfl, ⟨.inl rfl, ⟨.inl rfl, ⟨.inl rfl, trivial⟩⟩⟩⟩⟩⟩⟩⟩ ⟨rfl, trivial⟩ ?_
  conv => whnf
  refine br_nt H (fun c H => ?_) (fun c H => ?_)
  conv => whnf
  refine br_d H (fun c H => ?_) (fun c H => ?_)
  conv => whnf
  refine Br.t ft_ ?_
  conv => whnf
  refine Br.t ft_ ?_
  conv => whnf
  refine Br.t ft_ ?_
  conv => whnf
  refine nd_ H (fun c H => ?_)
  conv => whnf
  refine nd_ H (fun c H => ?_)
  conv => whnf
  refine El.mk (rdm_en_S_A2_string _ _ nf_ nf_) ?_
  conv => whnf
  refine Br.t ft_ ?_
  conv => whnf
  refine Br.t ft_ ?_
  conv => whnf
  refine Br.t ft_ ?_
  conv => whnf
  refine Br.t ft_ ?_
  conv => whnf
  refine Br.t ft_ ?_
  conv => whnf
  refine Br.t ft_ ?_
  conv => whnf
  refine br_t H (fun c H => ?_) (fun c H => ?_)
  conv => whnf
  refine Br.t ft_ ?_
  conv => whnf
  refine Br.t ft_ ?_
  conv => whnf
  refine Br.t ft_ ?_
  conv => whnf
  refine Br.t ft_ ?_
  conv => whnf
  refine Br.t ft_ ?_
  conv => whnf
  refine Br.t ft_ ?_
  conv => whnf
  refine Br.t ft_ ?_
  conv => whnf
  refine Br.t ft_ ?_
  conv => whnf
  refine Br.t ft_ ?_
  conv => whnf
  refine Br.t ft_ ?_
  conv => whnf
  refine Br.t ft_ ?_
  conv => whnf
  refine Br.t ft_ ?_
  conv => whnf
  refine Br.t ft_ ?_
  conv => whnf
  refine cut_ 504 [(0, (sv_S_A2_string l0)), (1, .int .i64 a1), (7, (sv_S_A2_string l0)), (8, .int .i64 (l0.length : Int)), (9, .int .i64 x9), (65, .bool true)] [] rfl ⟨.inl rfl, ⟨.inl rfl, ⟨.inl rfl, ⟨.inl rfl, ⟨.inl rfl, ⟨.inl rfl, trivial⟩⟩⟩⟩⟩⟩ trivial ?_
  conv => whnf
  refine Br.t rfl ?_
  conv => whnf
  refine cut_ 512 [(4, .bool false)] [] rfl ⟨.inl rfl, trivial⟩ trivial ?_
  conv => whnf
  injection H with H; subst H
  exact ret_fz [] (rtA_eq rfl)
  conv => whnf
  refine Br.f ff_ ?_
  conv => whnf
  refine Br.f ff_ ?_
  conv => whnf
  refine Br.f ff_ ?_
  conv => whnf
  refine Nd.mk nf_ ?_
  conv => whnf
  refine Nd.mk nf_ ?_
  conv => whnf
  refine El.mk (rdm_en_S_A2_string _ _ nf_ nf_) ?_
  conv => whnf
  refine Br.f ff_ ?_
  conv => whnf
  refine Br.f ff_ ?_
  conv => whnf
  refine Br.f ff_ ?_
  conv => whnf
  refine Br.f ff_ ?_
  conv => whnf
  refine Br.f ff_ ?_
  conv => whnf
  refine Br.f ff_ ?_
  conv => whnf
  refine br_d H (fun c H => ?_) (fun c H => ?_)
  conv => whnf
  refine Br.t ft_ ?_
  conv => whnf
  refine Br.t ft_ ?_
  conv => whnf
  refine Br.t ft_ ?_
  conv => whnf
  refine Nd.mk nf_ ?_
  conv => whnf
  refine Nd.mk nf_ ?_
  conv => whnf
  refine El.mk (rdm_en_S_A2_string _ _ nf_ nf_) ?_
  conv => whnf
  refine Br.t ft_ ?_
  conv => whnf
  refine Br.t ft_ ?_
  conv => whnf
  refine Br.t ft_ ?_
  conv => whnf
  refine Br.t ft_ ?_
  conv => whnf
  refine Br.t ft_ ?_
  conv => whnf
  refine Br.f ff_ ?_
  conv => whnf
  refine Br.t ft_ ?_
  conv => whnf
  refine Br.t ft_ ?_
  conv => whnf
  refine Br.f ff_ ?_
  conv => whnf
  refine Br.t ft_ ?_
  conv => whnf
  refine cut_ 504 [(0, (sv_S_A2_string l0)), (1, .int .i64 a1), (7, (sv_S_A2_string l0)), (8, .int .i64 (l0.length : Int)), (9, .int .i64 x9), (65, .bool (!(Op.bytesLess ((rd_A2_string l0 (wrap64 (x9 - 1))).f1).toList ((rd_A2_string l0 x9).f1).toList)))] [] rfl ⟨.inl rfl, ⟨.inl rfl, ⟨.inl rfl, ⟨.inl rfl, ⟨.inl rfl, ⟨.inl rfl, trivial⟩⟩⟩⟩⟩⟩ trivial ?_
  conv => whnf
  refine br_nt H (fun c H => ?_) (fun c H => ?_)
  conv => whnf
  exact ⟨(k, wrap64 (x9 + 1)), [], ⟨H, lt_⟩, lt_, (fits_of ⟨.inl ⟨rfl, rfl⟩, trivial⟩ trivial fi_ trivial rfl)⟩
  conv => whnf
  refine cut_ 512 [(4, .bool false)] [] rfl ⟨.inl rfl, trivial⟩ trivial ?_
  conv => whnf
  injection H with H; subst H
  exact ret_fz [] (rtA_eq rfl)
  conv => whnf
  refine Br.f ff_ ?_
  conv => whnf
  refine Br.f ff_ ?_
  conv => whnf
  refine Br.f ff_ ?_
  conv => whnf
  refine Br.f ff_ ?_
  conv => whnf
  refine Br.f ff_ ?_
  conv => whnf
  refine Br.f ff_ ?_
  conv => whnf
  refine Br.f ff_ ?_
  conv => whnf
  refine Br.f ff_ ?_
  conv => whnf
  refine Br.f ff_ ?_
  conv => whnf
  refine Br.f ff_ ?_
  conv => whnf
  refine Br.t ft_ ?_
  conv => whnf
  refine Br.f ff_ ?_
  conv => whnf
  refine Br.t ft_ ?_
  conv => whnf
  refine cut_ 504 [(0, (sv_S_A2_string l0)), (1, .int .i64 a1), (7, (sv_S_A2_string l0)), (8, .int .i64 (l0.length : Int)), (9, .int .i64 x9), (65, .bool false)] [] rfl ⟨.inl rfl, ⟨.inl rfl, ⟨.inl rfl, ⟨.inl rfl, ⟨.inl rfl, ⟨.inl rfl, trivial⟩⟩⟩⟩⟩⟩ trivial ?_
  conv => whnf
  refine Br.f rfl ?_
  conv => whnf
  exact ⟨(k, wrap64 (x9 + 1)), [], ⟨H, lt_⟩, lt_, (fits_of ⟨.inl ⟨rfl, rfl⟩, trivial⟩ trivial fi_ trivial rfl)⟩
  conv => whnf
  refine Br.f ff_ ?_
  conv => whnf
  refine Br.f ff_ ?_
  conv => whnf
  refine Br.f ff_ ?_
  conv => whnf
  refine Br.f ff_ ?_
  conv => whnf
  refine Br.f ff_ ?_
  conv => whnf
  refine Br.f ff_ ?_
  conv => whnf
  refine Br.f ff_ ?_
  conv => whnf
  refine Br.f ff_ ?_
  conv => whnf
  refine Br.f ff_ ?_
  conv => whnf
  refine Br.f ff_ ?_
  conv => whnf
  refine Br.f ff_ ?_
  conv => whnf
  refine cut_ 504 [(0, (sv_S_A2_string l0)), (1, .int .i64 a1), (7, (sv_S_A2_string l0)), (8, .int .i64 (l0.length : Int)), (9, .int .i64 x9), (65, .bool false)] [] rfl ⟨.inl rfl, ⟨.inl rfl, ⟨.inl rfl, ⟨.inl rfl, ⟨.inl rfl, ⟨.inl rfl, trivial⟩⟩⟩⟩⟩⟩ trivial ?_
  conv => whnf
  refine Br.f rfl ?_
  conv => whnf
  exact ⟨(k, wrap64 (x9 + 1)), [], ⟨H, lt_⟩, lt_, (fits_of ⟨.inl ⟨rfl, rfl⟩, trivial⟩ trivial fi_ trivial rfl)⟩
  conv => whnf
  refine cut_ 232 [(4, .bool false)] [] rfl ⟨.inl rfl, trivial⟩ trivial ?_
  conv => whnf
  injection H with H; subst H
  exact ret_fz [] (rtA_eq rfl)
  conv => whnf
  refine Br.t ft_ ?_
  conv => whnf
  refine Br.t ft_ ?_
  conv => whnf
  refine Br.t ft_ ?_
  conv => whnf
  refine Br.t ft_ ?_
  conv => whnf
  refine Br.t ft_ ?_
  conv => whnf
  refine cut_ 224 [(0, (sv_S_A2_string l0)), (1, .int .i64 a1), (5, .int .i64 x9), (6, .bp 64 0), (7, (sv_S_A2_string l0)), (8, .int .i64 (l0.length : Int)), (9, .int .i64 x9), (30, .bool true)] [(64, .box [.str ((rd_A2_string l0 x9).f0), .str ((rd_A2_string l0 x9).f1)])] rfl ⟨.inl rfl, ⟨.inl rfl, ⟨.inl rfl, ⟨.inl rfl, ⟨.inl rfl, ⟨.inl rfl, ⟨.inl rfl, ⟨.inl rfl, trivial⟩⟩⟩⟩⟩⟩⟩⟩ ⟨rfl, trivial⟩ ?_
  conv => whnf
  refine Br.t rfl ?_
  conv => whnf
  refine cut_ 232 [(4, .bool false)] [] rfl ⟨.inl rfl, trivial⟩ trivial ?_
  conv => whnf
  injection H with H; subst H
  exact ret_fz [] (rtA_eq rfl)
  conv => whnf
  refine Br.t ft_ ?_
  conv => whnf
  refine Br.t ft_ ?_
  conv => whnf
  refine Br.t ft_ ?_
  conv => whnf
  refine Br.t ft_ ?_
  conv => whnf
  refine Br.t rfl ?_
  conv => whnf
  refine Br.t rfl ?_
  conv => whnf
  refine Br.t rfl ?_
  conv => whnf
  refine Br.t rfl ?_
  conv => whnf
  refine Br.t rfl ?_
  conv => whnf
  refine Br.t rfl ?_
  conv => whnf
  refine cut_ 224 [(0, (sv_S_A2_string l0)), (1, .int .i64 a1), (5, .int .i64 x9), (6, .bp 64 0), (7, (sv_S_A2_string l0)), (8, .int .i64 (l0.length : Int)), (9, .int .i64 x9), (30, .bool true)] [(64, .box [.str ((rd_A2_string l0 x9).f0), .str ((rd_A2_string l0 x9).f1)])] rfl ⟨.inl rfl, ⟨.inl rfl, ⟨.inl rfl, ⟨.inl rfl, ⟨.inl rfl, ⟨.inl rfl, ⟨.inl rfl, ⟨.inl rfl, trivial⟩⟩⟩⟩⟩⟩⟩⟩ ⟨rfl, trivial⟩ ?_
  conv => whnf
  refine Br.t rfl ?_
  conv => whnf
  refine cut_ 232 [(4, .bool false)] [] rfl ⟨.inl rfl, trivial⟩ trivial ?_
  conv => whnf
  injection H with H; subst H
  exact ret_fz [] (rtA_eq rfl)
  conv => whnf
  refine cut_ 80 [(4, .bool (decide ((l0.length : Int) ≤ a1)))] [] rfl ⟨.inl rfl, trivial⟩ trivial ?_
  conv => whnf
  injection H with H; subst H
  exact ret_fz [] (rtA_eq rfl)
theorem impl_rising.l0_lp {F : (Exit → St → Prop) → St → Prop} {hv : List Tmp} {Q : Exit → St → Prop} {σ : St} {r : Bool} {k : Nat} {l0 : List ByteArray} {x3 : Int} (H : impl_rising.l0 k l0 x3 = some r) (rn : List (Option Nat)) (h1 : Fits σ σ [] [(3, .int .i64 x3)] [] [] rn)
    (h2 : ∀ (k0 : Nat) (x3 : Int), k0 < k + 1 → impl_rising.l0 k0 l0 x3 = some r → headN σ hv [] [(3, .int .i64 x3)] [] [] (F (fun e σ' => match e with | .normal => ∃ (y : Nat × Int) (rn : List (Option Nat)), (impl_rising.l0 y.1 l0 y.2 = some r ∧ y.1 < k + 1) ∧ y.1 < k0 ∧ Fits σ σ' [] [(3, .int .i64 y.2)] [] [] rn | e => Q e σ'))) : Lp F hv Q σ := by
  unfold Lp
  refine ⟨Nat × Int, fun x => impl_rising.l0 x.1 l0 x.2 = some r ∧ x.1 < k + 1, fun x => x.1, [], fun x => [(3, .int .i64 x.2)], fun x => [], fun x => [], ⟨(k, x3), rn, ⟨H, Nat.lt_succ_self _⟩, h1⟩, ?_⟩
  rintro ⟨k, x3⟩ ⟨H, hk⟩
  exact h2 k x3 hk H
theorem impl_rising.ac {k : Nat} {l0 : List ByteArray} {r : Bool} (H : impl_rising.f k l0 = some r) : ACalls Tryz.prog G 81 [] [(sv_str l0)] [] (.bool r) := by
  refine acalls_of tok hP Tryz.func81 rfl (by kernel_rfl) [.tmp 2] rfl (by kernel_rfl) (Nat.le_of_ble_eq_true rfl) (.l .n (.l (.l .n (.l .n (.l (.c .n .n) .n))) .n)) rfl ?_
  unfold impl_rising.f at H
  conv => whnf
  refine impl_rising.l0_lp (l0 := l0) (k := k) H [] (fits_of ⟨.inl ⟨rfl, rfl⟩, trivial⟩ trivial fi_ trivial rfl) ?_
  intro k x3 hk H; rcases k with _ | k; exact none_elim H; rw [impl_rising.l0] at H; conv => whnf
  refine br_d H (fun c H => ?_) (fun c H => ?_)
  conv => whnf
  refine nd_ H (fun c H => ?_)
  conv => whnf
  refine nd_ H (fun c H => ?_)
  conv => whnf
  refine El.mk (rdm_en_str _ _ nf_ nf_) ?_
  conv => whnf
  refine nd_ H (fun c H => ?_)
  conv => whnf
  refine Nd.mk nf_ ?_
  conv => whnf
  refine El.mk (rdm_en_str _ _ nf_ nf_) ?_
  conv => whnf
  refine cut_ 128 [(0, (sv_str l0)), (3, .int .i64 x3), (19, .bool (!(Op.bytesLess (rdOf ByteArray.empty l0 (wrap64 (x3 - 1))).toList (rdOf ByteArray.empty l0 x3).toList)))] [] rfl ⟨.inl rfl, ⟨.inl rfl, ⟨.inl rfl, trivial⟩⟩⟩ trivial ?_
  conv => whnf
  refine br_nt H (fun c H => ?_) (fun c H => ?_)
  conv => whnf
  exact ⟨(k, wrap64 (x3 + 1)), [], ⟨H, lt_⟩, lt_, (fits_of ⟨.inl ⟨rfl, rfl⟩, trivial⟩ trivial fi_ trivial rfl)⟩
  conv => whnf
  injection H with H; subst H
  exact ret_fz [] (rtA_eq rfl)
  conv => whnf
  injection H with H; subst H
  exact ret_fz [] (rtA_eq rfl)
theorem impl_names.l0_lp {F : (Exit → St → Prop) → St → Prop} {hv : List Tmp} {Q : Exit → St → Prop} {σ : St} {r : Bool} {k : Nat} {l0 : List ByteArray} {x7 : Int} (H : impl_names.l0 k l0 x7 = some r) (rn : List (Option Nat)) (h1 : Fits σ σ [] [(7, .int .i64 x7)] [] [] rn)
    (h2 : ∀ (k0 : Nat) (x7 : Int), k0 < k + 1 → impl_names.l0 k0 l0 x7 = some r → headN σ hv [] [(7, .int .i64 x7)] [] [] (F (fun e σ' => match e with | .normal => ∃ (y : Nat × Int) (rn : List (Option Nat)), (impl_names.l0 y.1 l0 y.2 = some r ∧ y.1 < k + 1) ∧ y.1 < k0 ∧ Fits σ σ' [] [(7, .int .i64 y.2)] [] [] rn | e => Q e σ'))) : Lp F hv Q σ := by
  unfold Lp
  refine ⟨Nat × Int, fun x => impl_names.l0 x.1 l0 x.2 = some r ∧ x.1 < k + 1, fun x => x.1, [], fun x => [(7, .int .i64 x.2)], fun x => [], fun x => [], ⟨(k, x7), rn, ⟨H, Nat.lt_succ_self _⟩, h1⟩, ?_⟩
  rintro ⟨k, x7⟩ ⟨H, hk⟩
  exact h2 k x7 hk H
theorem impl_names.ac {k : Nat} {l0 : List ByteArray} {r : Bool} (H : impl_names.f k l0 = some r) : ACalls Tryz.prog G 61 [] [(sv_str l0)] [] (.bool r) := by
  refine acalls_of tok hP Tryz.func61 rfl (by kernel_rfl) [.tmp 2] rfl (by kernel_rfl) (Nat.le_of_ble_eq_true rfl) (.l .n (.l (.l .n (.l .n (.l .n (.l (.l .n (.c .n .n)) .n)))) .n)) rfl ?_
  unfold impl_names.f at H
  conv => whnf
  refine impl_names.l0_lp (l0 := l0) (k := k) H [] (fits_of ⟨.inl ⟨rfl, rfl⟩, trivial⟩ trivial fi_ trivial rfl) ?_
  intro k x7 hk H; rcases k with _ | k; exact none_elim H; rw [impl_names.l0] at H; conv => whnf
  refine br_d H (fun c H => ?_) (fun c H => ?_)
  conv => whnf
  refine nd_ H (fun c H => ?_)
  conv => whnf
  refine Nd.mk nf_ ?_
  conv => whnf
  refine El.mk (rdm_en_str _ _ nf_ nf_) ?_
  conv => whnf
  revert H; refine bind_elim (fun t1173 A H => ?_)
  refine call_mk (impl_isName.ac A) (avAL_cons (avA_shut' rfl) (avAL_nil)) (Or.inl rfl) rfl rfl (Nat.le_of_ble_eq_true rfl) ?_
  conv => whnf
  refine cut_ 88 [(0, (sv_str l0)), (5, (sv_str l0)), (6, .int .i64 (l0.length : Int)), (7, .int .i64 x7), (13, .bool (!t1173))] [] rfl ⟨.inl rfl, ⟨.inl rfl, ⟨.inl rfl, ⟨.inl rfl, ⟨.inl rfl, trivial⟩⟩⟩⟩⟩ trivial ?_
  conv => whnf
  refine br_nt H (fun c H => ?_) (fun c H => ?_)
  conv => whnf
  exact ⟨(k, wrap64 (x7 + 1)), [], ⟨H, lt_⟩, lt_, (fits_of ⟨.inl ⟨rfl, rfl⟩, trivial⟩ trivial fi_ trivial rfl)⟩
  conv => whnf
  injection H with H; subst H
  exact ret_fz [] (rtA_eq rfl)
  conv => whnf
  revert H; refine bind_elim (fun t1175 A H => ?_)
  refine call_mk (impl_rising.ac A) (avAL_cons (avA_shut' rfl) (avAL_nil)) (Or.inl rfl) rfl rfl (Nat.le_of_ble_eq_true rfl) ?_
  conv => whnf
  injection H with H; subst H
  exact ret_fz [] (rtA_eq rfl)
theorem impl_foes.l0_lp {F : (Exit → St → Prop) → St → Prop} {hv : List Tmp} {Q : Exit → St → Prop} {σ : St} {r : Bool} {k : Nat} {l0 : List S_A2_string} {a1 : ByteArray} {a2 : ByteArray} {x11 : Int} (H : impl_foes.l0 k l0 a1 a2 x11 = some r) (rn : List (Option Nat)) (h1 : Fits σ σ [] [(11, .int .i64 x11)] [] [] rn)
    (h2 : ∀ (k0 : Nat) (x11 : Int), k0 < k + 1 → impl_foes.l0 k0 l0 a1 a2 x11 = some r → headN σ hv [] [(11, .int .i64 x11)] [] [] (F (fun e σ' => match e with | .normal => ∃ (y : Nat × Int) (rn : List (Option Nat)), (impl_foes.l0 y.1 l0 a1 a2 y.2 = some r ∧ y.1 < k + 1) ∧ y.1 < k0 ∧ Fits σ σ' [] [(11, .int .i64 y.2)] [] [] rn | e => Q e σ'))) : Lp F hv Q σ := by
  unfold Lp
  refine ⟨Nat × Int, fun x => impl_foes.l0 x.1 l0 a1 a2 x.2 = some r ∧ x.1 < k + 1, fun x => x.1, [], fun x => [(11, .int .i64 x.2)], fun x => [], fun x => [], ⟨(k, x11), rn, ⟨H, Nat.lt_succ_self _⟩, h1⟩, ?_⟩
  rintro ⟨k, x11⟩ ⟨H, hk⟩
  exact h2 k x11 hk H
theorem impl_foes.ac {k : Nat} {l0 : List S_A2_string} {a1 : ByteArray} {a2 : ByteArray} {r : Bool} (H : impl_foes.f k l0 a1 a2 = some r) : ACalls Tryz.prog G 82 [] [(sv_S_A2_string l0), .str a1, .str a2] [] (.bool r) := by
  refine acalls_of tok hP Tryz.func82 rfl (by kernel_rfl) [.tmp 6] rfl (by kernel_rfl) (Nat.le_of_ble_eq_true rfl) (.l .n (.l (.l .n (.l .n (.l .n (.l (.l .n (.c .n (.l (.c .n .n) .n))) .n)))) .n)) rfl ?_
  unfold impl_foes.f at H
  conv => whnf
  refine impl_foes.l0_lp (l0 := l0) (a1 := a1) (a2 := a2) (k := k) H [] (fits_of ⟨.inl ⟨rfl, rfl⟩, trivial⟩ trivial fi_ trivial rfl) ?_
  intro k x11 hk H; rcases k with _ | k; exact none_elim H; rw [impl_foes.l0] at H; conv => whnf
  refine br_d H (fun c H => ?_) (fun c H => ?_)
  conv => whnf
  refine nd_ H (fun c H => ?_)
  conv => whnf
  refine Nd.mk nf_ ?_
  conv => whnf
  refine El.mk (rdm_en_S_A2_string _ _ nf_ nf_) ?_
  conv => whnf
  refine br_t H (fun c H => ?_) (fun c H => ?_)
  conv => whnf
  refine Br.t ft_ ?_
  conv => whnf
  refine Br.t ft_ ?_
  conv => whnf
  refine Br.t ft_ ?_
  conv => whnf
  refine Br.t ft_ ?_
  conv => whnf
  refine Br.t ft_ ?_
  conv => whnf
  refine cut_ 168 [(1, .str a1), (2, .str a2), (9, (sv_S_A2_string l0)), (10, .int .i64 (l0.length : Int)), (11, .int .i64 x11), (26, .bool true)] [] rfl ⟨.inl rfl, ⟨.inl rfl, ⟨.inl rfl, ⟨.inl rfl, ⟨.inl rfl, ⟨.inl rfl, trivial⟩⟩⟩⟩⟩⟩ trivial ?_
  conv => whnf
  refine Br.t rfl ?_
  conv => whnf
  refine cut_ 176 [(6, .bool true)] [] rfl ⟨.inl rfl, trivial⟩ trivial ?_
  conv => whnf
  injection H with H; subst H
  exact ret_fz [] (rtA_eq rfl)
  conv => whnf
  refine Br.f ff_ ?_
  conv => whnf
  refine Br.f ff_ ?_
  conv => whnf
  refine Br.f ff_ ?_
  conv => whnf
  refine Br.f ff_ ?_
  conv => whnf
  refine Br.f ff_ ?_
  conv => whnf
  refine cut_ 168 [(1, .str a1), (2, .str a2), (9, (sv_S_A2_string l0)), (10, .int .i64 (l0.length : Int)), (11, .int .i64 x11), (26, .bool (decide (((rd_A2_string l0 x11).f0).toList = a2.toList) && (decide (((rd_A2_string l0 x11).f1).toList = a1.toList) && true)))] [] rfl ⟨.inl rfl, ⟨.inl rfl, ⟨.inl rfl, ⟨.inl rfl, ⟨.inl rfl, ⟨.inl rfl, trivial⟩⟩⟩⟩⟩⟩ trivial ?_
  conv => whnf
  refine br_t H (fun c H => ?_) (fun c H => ?_)
  conv => whnf
  refine cut_ 176 [(6, .bool true)] [] rfl ⟨.inl rfl, trivial⟩ trivial ?_
  conv => whnf
  injection H with H; subst H
  exact ret_fz [] (rtA_eq rfl)
  conv => whnf
  exact ⟨(k, wrap64 (x11 + 1)), [], ⟨H, lt_⟩, lt_, (fits_of ⟨.inl ⟨rfl, rfl⟩, trivial⟩ trivial fi_ trivial rfl)⟩
  conv => whnf
  injection H with H; subst H
  exact ret_fz [] (rtA_eq rfl)
theorem impl_anyFoes.l1_lp {F : (Exit → St → Prop) → St → Prop} {hv : List Tmp} {Q : Exit → St → Prop} {σ : St} {r : Bool} {k : Nat} {l0 : List S_A2_string} {l1 : List ByteArray} {l2 : List ByteArray} {x13 : Int} {x19 : Int} (H : impl_anyFoes.l1 k l0 l1 l2 x13 x19 = some r) (rn : List (Option Nat)) (h1 : Fits σ σ [] [(19, .int .i64 x19)] [] [] rn)
    (h2 : ∀ (k0 : Nat) (x19 : Int), k0 < k + 1 → impl_anyFoes.l1 k0 l0 l1 l2 x13 x19 = some r → headN σ hv [] [(19, .int .i64 x19)] [] [] (F (fun e σ' => match e with | .normal => ∃ (y : Nat × Int) (rn : List (Option Nat)), (impl_anyFoes.l1 y.1 l0 l1 l2 x13 y.2 = some r ∧ y.1 < k + 1) ∧ y.1 < k0 ∧ Fits σ σ' [] [(19, .int .i64 y.2)] [] [] rn | e => Q e σ'))) : Lp F hv Q σ := by
  unfold Lp
  refine ⟨Nat × Int, fun x => impl_anyFoes.l1 x.1 l0 l1 l2 x13 x.2 = some r ∧ x.1 < k + 1, fun x => x.1, [], fun x => [(19, .int .i64 x.2)], fun x => [], fun x => [], ⟨(k, x19), rn, ⟨H, Nat.lt_succ_self _⟩, h1⟩, ?_⟩
  rintro ⟨k, x19⟩ ⟨H, hk⟩
  exact h2 k x19 hk H
theorem impl_anyFoes.l0_lp {F : (Exit → St → Prop) → St → Prop} {hv : List Tmp} {Q : Exit → St → Prop} {σ : St} {r : Bool} {k : Nat} {l0 : List S_A2_string} {l1 : List ByteArray} {l2 : List ByteArray} {x13 : Int} (H : impl_anyFoes.l0 k l0 l1 l2 x13 = some r) (rn : List (Option Nat)) (h1 : Fits σ σ [] [(13, .int .i64 x13)] [] [] rn)
    (h2 : ∀ (k0 : Nat) (x13 : Int), k0 < k + 1 → impl_anyFoes.l0 k0 l0 l1 l2 x13 = some r → headN σ hv [] [(13, .int .i64 x13)] [] [] (F (fun e σ' => match e with | .normal => ∃ (y : Nat × Int) (rn : List (Option Nat)), (impl_anyFoes.l0 y.1 l0 l1 l2 y.2 = some r ∧ y.1 < k + 1) ∧ y.1 < k0 ∧ Fits σ σ' [] [(13, .int .i64 y.2)] [] [] rn | e => Q e σ'))) : Lp F hv Q σ := by
  unfold Lp
  refine ⟨Nat × Int, fun x => impl_anyFoes.l0 x.1 l0 l1 l2 x.2 = some r ∧ x.1 < k + 1, fun x => x.1, [], fun x => [(13, .int .i64 x.2)], fun x => [], fun x => [], ⟨(k, x13), rn, ⟨H, Nat.lt_succ_self _⟩, h1⟩, ?_⟩
  rintro ⟨k, x13⟩ ⟨H, hk⟩
  exact h2 k x13 hk H
theorem impl_anyFoes.ac {k : Nat} {l0 : List S_A2_string} {l1 : List ByteArray} {l2 : List ByteArray} {r : Bool} (H : impl_anyFoes.f k l0 l1 l2 = some r) : ACalls Tryz.prog G 63 [] [(sv_S_A2_string l0), (sv_str l1), (sv_str l2)] [] (.bool r) := by
  refine acalls_of tok hP Tryz.func63 rfl (by kernel_rfl) [.tmp 6] rfl (by kernel_rfl) (Nat.le_of_ble_eq_true rfl) (.l .n (.l (.l .n (.l .n (.l .n (.l (.l .n (.c .n .n)) .n)))) .n)) rfl ?_
  unfold impl_anyFoes.f at H
  conv => whnf
  refine impl_anyFoes.l0_lp (l0 := l0) (l1 := l1) (l2 := l2) (k := k) H [] (fits_of ⟨.inl ⟨rfl, rfl⟩, trivial⟩ trivial fi_ trivial rfl) ?_
  intro k x13 hk H; rcases k with _ | k; exact none_elim H; rw [impl_anyFoes.l0] at H; conv => whnf
  refine br_d H (fun c H => ?_) (fun c H => ?_)
  conv => whnf
  refine nd_ H (fun c H => ?_)
  conv => whnf
  refine Nd.mk nf_ ?_
  conv => whnf
  refine El.mk (rdm_en_str _ _ nf_ nf_) ?_
  conv => whnf
  refine cut_ 88 [(0, (sv_S_A2_string l0)), (2, (sv_str l2)), (8, .str (rdOf ByteArray.empty l1 x13)), (11, (sv_str l1)), (12, .int .i64 (l1.length : Int)), (13, .int .i64 x13), (17, (sv_str l2)), (18, .int .i64 (l2.length : Int)), (19, .int .i64 0)] [] rfl ⟨.inl rfl, ⟨.inl rfl, ⟨.inl rfl, ⟨.inl rfl, ⟨.inl rfl, ⟨.inl rfl, ⟨.inl rfl, ⟨.inl rfl, ⟨.inl rfl, trivial⟩⟩⟩⟩⟩⟩⟩⟩⟩ trivial ?_
  conv => whnf
  refine impl_anyFoes.l1_lp (l0 := l0) (l1 := l1) (l2 := l2) (x13 := x13) (k := k) H [] (fits_of ⟨.inl ⟨rfl, rfl⟩, trivial⟩ trivial fi_ trivial rfl) ?_
  intro k x19 hk H; rcases k with _ | k; exact none_elim H; rw [impl_anyFoes.l1] at H; conv => whnf
  refine br_d H (fun c H => ?_) (fun c H => ?_)
  conv => whnf
  refine nd_ H (fun c H => ?_)
  conv => whnf
  refine Nd.mk nf_ ?_
  conv => whnf
  refine El.mk (rdm_en_str _ _ nf_ nf_) ?_
  conv => whnf
  revert H; refine bind_elim (fun t1234 A H => ?_)
  refine call_mk (impl_foes.ac A) (avAL_cons (avA_shut' rfl) (avAL_cons (avA_shut' rfl) (avAL_cons (avA_shut' rfl) (avAL_nil)))) (Or.inl rfl) rfl rfl (Nat.le_of_ble_eq_true rfl) ?_
  conv => whnf
  refine br_t H (fun c H => ?_) (fun c H => ?_)
  conv => whnf
  injection H with H; subst H
  exact ret_fz [] (rtA_eq rfl)
  conv => whnf
  exact ⟨(k, wrap64 (x19 + 1)), [], ⟨H, lt_⟩, lt_, (fits_of ⟨.inl ⟨rfl, rfl⟩, trivial⟩ trivial fi_ trivial rfl)⟩
  conv => whnf
  exact ⟨(k, wrap64 (x13 + 1)), [], ⟨H, lt_⟩, lt_, (fits_of ⟨.inl ⟨rfl, rfl⟩, trivial⟩ trivial fi_ trivial rfl)⟩
  conv => whnf
  injection H with H; subst H
  exact ret_fz [] (rtA_eq rfl)
theorem slices_Index_string_string.l0_lp {F : (Exit → St → Prop) → St → Prop} {hv : List Tmp} {Q : Exit → St → Prop} {σ : St} {r : Int} {k : Nat} {l0 : List ByteArray} {a1 : ByteArray} {x8 : Int} (H : slices_Index_string_string.l0 k l0 a1 x8 = some r) (rn : List (Option Nat)) (h1 : Fits σ σ [] [(8, .int .i64 x8)] [] [] rn)
    (h2 : ∀ (k0 : Nat) (x8 : Int), k0 < k + 1 → slices_Index_string_string.l0 k0 l0 a1 x8 = some r → headN σ hv [] [(8, .int .i64 x8)] [] [] (F (fun e σ' => match e with | .normal => ∃ (y : Nat × Int) (rn : List (Option Nat)), (slices_Index_string_string.l0 y.1 l0 a1 y.2 = some r ∧ y.1 < k + 1) ∧ y.1 < k0 ∧ Fits σ σ' [] [(8, .int .i64 y.2)] [] [] rn | e => Q e σ'))) : Lp F hv Q σ := by
  unfold Lp
  refine ⟨Nat × Int, fun x => slices_Index_string_string.l0 x.1 l0 a1 x.2 = some r ∧ x.1 < k + 1, fun x => x.1, [], fun x => [(8, .int .i64 x.2)], fun x => [], fun x => [], ⟨(k, x8), rn, ⟨H, Nat.lt_succ_self _⟩, h1⟩, ?_⟩
  rintro ⟨k, x8⟩ ⟨H, hk⟩
  exact h2 k x8 hk H
theorem slices_Index_string_string.ac {k : Nat} {l0 : List ByteArray} {a1 : ByteArray} {r : Int} (H : slices_Index_string_string.f k l0 a1 = some r) : ACalls Tryz.prog G 92 [] [(sv_str l0), .str a1] [] (.int .i64 r) := by
  refine acalls_of tok hP Tryz.func92 rfl (by kernel_rfl) [.tmp 4] rfl (by kernel_rfl) (Nat.le_of_ble_eq_true rfl) (.l .n (.l (.l .n (.l .n (.l .n (.l (.l .n (.c .n .n)) .n)))) .n)) rfl ?_
  unfold slices_Index_string_string.f at H
  conv => whnf
  refine slices_Index_string_string.l0_lp (l0 := l0) (a1 := a1) (k := k) H [] (fits_of ⟨.inl ⟨rfl, rfl⟩, trivial⟩ trivial fi_ trivial rfl) ?_
  intro k x8 hk H; rcases k with _ | k; exact none_elim H; rw [slices_Index_string_string.l0] at H; conv => whnf
  refine br_d H (fun c H => ?_) (fun c H => ?_)
  conv => whnf
  refine nd_ H (fun c H => ?_)
  conv => whnf
  refine Nd.mk nf_ ?_
  conv => whnf
  refine El.mk (rdm_en_str _ _ nf_ nf_) ?_
  conv => whnf
  refine cut_ 104 [(0, (sv_str l0)), (1, .str a1), (5, .int .i64 x8), (7, .int .i64 (l0.length : Int)), (8, .int .i64 x8), (16, .bool (decide (a1.toList = (rdOf ByteArray.empty l0 x8).toList)))] [] rfl ⟨.inl rfl, ⟨.inl rfl, ⟨.inl rfl, ⟨.inl rfl, ⟨.inl rfl, ⟨.inl rfl, trivial⟩⟩⟩⟩⟩⟩ trivial ?_
  conv => whnf
  refine br_d H (fun c H => ?_) (fun c H => ?_)
  conv => whnf
  injection H with H; subst H
  exact ret_fz [] (rtA_eq rfl)
  conv => whnf
  exact ⟨(k, wrap64 (x8 + 1)), [], ⟨H, lt_⟩, lt_, (fits_of ⟨.inl ⟨rfl, rfl⟩, trivial⟩ trivial fi_ trivial rfl)⟩
  conv => whnf
  injection H with H; subst H
  exact ret_fz [] (rtA_eq rfl)
theorem slices_Contains_string_string.ac {k : Nat} {l0 : List ByteArray} {a1 : ByteArray} {r : Bool} (H : slices_Contains_string_string.f k l0 a1 = some r) : ACalls Tryz.prog G 90 [] [(sv_str l0), .str a1] [] (.bool r) := by
  refine acalls_of tok hP Tryz.func90 rfl (by kernel_rfl) [.tmp 4] rfl (by kernel_rfl) (Nat.le_of_ble_eq_true rfl) .n rfl ?_
  unfold slices_Contains_string_string.f at H
  conv => whnf
  revert H; refine bind_elim (fun t1495 A H => ?_)
  refine call_mk (slices_Index_string_string.ac A) (avAL_cons (avA_shut' rfl) (avAL_cons (avA_shut' rfl) (avAL_nil))) (Or.inl rfl) rfl rfl (Nat.le_of_ble_eq_true rfl) ?_
  conv => whnf
  injection H with H; subst H
  exact ret_fz [] (rtA_eq rfl)
theorem impl_has.ac {k : Nat} {l0 : List ByteArray} {a1 : ByteArray} {r : Bool} (H : impl_has.f k l0 a1 = some r) : ACalls Tryz.prog G 83 [] [(sv_str l0), .str a1] [] (.bool r) := by
  refine acalls_of tok hP Tryz.func83 rfl (by kernel_rfl) [.tmp 4] rfl (by kernel_rfl) (Nat.le_of_ble_eq_true rfl) .n rfl ?_
  unfold impl_has.f at H
  conv => whnf
  revert H; refine bind_elim (fun t1497 A H => ?_)
  refine call_mk (slices_Contains_string_string.ac A) (avAL_cons (avA_shut' rfl) (avAL_cons (avA_shut' rfl) (avAL_nil))) (Or.inl rfl) rfl rfl (Nat.le_of_ble_eq_true rfl) ?_
  conv => whnf
  injection H with H; subst H
  exact ret_fz [] (rtA_eq rfl)
theorem impl_ClaimWantOk.j0_sq {F : (Exit → St → Prop) → St → Prop} {hv : List Tmp} {K : St → Prop} {Q : Exit → St → Prop} {σ : St} {r : Bool} {KK : Nat} {a0_1 : Int} {a0_3 : List S_impl_ClaimUse} {a0_4 : List ByteArray} {a0_5 : List ByteArray} {x78 : Int}
    (h1 : F (fun e σ' => match e with | .normal => ∃ (y : Nat) (rn : List (Option Nat)), (impl_ClaimWantOk.j0 y a0_1 a0_3 a0_4 a0_5 x78 = some r ∧ y < KK) ∧ Fits σ σ' [] [] [] [] rn | e => Q e σ') σ)
    (h2 : ∀ (k : Nat), k < KK → impl_ClaimWantOk.j0 k a0_1 a0_3 a0_4 a0_5 x78 = some r → headN σ hv [] [] [] [] K) : Sq F hv K Q σ := by
  unfold Sq
  refine ⟨Nat, fun x => impl_ClaimWantOk.j0 x a0_1 a0_3 a0_4 a0_5 x78 = some r ∧ x < KK, [], fun x => [], fun x => [], fun x => [], h1, ?_⟩
  rintro k ⟨H, hk⟩
  exact h2 k hk H
theorem impl_ClaimWantOk.l1_lp {F : (Exit → St → Prop) → St → Prop} {hv : List Tmp} {Q : Exit → St → Prop} {σ : St} {r : Bool} {k : Nat} {a0_1 : Int} {a0_3 : List S_impl_ClaimUse} {a0_4 : List ByteArray} {a0_5 : List ByteArray} {x130 : Int} (H : impl_ClaimWantOk.l1 k a0_1 a0_3 a0_4 a0_5 x130 = some r) (rn : List (Option Nat)) (h1 : Fits σ σ [] [(130, .int .i64 x130)] [] [] rn)
    (h2 : ∀ (k0 : Nat) (x130 : Int), k0 < k + 1 → impl_ClaimWantOk.l1 k0 a0_1 a0_3 a0_4 a0_5 x130 = some r → headN σ hv [] [(130, .int .i64 x130)] [] [] (F (fun e σ' => match e with | .normal => ∃ (y : Nat × Int) (rn : List (Option Nat)), (impl_ClaimWantOk.l1 y.1 a0_1 a0_3 a0_4 a0_5 y.2 = some r ∧ y.1 < k + 1) ∧ y.1 < k0 ∧ Fits σ σ' [] [(130, .int .i64 y.2)] [] [] rn | e => Q e σ'))) : Lp F hv Q σ := by
  unfold Lp
  refine ⟨Nat × Int, fun x => impl_ClaimWantOk.l1 x.1 a0_1 a0_3 a0_4 a0_5 x.2 = some r ∧ x.1 < k + 1, fun x => x.1, [], fun x => [(130, .int .i64 x.2)], fun x => [], fun x => [], ⟨(k, x130), rn, ⟨H, Nat.lt_succ_self _⟩, h1⟩, ?_⟩
  rintro ⟨k, x130⟩ ⟨H, hk⟩
  exact h2 k x130 hk H
theorem impl_ClaimWantOk.l0_lp {F : (Exit → St → Prop) → St → Prop} {hv : List Tmp} {Q : Exit → St → Prop} {σ : St} {r : Bool} {k : Nat} {a0_1 : Int} {a0_3 : List S_impl_ClaimUse} {a0_4 : List ByteArray} {a0_5 : List ByteArray} {x78 : Int} (H : impl_ClaimWantOk.l0 k a0_1 a0_3 a0_4 a0_5 x78 = some r) (rn : List (Option Nat)) (h1 : Fits σ σ [] [(78, .int .i64 x78)] [] [] rn)
    (h2 : ∀ (k0 : Nat) (x78 : Int), k0 < k + 1 → impl_ClaimWantOk.l0 k0 a0_1 a0_3 a0_4 a0_5 x78 = some r → headN σ hv [] [(78, .int .i64 x78)] [] [] (F (fun e σ' => match e with | .normal => ∃ (y : Nat × Int) (rn : List (Option Nat)), (impl_ClaimWantOk.l0 y.1 a0_1 a0_3 a0_4 a0_5 y.2 = some r ∧ y.1 < k + 1) ∧ y.1 < k0 ∧ Fits σ σ' [] [(78, .int .i64 y.2)] [] [] rn | e => Q e σ'))) : Lp F hv Q σ := by
  unfold Lp
  refine ⟨Nat × Int, fun x => impl_ClaimWantOk.l0 x.1 a0_1 a0_3 a0_4 a0_5 x.2 = some r ∧ x.1 < k + 1, fun x => x.1, [], fun x => [(78, .int .i64 x.2)], fun x => [], fun x => [], ⟨(k, x78), rn, ⟨H, Nat.lt_succ_self _⟩, h1⟩, ?_⟩
  rintro ⟨k, x78⟩ ⟨H, hk⟩
  exact h2 k x78 hk H
theorem impl_ClaimWantOk.ac {k : Nat} {a0_0 : Int} {a0_1 : Int} {a0_2 : List ByteArray} {a0_3 : List S_impl_ClaimUse} {a0_4 : List ByteArray} {a0_5 : List ByteArray} {r : Bool} (H : impl_ClaimWantOk.f k a0_0 a0_1 a0_2 a0_3 a0_4 a0_5 = some r) : ACalls Tryz.prog G 64 [] [.agg [.int .i64 a0_0, .int .i64 a0_1, (sv_str a0_2), (sv_S_impl_ClaimUse a0_3), (sv_str a0_4), (sv_str a0_5)]] [] (.bool r) := by
  refine acalls_of tok hP Tryz.func64 rfl (by kernel_rfl) [.tmp 2] rfl (by kernel_rfl) (Nat.le_of_ble_eq_true rfl) (.l .n (.l (.c .n (.l (.c .n .n) .n)) (.l (.c .n (.l (.c .n .n) .n)) (.l (.l .n (.l .n (.l .n (.l (.c .n (.j (.c .n (.l (.c .n .n) .n)) (.c .n (.l .n (.l .n (.l .n (.l (.c .n (.l (.c .n .n) .n)) .n))))))) .n)))) (.l (.l .n (.c .n .n)) (.c .n .n)))))) rfl ?_
  unfold impl_ClaimWantOk.f at H
  conv => whnf
  refine br_d H (fun c H => ?_) (fun c H => ?_)
  conv => whnf
  refine Br.t ft_ ?_
  conv => whnf
  refine Br.t ft_ ?_
  conv => whnf
  refine Br.t ft_ ?_
  conv => whnf
  refine Br.t rfl ?_
  conv => whnf
  refine Br.t rfl ?_
  conv => whnf
  refine Br.t rfl ?_
  conv => whnf
  refine Br.t rfl ?_
  conv => whnf
  refine Br.t rfl ?_
  conv => whnf
  refine Br.t rfl ?_
  conv => whnf
  refine Br.t rfl ?_
  conv => whnf
  refine Br.t rfl ?_
  conv => whnf
  refine Br.t rfl ?_
  conv => whnf
  refine Br.t rfl ?_
  conv => whnf
  refine Br.t rfl ?_
  conv => whnf
  refine Br.t rfl ?_
  conv => whnf
  refine Br.t rfl ?_
  conv => whnf
  refine Br.t rfl ?_
  conv => whnf
  refine Br.t rfl ?_
  conv => whnf
  refine Br.t rfl ?_
  conv => whnf
  refine Br.t rfl ?_
  conv => whnf
  refine Br.t rfl ?_
  conv => whnf
  refine Br.t rfl ?_
  conv => whnf
  refine Br.t rfl ?_
  conv => whnf
  refine Br.t rfl ?_
  conv => whnf
  refine Br.t rfl ?_
  conv => whnf
  refine Br.t rfl ?_
  conv => whnf
  refine Br.t rfl ?_
  conv => whnf
  refine Br.t rfl ?_
  conv => whnf
  refine Br.t rfl ?_
  conv => whnf
  refine Br.t rfl ?_
  conv => whnf
  refine cut_ 336 [(1, .bp 0 0), (46, .bool true)] [(0, .box [.int .i64 a0_0, .int .i64 a0_1, (sv_str a0_2), (sv_S_impl_ClaimUse a0_3), (sv_str a0_4), (sv_str a0_5)])] rfl ⟨.inl rfl, ⟨.inl rfl, trivial⟩⟩ ⟨rfl, trivial⟩ ?_
  conv => whnf
  refine Br.t rfl ?_
  conv => whnf
  refine cut_ 344 [(2, .bool false)] [] rfl ⟨.inl rfl, trivial⟩ trivial ?_
  conv => whnf
  injection H with H; subst H
  exact ret_fz [] (rtA_eq rfl)
  conv => whnf
  refine Br.f ff_ ?_
  conv => whnf
  refine Br.f ff_ ?_
  conv => whnf
  refine Br.f ff_ ?_
  conv => whnf
  refine br_d H (fun c H => ?_) (fun c H => ?_)
  conv => whnf
  refine Br.t ft_ ?_
  conv => whnf
  refine Br.t ft_ ?_
  conv => whnf
  refine Br.t ft_ ?_
  conv => whnf
  refine Br.t rfl ?_
  conv => whnf
  refine Br.t rfl ?_
  conv => whnf
  refine Br.t rfl ?_
  conv => whnf
  refine Br.t rfl ?_
  conv => whnf
  refine Br.t rfl ?_
  conv => whnf
  refine Br.t rfl ?_
  conv => whnf
  refine Br.t rfl ?_
  conv => whnf
  refine Br.t rfl ?_
  conv => whnf
  refine Br.t rfl ?_
  conv => whnf
  refine Br.t rfl ?_
  conv => whnf
  refine Br.t rfl ?_
  conv => whnf
  refine Br.t rfl ?_
  conv => whnf
  refine Br.t rfl ?_
  conv => whnf
  refine Br.t rfl ?_
  conv => whnf
  refine Br.t rfl ?_
  conv => whnf
  refine Br.t rfl ?_
  conv => whnf
  refine Br.t rfl ?_
  conv => whnf
  refine Br.t rfl ?_
  conv => whnf
  refine Br.t rfl ?_
  conv => whnf
  refine Br.t rfl ?_
  conv => whnf
  refine Br.t rfl ?_
  conv => whnf
  refine Br.t rfl ?_
  conv => whnf
  refine Br.t rfl ?_
  conv => whnf
  refine cut_ 336 [(1, .bp 0 0), (46, .bool true)] [(0, .box [.int .i64 a0_0, .int .i64 a0_1, (sv_str a0_2), (sv_S_impl_ClaimUse a0_3), (sv_str a0_4), (sv_str a0_5)])] rfl ⟨.inl rfl, ⟨.inl rfl, trivial⟩⟩ ⟨rfl, trivial⟩ ?_
  conv => whnf
  refine Br.t rfl ?_
  conv => whnf
  refine cut_ 344 [(2, .bool false)] [] rfl ⟨.inl rfl, trivial⟩ trivial ?_
  conv => whnf
  injection H with H; subst H
  exact ret_fz [] (rtA_eq rfl)
  conv => whnf
  refine Br.f ff_ ?_
  conv => whnf
  refine Br.f ff_ ?_
  conv => whnf
  refine Br.f ff_ ?_
  conv => whnf
  refine br_d H (fun c H => ?_) (fun c H => ?_)
  conv => whnf
  refine Br.t ft_ ?_
  conv => whnf
  refine Br.t ft_ ?_
  conv => whnf
  refine Br.t ft_ ?_
  conv => whnf
  refine Br.t rfl ?_
  conv => whnf
  refine Br.t rfl ?_
  conv => whnf
  refine Br.t rfl ?_
  conv => whnf
  refine Br.t rfl ?_
  conv => whnf
  refine Br.t rfl ?_
  conv => whnf
  refine Br.t rfl ?_
  conv => whnf
  refine Br.t rfl ?_
  conv => whnf
  refine Br.t rfl ?_
  conv => whnf
  refine Br.t rfl ?_
  conv => whnf
  refine Br.t rfl ?_
  conv => whnf
  refine Br.t rfl ?_
  conv => whnf
  refine Br.t rfl ?_
  conv => whnf
  refine Br.t rfl ?_
  conv => whnf
  refine Br.t rfl ?_
  conv => whnf
  refine Br.t rfl ?_
  conv => whnf
  refine Br.t rfl ?_
  conv => whnf
  refine Br.t rfl ?_
  conv => whnf
  refine Br.t rfl ?_
  conv => whnf
  refine Br.t rfl ?_
  conv => whnf
  refine cut_ 336 [(1, .bp 0 0), (46, .bool true)] [(0, .box [.int .i64 a0_0, .int .i64 a0_1, (sv_str a0_2), (sv_S_impl_ClaimUse a0_3), (sv_str a0_4), (sv_str a0_5)])] rfl ⟨.inl rfl, ⟨.inl rfl, trivial⟩⟩ ⟨rfl, trivial⟩ ?_
  conv => whnf
  refine Br.t rfl ?_
  conv => whnf
  refine cut_ 344 [(2, .bool false)] [] rfl ⟨.inl rfl, trivial⟩ trivial ?_
  conv => whnf
  injection H with H; subst H
  exact ret_fz [] (rtA_eq rfl)
  conv => whnf
  refine Br.f ff_ ?_
  conv => whnf
  refine Br.f ff_ ?_
  conv => whnf
  refine Br.f ff_ ?_
  conv => whnf
  refine br_d H (fun c H => ?_) (fun c H => ?_)
  conv => whnf
  refine Br.t ft_ ?_
  conv => whnf
  refine Br.t ft_ ?_
  conv => whnf
  refine Br.t ft_ ?_
  conv => whnf
  refine Br.t ft_ ?_
  conv => whnf
  refine Br.t rfl ?_
  conv => whnf
  refine Br.t rfl ?_
  conv => whnf
  refine Br.t rfl ?_
  conv => whnf
  refine Br.t rfl ?_
  conv => whnf
  refine Br.t rfl ?_
  conv => whnf
  refine Br.t rfl ?_
  conv => whnf
  refine Br.t rfl ?_
  conv => whnf
  refine Br.t rfl ?_
  conv => whnf
  refine Br.t rfl ?_
  conv => whnf
  refine Br.t rfl ?_
  conv => whnf
  refine Br.t rfl ?_
  conv => whnf
  refine Br.t rfl ?_
  conv => whnf
  refine Br.t rfl ?_
  conv => whnf
  refine Br.t rfl ?_
  conv => whnf
  refine cut_ 336 [(1, .bp 0 0), (46, .bool true)] [(0, .box [.int .i64 a0_0, .int .i64 a0_1, (sv_str a0_2), (sv_S_impl_ClaimUse a0_3), (sv_str a0_4), (sv_str a0_5)])] rfl ⟨.inl rfl, ⟨.inl rfl, trivial⟩⟩ ⟨rfl, trivial⟩ ?_
  conv => whnf
  refine Br.t rfl ?_
  conv => whnf
  refine cut_ 344 [(2, .bool false)] [] rfl ⟨.inl rfl, trivial⟩ trivial ?_
  conv => whnf
  injection H with H; subst H
  exact ret_fz [] (rtA_eq rfl)
  conv => whnf
  refine Br.f ff_ ?_
  conv => whnf
  refine Br.f ff_ ?_
  conv => whnf
  refine Br.f ff_ ?_
  conv => whnf
  refine Br.f ff_ ?_
  conv => whnf
  refine br_d H (fun c H => ?_) (fun c H => ?_)
  conv => whnf
  refine Br.t ft_ ?_
  conv => whnf
  refine Br.t ft_ ?_
  conv => whnf
  refine Br.t ft_ ?_
  conv => whnf
  refine Br.t ft_ ?_
  conv => whnf
  refine Br.t rfl ?_
  conv => whnf
  refine Br.t rfl ?_
  conv => whnf
  refine Br.t rfl ?_
  conv => whnf
  refine Br.t rfl ?_
  conv => whnf
  refine Br.t rfl ?_
  conv => whnf
  refine Br.t rfl ?_
  conv => whnf
  refine Br.t rfl ?_
  conv => whnf
  refine Br.t rfl ?_
  conv => whnf
  refine Br.t rfl ?_
  conv => whnf
  refine cut_ 336 [(1, .bp 0 0), (46, .bool true)] [(0, .box [.int .i64 a0_0, .int .i64 a0_1, (sv_str a0_2), (sv_S_impl_ClaimUse a0_3), (sv_str a0_4), (sv_str a0_5)])] rfl ⟨.inl rfl, ⟨.inl rfl, trivial⟩⟩ ⟨rfl, trivial⟩ ?_
  conv => whnf
  refine Br.t rfl ?_
  conv => whnf
  refine cut_ 344 [(2, .bool false)] [] rfl ⟨.inl rfl, trivial⟩ trivial ?_
  conv => whnf
  injection H with H; subst H
  exact ret_fz [] (rtA_eq rfl)
  conv => whnf
  refine Br.f ff_ ?_
  conv => whnf
  refine Br.f ff_ ?_
  conv => whnf
  revert H; refine bind_elim (fun t1500 A H => ?_)
  refine call_mk (impl_names.ac A) (avAL_cons (avA_shut' rfl) (avAL_nil)) (Or.inl rfl) rfl rfl (Nat.le_of_ble_eq_true rfl) ?_
  conv => whnf
  refine Br.f ff_ ?_
  conv => whnf
  refine Br.f ff_ ?_
  conv => whnf
  refine br_nt H (fun c H => ?_) (fun c H => ?_)
  conv => whnf
  refine Br.f ff_ ?_
  conv => whnf
  refine Br.f ff_ ?_
  conv => whnf
  refine Br.f ff_ ?_
  conv => whnf
  refine Br.f ff_ ?_
  conv => whnf
  refine Br.f ff_ ?_
  conv => whnf
  refine Br.f ff_ ?_
  conv => whnf
  refine Br.f ff_ ?_
  conv => whnf
  refine Br.f ff_ ?_
  conv => whnf
  refine cut_ 336 [(1, .bp 0 0), (46, .bool ((decide ((a0_2.length : Int) > 0)) != (decide (a0_1 = 1))))] [(0, .box [.int .i64 a0_0, .int .i64 a0_1, (sv_str a0_2), (sv_S_impl_ClaimUse a0_3), (sv_str a0_4), (sv_str a0_5)])] rfl ⟨.inl rfl, ⟨.inl rfl, trivial⟩⟩ ⟨rfl, trivial⟩ ?_
  conv => whnf
  refine br_t H (fun c H => ?_) (fun c H => ?_)
  conv => whnf
  refine cut_ 344 [(2, .bool false)] [] rfl ⟨.inl rfl, trivial⟩ trivial ?_
  conv => whnf
  injection H with H; subst H
  exact ret_fz [] (rtA_eq rfl)
  conv => whnf
  refine br_d H (fun c H => ?_) (fun c H => ?_)
  conv => whnf
  refine Br.t ft_ ?_
  conv => whnf
  refine Br.t ft_ ?_
  conv => whnf
  refine Br.t ft_ ?_
  conv => whnf
  refine Br.t ft_ ?_
  conv => whnf
  refine Br.t rfl ?_
  conv => whnf
  refine Br.t rfl ?_
  conv => whnf
  refine Br.t rfl ?_
  conv => whnf
  refine Br.t rfl ?_
  conv => whnf
  refine Br.t rfl ?_
  conv => whnf
  refine Br.t rfl ?_
  conv => whnf
  refine Br.t rfl ?_
  conv => whnf
  refine Br.t rfl ?_
  conv => whnf
  refine Br.t rfl ?_
  conv => whnf
  refine Br.t rfl ?_
  conv => whnf
  refine Br.t rfl ?_
  conv => whnf
  refine Br.t rfl ?_
  conv => whnf
  refine Br.t rfl ?_
  conv => whnf
  refine Br.t rfl ?_
  conv => whnf
  refine Br.t rfl ?_
  conv => whnf
  refine cut_ 560 [(1, .bp 0 0), (74, .bool true)] [(0, .box [.int .i64 a0_0, .int .i64 a0_1, (sv_str a0_2), (sv_S_impl_ClaimUse a0_3), (sv_str a0_4), (sv_str a0_5)])] rfl ⟨.inl rfl, ⟨.inl rfl, trivial⟩⟩ ⟨rfl, trivial⟩ ?_
  conv => whnf
  refine Br.t rfl ?_
  conv => whnf
  refine cut_ 568 [(2, .bool false)] [] rfl ⟨.inl rfl, trivial⟩ trivial ?_
  conv => whnf
  injection H with H; subst H
  exact ret_fz [] (rtA_eq rfl)
  conv => whnf
  refine Br.f ff_ ?_
  conv => whnf
  refine Br.f ff_ ?_
  conv => whnf
  refine Br.f ff_ ?_
  conv => whnf
  refine Br.f ff_ ?_
  conv => whnf
  refine br_d H (fun c H => ?_) (fun c H => ?_)
  conv => whnf
  refine Br.t ft_ ?_
  conv => whnf
  refine Br.t ft_ ?_
  conv => whnf
  refine Br.t ft_ ?_
  conv => whnf
  refine Br.t ft_ ?_
  conv => whnf
  refine Br.t rfl ?_
  conv => whnf
  refine Br.t rfl ?_
  conv => whnf
  refine Br.t rfl ?_
  conv => whnf
  refine Br.t rfl ?_
  conv => whnf
  refine Br.t rfl ?_
  conv => whnf
  refine Br.t rfl ?_
  conv => whnf
  refine Br.t rfl ?_
  conv => whnf
  refine Br.t rfl ?_
  conv => whnf
  refine Br.t rfl ?_
  conv => whnf
  refine Br.t rfl ?_
  conv => whnf
  refine cut_ 560 [(1, .bp 0 0), (74, .bool true)] [(0, .box [.int .i64 a0_0, .int .i64 a0_1, (sv_str a0_2), (sv_S_impl_ClaimUse a0_3), (sv_str a0_4), (sv_str a0_5)])] rfl ⟨.inl rfl, ⟨.inl rfl, trivial⟩⟩ ⟨rfl, trivial⟩ ?_
  conv => whnf
  refine Br.t rfl ?_
  conv => whnf
  refine cut_ 568 [(2, .bool false)] [] rfl ⟨.inl rfl, trivial⟩ trivial ?_
  conv => whnf
  injection H with H; subst H
  exact ret_fz [] (rtA_eq rfl)
  conv => whnf
  refine Br.f ff_ ?_
  conv => whnf
  refine Br.f ff_ ?_
  conv => whnf
  refine Br.f ff_ ?_
  conv => whnf
  refine Br.f ff_ ?_
  conv => whnf
  refine br_d H (fun c H => ?_) (fun c H => ?_)
  conv => whnf
  refine Br.t ft_ ?_
  conv => whnf
  refine Br.t ft_ ?_
  conv => whnf
  refine Br.t ft_ ?_
  conv => whnf
  refine Br.t ft_ ?_
  conv => whnf
  refine Br.t rfl ?_
  conv => whnf
  refine Br.t rfl ?_
  conv => whnf
  refine Br.t rfl ?_
  conv => whnf
  refine Br.t rfl ?_
  conv => whnf
  refine Br.t rfl ?_
  conv => whnf
  refine cut_ 560 [(1, .bp 0 0), (74, .bool true)] [(0, .box [.int .i64 a0_0, .int .i64 a0_1, (sv_str a0_2), (sv_S_impl_ClaimUse a0_3), (sv_str a0_4), (sv_str a0_5)])] rfl ⟨.inl rfl, ⟨.inl rfl, trivial⟩⟩ ⟨rfl, trivial⟩ ?_
  conv => whnf
  refine Br.t rfl ?_
  conv => whnf
  refine cut_ 568 [(2, .bool false)] [] rfl ⟨.inl rfl, trivial⟩ trivial ?_
  conv => whnf
  injection H with H; subst H
  exact ret_fz [] (rtA_eq rfl)
  conv => whnf
  refine Br.f ff_ ?_
  conv => whnf
  refine Br.f ff_ ?_
  conv => whnf
  revert H; refine bind_elim (fun t1505 A H => ?_)
  refine call_mk (impl_names.ac A) (avAL_cons (avA_shut' rfl) (avAL_nil)) (Or.inl rfl) rfl rfl (Nat.le_of_ble_eq_true rfl) ?_
  conv => whnf
  refine Br.f ff_ ?_
  conv => whnf
  refine Br.f ff_ ?_
  conv => whnf
  refine br_nt H (fun c H => ?_) (fun c H => ?_)
  conv => whnf
  refine Br.f ff_ ?_
  conv => whnf
  refine Br.f ff_ ?_
  conv => whnf
  revert H; refine bind_elim (fun t1506 A H => ?_)
  refine call_mk (impl_names.ac A) (avAL_cons (avA_shut' rfl) (avAL_nil)) (Or.inl rfl) rfl rfl (Nat.le_of_ble_eq_true rfl) ?_
  conv => whnf
  refine Br.f ff_ ?_
  conv => whnf
  refine Br.f ff_ ?_
  conv => whnf
  refine cut_ 560 [(1, .bp 0 0), (74, .bool (!t1506))] [(0, .box [.int .i64 a0_0, .int .i64 a0_1, (sv_str a0_2), (sv_S_impl_ClaimUse a0_3), (sv_str a0_4), (sv_str a0_5)])] rfl ⟨.inl rfl, ⟨.inl rfl, trivial⟩⟩ ⟨rfl, trivial⟩ ?_
  conv => whnf
  refine br_nt H (fun c H => ?_) (fun c H => ?_)
  conv => whnf
  refine impl_ClaimWantOk.l0_lp (a0_1 := a0_1) (a0_3 := a0_3) (a0_4 := a0_4) (a0_5 := a0_5) (k := k) H [] (fits_of ⟨.inl ⟨rfl, rfl⟩, trivial⟩ trivial fi_ trivial rfl) ?_
  intro k x78 hk H; rcases k with _ | k; exact none_elim H; rw [impl_ClaimWantOk.l0] at H; conv => whnf
  refine br_d H (fun c H => ?_) (fun c H => ?_)
  conv => whnf
  refine nd_ H (fun c H => ?_)
  conv => whnf
  refine Nd.mk nf_ ?_
  conv => whnf
  refine El.mk (rdm_en_S_impl_ClaimUse _ _ nf_ nf_) ?_
  conv => whnf
  refine cut_ 648 [(1, .bp 0 0), (3, .int .i64 x78), (4, .bp 624 0), (76, (sv_S_impl_ClaimUse a0_3)), (77, .int .i64 (a0_3.length : Int)), (78, .int .i64 x78)] [(0, .box [.int .i64 a0_0, .int .i64 a0_1, (sv_str a0_2), (sv_S_impl_ClaimUse a0_3), (sv_str a0_4), (sv_str a0_5)]), (624, .box [.str ((rd_impl_ClaimUse a0_3 x78).f0), .int .i64 ((rd_impl_ClaimUse a0_3 x78).f1), .int .i64 ((rd_impl_ClaimUse a0_3 x78).f2)])] rfl ⟨.inl rfl, ⟨.inl rfl, ⟨.inl rfl, ⟨.inl rfl, ⟨.inl rfl, ⟨.inl rfl, trivial⟩⟩⟩⟩⟩⟩ ⟨rfl, ⟨rfl, trivial⟩⟩ ?_
  conv => whnf
  refine impl_ClaimWantOk.j0_sq (a0_1 := a0_1) (a0_3 := a0_3) (a0_4 := a0_4) (a0_5 := a0_5) (x78 := x78) (KK := k + 1) (r := r) ?_ ?_
  conv => whnf
  revert H; refine bind_elim (fun t1514 A H => ?_)
  refine call_mk (impl_isName.ac A) (avAL_cons (avA_shut' rfl) (avAL_nil)) (Or.inl rfl) rfl rfl (Nat.le_of_ble_eq_true rfl) ?_
  conv => whnf
  refine br_nt H (fun c H => ?_) (fun c H => ?_)
  conv => whnf
  refine Br.f ff_ ?_
  conv => whnf
  refine Br.f ff_ ?_
  conv => whnf
  refine br_d H (fun c H => ?_) (fun c H => ?_)
  conv => whnf
  refine Br.t ft_ ?_
  conv => whnf
  refine Br.t ft_ ?_
  conv => whnf
  refine Br.t ft_ ?_
  conv => whnf
  refine Br.t ft_ ?_
  conv => whnf
  refine nd_ H (fun c H => ?_)
  conv => whnf
  refine nd_ H (fun c H => ?_)
  conv => whnf
  refine El.mk (rdm_en_S_impl_ClaimUse _ _ nf_ nf_) ?_
  conv => whnf
  refine Br.t ft_ ?_
  conv => whnf
  refine Br.t ft_ ?_
  conv => whnf
  refine Br.t ft_ ?_
  conv => whnf
  refine Br.t ft_ ?_
  conv => whnf
  refine Br.t ft_ ?_
  conv => whnf
  refine Br.f ff_ ?_
  conv => whnf
  refine Br.t ft_ ?_
  conv => whnf
  refine Br.f ff_ ?_
  conv => whnf
  refine cut_ 808 [(1, .bp 0 0), (4, .bp 624 0), (76, (sv_S_impl_ClaimUse a0_3)), (77, .int .i64 (a0_3.length : Int)), (78, .int .i64 x78), (102, .bool (!(Op.bytesLess ((rd_impl_ClaimUse a0_3 (wrap64 (x78 - 1))).f0).toList ((rd_impl_ClaimUse a0_3 x78).f0).toList)))] [(0, .box [.int .i64 a0_0, .int .i64 a0_1, (sv_str a0_2), (sv_S_impl_ClaimUse a0_3), (sv_str a0_4), (sv_str a0_5)]), (624, .box [.str ((rd_impl_ClaimUse a0_3 x78).f0), .int .i64 ((rd_impl_ClaimUse a0_3 x78).f1), .int .i64 ((rd_impl_ClaimUse a0_3 x78).f2)])] rfl ⟨.inl rfl, ⟨.inl rfl, ⟨.inl rfl, ⟨.inl rfl, ⟨.inl rfl, ⟨.inl rfl, trivial⟩⟩⟩⟩⟩⟩ ⟨rfl, ⟨rfl, trivial⟩⟩ ?_
  conv => whnf
  refine br_nt H (fun c H => ?_) (fun c H => ?_)
  conv => whnf
  exact ⟨k, [], ⟨H, lt_⟩, (fits_of trivial trivial fi_ trivial rfl)⟩
  conv => whnf
  refine cut_ 816 [(2, .bool false)] [] rfl ⟨.inl rfl, trivial⟩ trivial ?_
  conv => whnf
  injection H with H; subst H
  exact ret_fz [] (rtA_eq rfl)
  conv => whnf
  refine Br.f ff_ ?_
  conv => whnf
  refine Br.f ff_ ?_
  conv => whnf
  refine Br.f ff_ ?_
  conv => whnf
  refine Br.f ff_ ?_
  conv => whnf
  refine Br.f ff_ ?_
  conv => whnf
  refine Br.f ff_ ?_
  conv => whnf
  refine Br.f ff_ ?_
  conv => whnf
  refine Br.f ff_ ?_
  conv => whnf
  refine Br.f ff_ ?_
  conv => whnf
  refine Br.f ff_ ?_
  conv => whnf
  refine Br.f ff_ ?_
  conv => whnf
  refine Br.f ff_ ?_
  conv => whnf
  refine cut_ 808 [(1, .bp 0 0), (4, .bp 624 0), (76, (sv_S_impl_ClaimUse a0_3)), (77, .int .i64 (a0_3.length : Int)), (78, .int .i64 x78), (102, .bool false)] [(0, .box [.int .i64 a0_0, .int .i64 a0_1, (sv_str a0_2), (sv_S_impl_ClaimUse a0_3), (sv_str a0_4), (sv_str a0_5)]), (624, .box [.str ((rd_impl_ClaimUse a0_3 x78).f0), .int .i64 ((rd_impl_ClaimUse a0_3 x78).f1), .int .i64 ((rd_impl_ClaimUse a0_3 x78).f2)])] rfl ⟨.inl rfl, ⟨.inl rfl, ⟨.inl rfl, ⟨.inl rfl, ⟨.inl rfl, ⟨.inl rfl, trivial⟩⟩⟩⟩⟩⟩ ⟨rfl, ⟨rfl, trivial⟩⟩ ?_
  conv => whnf
  refine Br.f rfl ?_
  conv => whnf
  exact ⟨k, [], ⟨H, lt_⟩, (fits_of trivial trivial fi_ trivial rfl)⟩
  conv => whnf
  refine Br.t ft_ ?_
  conv => whnf
  refine Br.t ft_ ?_
  conv => whnf
  refine Br.t ft_ ?_
  conv => whnf
  refine Br.t ft_ ?_
  conv => whnf
  refine cut_ 808 [(1, .bp 0 0), (4, .bp 624 0), (76, (sv_S_impl_ClaimUse a0_3)), (77, .int .i64 (a0_3.length : Int)), (78, .int .i64 x78), (102, .bool true)] [(0, .box [.int .i64 a0_0, .int .i64 a0_1, (sv_str a0_2), (sv_S_impl_ClaimUse a0_3), (sv_str a0_4), (sv_str a0_5)]), (624, .box [.str ((rd_impl_ClaimUse a0_3 x78).f0), .int .i64 ((rd_impl_ClaimUse a0_3 x78).f1), .int .i64 ((rd_impl_ClaimUse a0_3 x78).f2)])] rfl ⟨.inl rfl, ⟨.inl rfl, ⟨.inl rfl, ⟨.inl rfl, ⟨.inl rfl, ⟨.inl rfl, trivial⟩⟩⟩⟩⟩⟩ ⟨rfl, ⟨rfl, trivial⟩⟩ ?_
  conv => whnf
  refine Br.t rfl ?_
  conv => whnf
  refine cut_ 816 [(2, .bool false)] [] rfl ⟨.inl rfl, trivial⟩ trivial ?_
  conv => whnf
  injection H with H; subst H
  exact ret_fz [] (rtA_eq rfl)
  intro k hk H; rcases k with _ | k; exact none_elim H; rw [impl_ClaimWantOk.j0] at H; conv => whnf
  refine cut_ 664 [(1, .bp 0 0), (4, .bp 624 0), (76, (sv_S_impl_ClaimUse a0_3)), (77, .int .i64 (a0_3.length : Int)), (78, .int .i64 x78), (104, .int .i64 ((rd_impl_ClaimUse a0_3 x78).f1))] [(0, .box [.int .i64 a0_0, .int .i64 a0_1, (sv_str a0_2), (sv_S_impl_ClaimUse a0_3), (sv_str a0_4), (sv_str a0_5)]), (624, .box [.str ((rd_impl_ClaimUse a0_3 x78).f0), .int .i64 ((rd_impl_ClaimUse a0_3 x78).f1), .int .i64 ((rd_impl_ClaimUse a0_3 x78).f2)])] rfl ⟨.inl rfl, ⟨.inl rfl, ⟨.inl rfl, ⟨.inl rfl, ⟨.inl rfl, ⟨.inl rfl, trivial⟩⟩⟩⟩⟩⟩ ⟨rfl, ⟨rfl, trivial⟩⟩ ?_
  conv => whnf
  refine br_d H (fun c H => ?_) (fun c H => ?_)
  conv => whnf
  refine br_nd H (fun c H => ?_) (fun c H => ?_)
  conv => whnf
  exact ⟨(k, wrap64 (x78 + 1)), [], ⟨H, lt_⟩, lt_, (fits_of ⟨.inl ⟨rfl, rfl⟩, trivial⟩ trivial fi_ trivial rfl)⟩
  conv => whnf
  injection H with H; subst H
  exact ret_fz [] (rtA_eq rfl)
  conv => whnf
  refine br_d H (fun c H => ?_) (fun c H => ?_)
  conv => whnf
  refine Br.t ft_ ?_
  conv => whnf
  refine br_d H (fun c H => ?_) (fun c H => ?_)
  conv => whnf
  refine Br.t ft_ ?_
  conv => whnf
  refine Br.t ft_ ?_
  conv => whnf
  refine Br.t ft_ ?_
  conv => whnf
  refine Br.t rfl ?_
  conv => whnf
  refine Br.t rfl ?_
  conv => whnf
  refine Br.t rfl ?_
  conv => whnf
  refine Br.t rfl ?_
  conv => whnf
  refine cut_ 800 [(1, .bp 0 0), (76, (sv_S_impl_ClaimUse a0_3)), (77, .int .i64 (a0_3.length : Int)), (78, .int .i64 x78), (125, .bool true)] [(0, .box [.int .i64 a0_0, .int .i64 a0_1, (sv_str a0_2), (sv_S_impl_ClaimUse a0_3), (sv_str a0_4), (sv_str a0_5)])] rfl ⟨.inl rfl, ⟨.inl rfl, ⟨.inl rfl, ⟨.inl rfl, ⟨.inl rfl, trivial⟩⟩⟩⟩⟩ ⟨rfl, trivial⟩ ?_
  conv => whnf
  refine Br.t rfl ?_
  conv => whnf
  refine cut_ 808 [(2, .bool false)] [] rfl ⟨.inl rfl, trivial⟩ trivial ?_
  conv => whnf
  injection H with H; subst H
  exact ret_fz [] (rtA_eq rfl)
  conv => whnf
  refine Br.f ff_ ?_
  conv => whnf
  refine Br.f ff_ ?_
  conv => whnf
  refine Br.f ff_ ?_
  conv => whnf
  refine br_d H (fun c H => ?_) (fun c H => ?_)
  conv => whnf
  refine Br.t ft_ ?_
  conv => whnf
  refine Br.t ft_ ?_
  conv => whnf
  refine Br.t ft_ ?_
  conv => whnf
  refine cut_ 800 [(1, .bp 0 0), (76, (sv_S_impl_ClaimUse a0_3)), (77, .int .i64 (a0_3.length : Int)), (78, .int .i64 x78), (125, .bool true)] [(0, .box [.int .i64 a0_0, .int .i64 a0_1, (sv_str a0_2), (sv_S_impl_ClaimUse a0_3), (sv_str a0_4), (sv_str a0_5)])] rfl ⟨.inl rfl, ⟨.inl rfl, ⟨.inl rfl, ⟨.inl rfl, ⟨.inl rfl, trivial⟩⟩⟩⟩⟩ ⟨rfl, trivial⟩ ?_
  conv => whnf
  refine Br.t rfl ?_
  conv => whnf
  refine cut_ 808 [(2, .bool false)] [] rfl ⟨.inl rfl, trivial⟩ trivial ?_
  conv => whnf
  injection H with H; subst H
  exact ret_fz [] (rtA_eq rfl)
  conv => whnf
  refine Br.f ff_ ?_
  conv => whnf
  refine Br.f ff_ ?_
  conv => whnf
  refine Br.f ff_ ?_
  conv => whnf
  refine cut_ 800 [(1, .bp 0 0), (76, (sv_S_impl_ClaimUse a0_3)), (77, .int .i64 (a0_3.length : Int)), (78, .int .i64 x78), (125, .bool (!(decide (a0_1 = 1))))] [(0, .box [.int .i64 a0_0, .int .i64 a0_1, (sv_str a0_2), (sv_S_impl_ClaimUse a0_3), (sv_str a0_4), (sv_str a0_5)])] rfl ⟨.inl rfl, ⟨.inl rfl, ⟨.inl rfl, ⟨.inl rfl, ⟨.inl rfl, trivial⟩⟩⟩⟩⟩ ⟨rfl, trivial⟩ ?_
  conv => whnf
  refine br_nd H (fun c H => ?_) (fun c H => ?_)
  conv => whnf
  exact ⟨(k, wrap64 (x78 + 1)), [], ⟨H, lt_⟩, lt_, (fits_of ⟨.inl ⟨rfl, rfl⟩, trivial⟩ trivial fi_ trivial rfl)⟩
  conv => whnf
  refine cut_ 808 [(2, .bool false)] [] rfl ⟨.inl rfl, trivial⟩ trivial ?_
  conv => whnf
  injection H with H; subst H
  exact ret_fz [] (rtA_eq rfl)
  conv => whnf
  refine br_d H (fun c H => ?_) (fun c H => ?_)
  conv => whnf
  refine br_d H (fun c H => ?_) (fun c H => ?_)
  conv => whnf
  refine Br.t ft_ ?_
  conv => whnf
  refine Br.t ft_ ?_
  conv => whnf
  refine Br.t ft_ ?_
  conv => whnf
  refine Br.t rfl ?_
  conv => whnf
  refine Br.t rfl ?_
  conv => whnf
  refine Br.t rfl ?_
  conv => whnf
  refine Br.t rfl ?_
  conv => whnf
  refine cut_ 816 [(1, .bp 0 0), (76, (sv_S_impl_ClaimUse a0_3)), (77, .int .i64 (a0_3.length : Int)), (78, .int .i64 x78), (125, .bool true)] [(0, .box [.int .i64 a0_0, .int .i64 a0_1, (sv_str a0_2), (sv_S_impl_ClaimUse a0_3), (sv_str a0_4), (sv_str a0_5)])] rfl ⟨.inl rfl, ⟨.inl rfl, ⟨.inl rfl, ⟨.inl rfl, ⟨.inl rfl, trivial⟩⟩⟩⟩⟩ ⟨rfl, trivial⟩ ?_
  conv => whnf
  refine Br.t rfl ?_
  conv => whnf
  refine cut_ 824 [(2, .bool false)] [] rfl ⟨.inl rfl, trivial⟩ trivial ?_
  conv => whnf
  injection H with H; subst H
  exact ret_fz [] (rtA_eq rfl)
  conv => whnf
  refine Br.f ff_ ?_
  conv => whnf
  refine Br.f ff_ ?_
  conv => whnf
  refine Br.f ff_ ?_
  conv => whnf
  refine br_d H (fun c H => ?_) (fun c H => ?_)
  conv => whnf
  refine Br.t ft_ ?_
  conv => whnf
  refine Br.t ft_ ?_
  conv => whnf
  refine Br.t ft_ ?_
  conv => whnf
  refine cut_ 816 [(1, .bp 0 0), (76, (sv_S_impl_ClaimUse a0_3)), (77, .int .i64 (a0_3.length : Int)), (78, .int .i64 x78), (125, .bool true)] [(0, .box [.int .i64 a0_0, .int .i64 a0_1, (sv_str a0_2), (sv_S_impl_ClaimUse a0_3), (sv_str a0_4), (sv_str a0_5)])] rfl ⟨.inl rfl, ⟨.inl rfl, ⟨.inl rfl, ⟨.inl rfl, ⟨.inl rfl, trivial⟩⟩⟩⟩⟩ ⟨rfl, trivial⟩ ?_
  conv => whnf
  refine Br.t rfl ?_
  conv => whnf
  refine cut_ 824 [(2, .bool false)] [] rfl ⟨.inl rfl, trivial⟩ trivial ?_
  conv => whnf
  injection H with H; subst H
  exact ret_fz [] (rtA_eq rfl)
  conv => whnf
  refine Br.f ff_ ?_
  conv => whnf
  refine Br.f ff_ ?_
  conv => whnf
  refine Br.f ff_ ?_
  conv => whnf
  refine cut_ 816 [(1, .bp 0 0), (76, (sv_S_impl_ClaimUse a0_3)), (77, .int .i64 (a0_3.length : Int)), (78, .int .i64 x78), (125, .bool (!(decide (a0_1 = 1))))] [(0, .box [.int .i64 a0_0, .int .i64 a0_1, (sv_str a0_2), (sv_S_impl_ClaimUse a0_3), (sv_str a0_4), (sv_str a0_5)])] rfl ⟨.inl rfl, ⟨.inl rfl, ⟨.inl rfl, ⟨.inl rfl, ⟨.inl rfl, trivial⟩⟩⟩⟩⟩ ⟨rfl, trivial⟩ ?_
  conv => whnf
  refine br_nd H (fun c H => ?_) (fun c H => ?_)
  conv => whnf
  exact ⟨(k, wrap64 (x78 + 1)), [], ⟨H, lt_⟩, lt_, (fits_of ⟨.inl ⟨rfl, rfl⟩, trivial⟩ trivial fi_ trivial rfl)⟩
  conv => whnf
  refine cut_ 824 [(2, .bool false)] [] rfl ⟨.inl rfl, trivial⟩ trivial ?_
  conv => whnf
  injection H with H; subst H
  exact ret_fz [] (rtA_eq rfl)
  conv => whnf
  injection H with H; subst H
  exact ret_fz [] (rtA_eq rfl)
  conv => whnf
  refine impl_ClaimWantOk.l1_lp (a0_1 := a0_1) (a0_3 := a0_3) (a0_4 := a0_4) (a0_5 := a0_5) (k := k) H [] (fits_of ⟨.inl ⟨rfl, rfl⟩, trivial⟩ trivial fi_ trivial rfl) ?_
  intro k x130 hk H; rcases k with _ | k; exact none_elim H; rw [impl_ClaimWantOk.l1] at H; conv => whnf
  refine cut_ 640 [(1, .bp 0 0), (128, (sv_str a0_4)), (129, .int .i64 (a0_4.length : Int)), (130, .int .i64 x130), (131, .bool (decide (x130 < (a0_4.length : Int))))] [(0, .box [.int .i64 a0_0, .int .i64 a0_1, (sv_str a0_2), (sv_S_impl_ClaimUse a0_3), (sv_str a0_4), (sv_str a0_5)])] rfl ⟨.inl rfl, ⟨.inl rfl, ⟨.inl rfl, ⟨.inl rfl, ⟨.inl rfl, trivial⟩⟩⟩⟩⟩ ⟨rfl, trivial⟩ ?_
  conv => whnf
  refine br_d H (fun c H => ?_) (fun c H => ?_)
  conv => whnf
  refine nd_ H (fun c H => ?_)
  conv => whnf
  refine Nd.mk nf_ ?_
  conv => whnf
  refine El.mk (rdm_en_str _ _ nf_ nf_) ?_
  conv => whnf
  revert H; refine bind_elim (fun t1518 A H => ?_)
  refine call_mk (impl_has.ac A) (avAL_cons (avA_shut' rfl) (avAL_cons (avA_shut' rfl) (avAL_nil))) (Or.inl rfl) rfl rfl (Nat.le_of_ble_eq_true rfl) ?_
  conv => whnf
  refine br_t H (fun c H => ?_) (fun c H => ?_)
  conv => whnf
  injection H with H; subst H
  exact ret_fz [] (rtA_eq rfl)
  conv => whnf
  exact ⟨(k, wrap64 (x130 + 1)), [], ⟨H, lt_⟩, lt_, (fits_of ⟨.inl ⟨rfl, rfl⟩, trivial⟩ trivial fi_ trivial rfl)⟩
  conv => whnf
  refine br_d H (fun c H => ?_) (fun c H => ?_)
  conv => whnf
  refine Br.t ft_ ?_
  conv => whnf
  refine Br.t ft_ ?_
  conv => whnf
  refine Br.t ft_ ?_
  conv => whnf
  refine Br.t rfl ?_
  conv => whnf
  refine Br.t rfl ?_
  conv => whnf
  refine Br.t rfl ?_
  conv => whnf
  refine Br.t rfl ?_
  conv => whnf
  refine Br.t rfl ?_
  conv => whnf
  refine Br.t rfl ?_
  conv => whnf
  refine Br.t rfl ?_
  conv => whnf
  refine Br.t rfl ?_
  conv => whnf
  refine Br.t rfl ?_
  conv => whnf
  refine Br.t rfl ?_
  conv => whnf
  refine Br.t rfl ?_
  conv => whnf
  refine Br.t rfl ?_
  conv => whnf
  refine Br.t rfl ?_
  conv => whnf
  refine cut_ 832 [(2, .bool (decide ((wrap64 ((wrap64 ((a0_3.length : Int) + (a0_4.length : Int))) + (a0_5.length : Int))) > 0)))] [] rfl ⟨.inl rfl, trivial⟩ trivial ?_
  conv => whnf
  injection H with H; subst H
  exact ret_fz [] (rtA_eq rfl)
  conv => whnf
  refine Br.f ff_ ?_
  conv => whnf
  refine Br.f ff_ ?_
  conv => whnf
  refine Br.f ff_ ?_
  conv => whnf
  refine br_d H (fun c H => ?_) (fun c H => ?_)
  conv => whnf
  refine Br.t ft_ ?_
  conv => whnf
  refine Br.t ft_ ?_
  conv => whnf
  refine Br.t ft_ ?_
  conv => whnf
  refine Br.t ft_ ?_
  conv => whnf
  refine Br.t ft_ ?_
  conv => whnf
  refine Br.t ft_ ?_
  conv => whnf
  refine Br.t ft_ ?_
  conv => whnf
  refine Br.t ft_ ?_
  conv => whnf
  refine Br.t ft_ ?_
  conv => whnf
  refine Br.t ft_ ?_
  conv => whnf
  refine Br.t ft_ ?_
  conv => whnf
  refine Br.t ft_ ?_
  conv => whnf
  refine cut_ 832 [(2, .bool (decide ((wrap64 ((wrap64 ((a0_3.length : Int) + (a0_4.length : Int))) + (a0_5.length : Int))) > 0)))] [] rfl ⟨.inl rfl, trivial⟩ trivial ?_
  conv => whnf
  injection H with H; subst H
  exact ret_fz [] (rtA_eq rfl)
  conv => whnf
  refine Br.f ff_ ?_
  conv => whnf
  refine Br.f ff_ ?_
  conv => whnf
  refine Br.f ff_ ?_
  conv => whnf
  refine Br.f ff_ ?_
  conv => whnf
  refine Br.f ff_ ?_
  conv => whnf
  refine Br.f ff_ ?_
  conv => whnf
  refine Br.f ff_ ?_
  conv => whnf
  refine Br.f ff_ ?_
  conv => whnf
  refine Br.f ff_ ?_
  conv => whnf
  refine Br.f ff_ ?_
  conv => whnf
  refine Br.f ff_ ?_
  conv => whnf
  refine Br.f ff_ ?_
  conv => whnf
  refine cut_ 832 [(2, .bool false)] [] rfl ⟨.inl rfl, trivial⟩ trivial ?_
  conv => whnf
  injection H with H; subst H
  exact ret_fz [] (rtA_eq rfl)
  conv => whnf
  refine cut_ 568 [(2, .bool false)] [] rfl ⟨.inl rfl, trivial⟩ trivial ?_
  conv => whnf
  injection H with H; subst H
  exact ret_fz [] (rtA_eq rfl)
  conv => whnf
  refine Br.t ft_ ?_
  conv => whnf
  refine Br.t ft_ ?_
  conv => whnf
  refine Br.t ft_ ?_
  conv => whnf
  refine Br.t ft_ ?_
  conv => whnf
  refine cut_ 560 [(1, .bp 0 0), (74, .bool true)] [(0, .box [.int .i64 a0_0, .int .i64 a0_1, (sv_str a0_2), (sv_S_impl_ClaimUse a0_3), (sv_str a0_4), (sv_str a0_5)])] rfl ⟨.inl rfl, ⟨.inl rfl, trivial⟩⟩ ⟨rfl, trivial⟩ ?_
  conv => whnf
  refine Br.t rfl ?_
  conv => whnf
  refine cut_ 568 [(2, .bool false)] [] rfl ⟨.inl rfl, trivial⟩ trivial ?_
  conv => whnf
  injection H with H; subst H
  exact ret_fz [] (rtA_eq rfl)
  conv => whnf
  refine Br.t ft_ ?_
  conv => whnf
  refine Br.t ft_ ?_
  conv => whnf
  refine Br.t ft_ ?_
  conv => whnf
  refine Br.t ft_ ?_
  conv => whnf
  refine Br.t ft_ ?_
  conv => whnf
  refine Br.t ft_ ?_
  conv => whnf
  refine Br.t ft_ ?_
  conv => whnf
  refine Br.t ft_ ?_
  conv => whnf
  refine cut_ 336 [(1, .bp 0 0), (46, .bool true)] [(0, .box [.int .i64 a0_0, .int .i64 a0_1, (sv_str a0_2), (sv_S_impl_ClaimUse a0_3), (sv_str a0_4), (sv_str a0_5)])] rfl ⟨.inl rfl, ⟨.inl rfl, trivial⟩⟩ ⟨rfl, trivial⟩ ?_
  conv => whnf
  refine Br.t rfl ?_
  conv => whnf
  refine cut_ 344 [(2, .bool false)] [] rfl ⟨.inl rfl, trivial⟩ trivial ?_
  conv => whnf
  injection H with H; subst H
  exact ret_fz [] (rtA_eq rfl)
theorem impl_ClaimBook_spot.l0_lp {F : (Exit → St → Prop) → St → Prop} {hv : List Tmp} {Q : Exit → St → Prop} {σ : St} {r : Int} {k : Nat} {a0_1 : List S_impl_ClaimSpot} {a1 : ByteArray} {x10 : Int} (H : impl_ClaimBook_spot.l0 k a0_1 a1 x10 = some r) (rn : List (Option Nat)) (h1 : Fits σ σ [0] [(10, .int .i64 x10)] [] [] rn)
    (h2 : ∀ (k0 : Nat) (x10 : Int), k0 < k + 1 → impl_ClaimBook_spot.l0 k0 a0_1 a1 x10 = some r → headN σ hv [0] [(10, .int .i64 x10)] [] [] (F (fun e σ' => match e with | .normal => ∃ (y : Nat × Int) (rn : List (Option Nat)), (impl_ClaimBook_spot.l0 y.1 a0_1 a1 y.2 = some r ∧ y.1 < k + 1) ∧ y.1 < k0 ∧ Fits σ σ' [0] [(10, .int .i64 y.2)] [] [] rn | e => Q e σ'))) : Lp F hv Q σ := by
  unfold Lp
  refine ⟨Nat × Int, fun x => impl_ClaimBook_spot.l0 x.1 a0_1 a1 x.2 = some r ∧ x.1 < k + 1, fun x => x.1, [0], fun x => [(10, .int .i64 x.2)], fun x => [], fun x => [], ⟨(k, x10), rn, ⟨H, Nat.lt_succ_self _⟩, h1⟩, ?_⟩
  rintro ⟨k, x10⟩ ⟨H, hk⟩
  exact h2 k x10 hk H
theorem impl_ClaimBook_spot.ac {k : Nat} {a0_0 : List S_impl_ClaimFoe} {a0_1 : List S_impl_ClaimSpot} {a0_2 : List ByteArray} {a0_3 : List S_impl_ClaimPart} {a0_4 : Int} {a1 : ByteArray} {r : Int} (H : impl_ClaimBook_spot.f k a0_0 a0_1 a0_2 a0_3 a0_4 a1 = some r) : ACalls Tryz.prog G 71 [] [.agg [(sv_S_impl_ClaimFoe a0_0), (sv_S_impl_ClaimSpot a0_1), (sv_str a0_2), (sv_S_impl_ClaimPart a0_3), .int .i64 a0_4], .str a1] [] (.int .i64 r) := by
  refine acalls_of tok hP Tryz.func71 rfl (by kernel_rfl) [.tmp 4] rfl (by kernel_rfl) (Nat.le_of_ble_eq_true rfl) (.l .n (.l (.l .n (.l .n (.l .n (.l (.c .n .n) .n)))) .n)) rfl ?_
  unfold impl_ClaimBook_spot.f at H
  conv => whnf
  refine impl_ClaimBook_spot.l0_lp (a0_1 := a0_1) (a1 := a1) (k := k) H [] (fits_of ⟨.inl ⟨rfl, rfl⟩, trivial⟩ trivial fi_ trivial rfl) ?_
  intro k x10 hk H; rcases k with _ | k; exact none_elim H; rw [impl_ClaimBook_spot.l0] at H; conv => whnf
  refine br_d H (fun c H => ?_) (fun c H => ?_)
  conv => whnf
  refine nd_ H (fun c H => ?_)
  conv => whnf
  refine Nd.mk nf_ ?_
  conv => whnf
  refine El.mk (rdm_en_S_impl_ClaimSpot _ _ nf_ nf_) ?_
  conv => whnf
  refine cut_ 104 [(1, .str a1), (5, .int .i64 x10), (6, .bp 80 0), (8, (sv_S_impl_ClaimSpot a0_1)), (9, .int .i64 (a0_1.length : Int)), (10, .int .i64 x10)] [(80, .box [.str ((rd_impl_ClaimSpot a0_1 x10).f0), .int .i64 ((rd_impl_ClaimSpot a0_1 x10).f1), .int .i64 ((rd_impl_ClaimSpot a0_1 x10).f2), .int .i64 ((rd_impl_ClaimSpot a0_1 x10).f3), (sv_str ((rd_impl_ClaimSpot a0_1 x10).f4))])] rfl ⟨.inl rfl, ⟨.inl rfl, ⟨.inl rfl, ⟨.inl rfl, ⟨.inl rfl, ⟨.inl rfl, trivial⟩⟩⟩⟩⟩⟩ ⟨rfl, trivial⟩ ?_
  conv => whnf
  refine br_d H (fun c H => ?_) (fun c H => ?_)
  conv => whnf
  injection H with H; subst H
  exact ret_fz [] (rtA_eq rfl)
  conv => whnf
  exact ⟨(k, wrap64 (x10 + 1)), [], ⟨H, lt_⟩, lt_, (fits_of ⟨.inl ⟨rfl, rfl⟩, trivial⟩ trivial fi_ trivial rfl)⟩
  conv => whnf
  injection H with H; subst H
  exact ret_fz [] (rtA_eq rfl)
theorem impl_within.l0_lp {F : (Exit → St → Prop) → St → Prop} {hv : List Tmp} {Q : Exit → St → Prop} {σ : St} {r : Bool} {k : Nat} {l0 : List ByteArray} {l1 : List ByteArray} {x9 : Int} (H : impl_within.l0 k l0 l1 x9 = some r) (rn : List (Option Nat)) (h1 : Fits σ σ [] [(9, .int .i64 x9)] [] [] rn)
    (h2 : ∀ (k0 : Nat) (x9 : Int), k0 < k + 1 → impl_within.l0 k0 l0 l1 x9 = some r → headN σ hv [] [(9, .int .i64 x9)] [] [] (F (fun e σ' => match e with | .normal => ∃ (y : Nat × Int) (rn : List (Option Nat)), (impl_within.l0 y.1 l0 l1 y.2 = some r ∧ y.1 < k + 1) ∧ y.1 < k0 ∧ Fits σ σ' [] [(9, .int .i64 y.2)] [] [] rn | e => Q e σ'))) : Lp F hv Q σ := by
  unfold Lp
  refine ⟨Nat × Int, fun x => impl_within.l0 x.1 l0 l1 x.2 = some r ∧ x.1 < k + 1, fun x => x.1, [], fun x => [(9, .int .i64 x.2)], fun x => [], fun x => [], ⟨(k, x9), rn, ⟨H, Nat.lt_succ_self _⟩, h1⟩, ?_⟩
  rintro ⟨k, x9⟩ ⟨H, hk⟩
  exact h2 k x9 hk H
theorem impl_within.ac {k : Nat} {l0 : List ByteArray} {l1 : List ByteArray} {r : Bool} (H : impl_within.f k l0 l1 = some r) : ACalls Tryz.prog G 72 [] [(sv_str l0), (sv_str l1)] [] (.bool r) := by
  refine acalls_of tok hP Tryz.func72 rfl (by kernel_rfl) [.tmp 4] rfl (by kernel_rfl) (Nat.le_of_ble_eq_true rfl) (.l .n (.l (.l .n (.l .n (.l .n (.l (.l .n (.c .n .n)) .n)))) .n)) rfl ?_
  unfold impl_within.f at H
  conv => whnf
  refine impl_within.l0_lp (l0 := l0) (l1 := l1) (k := k) H [] (fits_of ⟨.inl ⟨rfl, rfl⟩, trivial⟩ trivial fi_ trivial rfl) ?_
  intro k x9 hk H; rcases k with _ | k; exact none_elim H; rw [impl_within.l0] at H; conv => whnf
  refine br_d H (fun c H => ?_) (fun c H => ?_)
  conv => whnf
  refine nd_ H (fun c H => ?_)
  conv => whnf
  refine Nd.mk nf_ ?_
  conv => whnf
  refine El.mk (rdm_en_str _ _ nf_ nf_) ?_
  conv => whnf
  revert H; refine bind_elim (fun t1685 A H => ?_)
  refine call_mk (impl_has.ac A) (avAL_cons (avA_shut' rfl) (avAL_cons (avA_shut' rfl) (avAL_nil))) (Or.inl rfl) rfl rfl (Nat.le_of_ble_eq_true rfl) ?_
  conv => whnf
  refine cut_ 96 [(1, (sv_str l1)), (7, (sv_str l0)), (8, .int .i64 (l0.length : Int)), (9, .int .i64 x9), (16, .bool (!t1685))] [] rfl ⟨.inl rfl, ⟨.inl rfl, ⟨.inl rfl, ⟨.inl rfl, ⟨.inl rfl, trivial⟩⟩⟩⟩⟩ trivial ?_
  conv => whnf
  refine br_nt H (fun c H => ?_) (fun c H => ?_)
  conv => whnf
  exact ⟨(k, wrap64 (x9 + 1)), [], ⟨H, lt_⟩, lt_, (fits_of ⟨.inl ⟨rfl, rfl⟩, trivial⟩ trivial fi_ trivial rfl)⟩
  conv => whnf
  injection H with H; subst H
  exact ret_fz [] (rtA_eq rfl)
  conv => whnf
  injection H with H; subst H
  exact ret_fz [] (rtA_eq rfl)
theorem impl_ClaimBook_knows.l0_lp {F : (Exit → St → Prop) → St → Prop} {hv : List Tmp} {Q : Exit → St → Prop} {σ : St} {r : Bool} {k : Nat} {a0_0 : List S_impl_ClaimFoe} {a0_1 : List S_impl_ClaimSpot} {a0_2 : List ByteArray} {a0_3 : List S_impl_ClaimPart} {a0_4 : Int} {a1_3 : List S_impl_ClaimUse} {a1_4 : List ByteArray} {a1_5 : List ByteArray} {x10 : Int} (H : impl_ClaimBook_knows.l0 k a0_0 a0_1 a0_2 a0_3 a0_4 a1_3 a1_4 a1_5 x10 = some r) (rn : List (Option Nat)) (h1 : Fits σ σ [] [(10, .int .i64 x10)] [] [] rn)
    (h2 : ∀ (k0 : Nat) (x10 : Int), k0 < k + 1 → impl_ClaimBook_knows.l0 k0 a0_0 a0_1 a0_2 a0_3 a0_4 a1_3 a1_4 a1_5 x10 = some r → headN σ hv [] [(10, .int .i64 x10)] [] [] (F (fun e σ' => match e with | .normal => ∃ (y : Nat × Int) (rn : List (Option Nat)), (impl_ClaimBook_knows.l0 y.1 a0_0 a0_1 a0_2 a0_3 a0_4 a1_3 a1_4 a1_5 y.2 = some r ∧ y.1 < k + 1) ∧ y.1 < k0 ∧ Fits σ σ' [] [(10, .int .i64 y.2)] [] [] rn | e => Q e σ'))) : Lp F hv Q σ := by
  unfold Lp
  refine ⟨Nat × Int, fun x => impl_ClaimBook_knows.l0 x.1 a0_0 a0_1 a0_2 a0_3 a0_4 a1_3 a1_4 a1_5 x.2 = some r ∧ x.1 < k + 1, fun x => x.1, [], fun x => [(10, .int .i64 x.2)], fun x => [], fun x => [], ⟨(k, x10), rn, ⟨H, Nat.lt_succ_self _⟩, h1⟩, ?_⟩
  rintro ⟨k, x10⟩ ⟨H, hk⟩
  exact h2 k x10 hk H
theorem impl_ClaimBook_knows.ac {k : Nat} {a0_0 : List S_impl_ClaimFoe} {a0_1 : List S_impl_ClaimSpot} {a0_2 : List ByteArray} {a0_3 : List S_impl_ClaimPart} {a0_4 : Int} {a1_0 : Int} {a1_1 : Int} {a1_2 : List ByteArray} {a1_3 : List S_impl_ClaimUse} {a1_4 : List ByteArray} {a1_5 : List ByteArray} {r : Bool} (H : impl_ClaimBook_knows.f k a0_0 a0_1 a0_2 a0_3 a0_4 a1_0 a1_1 a1_2 a1_3 a1_4 a1_5 = some r) : ACalls Tryz.prog G 65 [] [.agg [(sv_S_impl_ClaimFoe a0_0), (sv_S_impl_ClaimSpot a0_1), (sv_str a0_2), (sv_S_impl_ClaimPart a0_3), .int .i64 a0_4], .agg [.int .i64 a1_0, .int .i64 a1_1, (sv_str a1_2), (sv_S_impl_ClaimUse a1_3), (sv_str a1_4), (sv_str a1_5)]] [] (.bool r) := by
  refine acalls_of tok hP Tryz.func65 rfl (by kernel_rfl) [.tmp 4] rfl (by kernel_rfl) (Nat.le_of_ble_eq_true rfl) (.l .n (.l (.l .n (.l .n (.l .n (.l (.c .n .n) .n)))) (.c .n .n))) rfl ?_
  unfold impl_ClaimBook_knows.f at H
  conv => whnf
  refine impl_ClaimBook_knows.l0_lp (a0_0 := a0_0) (a0_1 := a0_1) (a0_2 := a0_2) (a0_3 := a0_3) (a0_4 := a0_4) (a1_3 := a1_3) (a1_4 := a1_4) (a1_5 := a1_5) (k := k) H [] (fits_of ⟨.inl ⟨rfl, rfl⟩, trivial⟩ trivial fi_ trivial rfl) ?_
  intro k x10 hk H; rcases k with _ | k; exact none_elim H; rw [impl_ClaimBook_knows.l0] at H; conv => whnf
  refine br_d H (fun c H => ?_) (fun c H => ?_)
  conv => whnf
  refine nd_ H (fun c H => ?_)
  conv => whnf
  refine Nd.mk nf_ ?_
  conv => whnf
  refine El.mk (rdm_en_S_impl_ClaimUse _ _ nf_ nf_) ?_
  conv => whnf
  refine cut_ 96 [(2, .bp 0 0), (3, .bp 8 0), (6, .bp 80 0), (8, (sv_S_impl_ClaimUse a1_3)), (9, .int .i64 (a1_3.length : Int)), (10, .int .i64 x10)] [(0, .box [(sv_S_impl_ClaimFoe a0_0), (sv_S_impl_ClaimSpot a0_1), (sv_str a0_2), (sv_S_impl_ClaimPart a0_3), .int .i64 a0_4]), (8, .box [.int .i64 a1_0, .int .i64 a1_1, (sv_str a1_2), (sv_S_impl_ClaimUse a1_3), (sv_str a1_4), (sv_str a1_5)]), (80, .box [.str ((rd_impl_ClaimUse a1_3 x10).f0), .int .i64 ((rd_impl_ClaimUse a1_3 x10).f1), .int .i64 ((rd_impl_ClaimUse a1_3 x10).f2)])] rfl ⟨.inl rfl, ⟨.inl rfl, ⟨.inl rfl, ⟨.inl rfl, ⟨.inl rfl, ⟨.inl rfl, trivial⟩⟩⟩⟩⟩⟩ ⟨rfl, ⟨rfl, ⟨rfl, trivial⟩⟩⟩ ?_
  conv => whnf
  revert H; refine bind_elim (fun t1689 A H => ?_)
  refine call_mk (impl_ClaimBook_spot.ac A) (avAL_cons (avA_agg (avL_cons (av_shut' rfl) (avL_cons (av_shut' rfl) (avL_cons (av_shut' rfl) (avL_cons (av_shut' rfl) (avL_cons (av_shut' rfl) (avL_nil))))))) (avAL_cons (avA_shut' rfl) (avAL_nil))) (Or.inl rfl) rfl rfl (Nat.le_of_ble_eq_true rfl) ?_
  conv => whnf
  refine br_d H (fun c H => ?_) (fun c H => ?_)
  conv => whnf
  injection H with H; subst H
  exact ret_fz [] (rtA_eq rfl)
  conv => whnf
  exact ⟨(k, wrap64 (x10 + 1)), [], ⟨H, lt_⟩, lt_, (fits_of ⟨.inl ⟨rfl, rfl⟩, trivial⟩ trivial fi_ trivial rfl)⟩
  conv => whnf
  revert H; refine bind_elim (fun t1692 A H => ?_)
  refine call_mk (impl_within.ac A) (avAL_cons (avA_shut' rfl) (avAL_cons (avA_shut' rfl) (avAL_nil))) (Or.inl rfl) rfl rfl (Nat.le_of_ble_eq_true rfl) ?_
  conv => whnf
  refine br_t H (fun c H => ?_) (fun c H => ?_)
  conv => whnf
  refine Br.t ft_ ?_
  conv => whnf
  refine Br.t ft_ ?_
  conv => whnf
  refine Br.t ft_ ?_
  conv => whnf
  refine Br.t ft_ ?_
  conv => whnf
  revert H; refine bind_elim (fun t1693 A H => ?_)
  refine call_mk (impl_within.ac A) (avAL_cons (avA_shut' rfl) (avAL_cons (avA_shut' rfl) (avAL_nil))) (Or.inl rfl) rfl rfl (Nat.le_of_ble_eq_true rfl) ?_
  conv => whnf
  refine Br.t ft_ ?_
  conv => whnf
  refine cut_ 168 [(4, .bool t1693)] [] rfl ⟨.inl rfl, trivial⟩ trivial ?_
  conv => whnf
  injection H with H; subst H
  exact ret_fz [] (rtA_eq rfl)
  conv => whnf
  refine Br.f ff_ ?_
  conv => whnf
  refine Br.f ff_ ?_
  conv => whnf
  refine Br.f ff_ ?_
  conv => whnf
  refine Br.f ff_ ?_
  conv => whnf
  refine Br.f ff_ ?_
  conv => whnf
  refine cut_ 168 [(4, .bool false)] [] rfl ⟨.inl rfl, trivial⟩ trivial ?_
  conv => whnf
  injection H with H; subst H
  exact ret_fz [] (rtA_eq rfl)
theorem impl_ClaimBook_settled.j0_sq {F : (Exit → St → Prop) → St → Prop} {hv : List Tmp} {K : St → Prop} {Q : Exit → St → Prop} {σ : St} {r : Bool} {KK : Nat} {a0_0 : List S_impl_ClaimFoe} {a0_1 : List S_impl_ClaimSpot} {a0_2 : List ByteArray} {a0_3 : List S_impl_ClaimPart} {a0_4 : Int} {a1_1 : Int} {a1_2 : List ByteArray} {a1_3 : List S_impl_ClaimUse} {x11 : Int}
    (h1 : F (fun e σ' => match e with | .normal => ∃ (y : Nat) (rn : List (Option Nat)), (impl_ClaimBook_settled.j0 y a0_0 a0_1 a0_2 a0_3 a0_4 a1_1 a1_2 a1_3 x11 = some r ∧ y < KK) ∧ Fits σ σ' [] [] [] [] rn | e => Q e σ') σ)
    (h2 : ∀ (k : Nat), k < KK → impl_ClaimBook_settled.j0 k a0_0 a0_1 a0_2 a0_3 a0_4 a1_1 a1_2 a1_3 x11 = some r → headN σ hv [] [] [] [] K) : Sq F hv K Q σ := by
  unfold Sq
  refine ⟨Nat, fun x => impl_ClaimBook_settled.j0 x a0_0 a0_1 a0_2 a0_3 a0_4 a1_1 a1_2 a1_3 x11 = some r ∧ x < KK, [], fun x => [], fun x => [], fun x => [], h1, ?_⟩
  rintro k ⟨H, hk⟩
  exact h2 k hk H
theorem impl_ClaimBook_settled.l0_lp {F : (Exit → St → Prop) → St → Prop} {hv : List Tmp} {Q : Exit → St → Prop} {σ : St} {r : Bool} {k : Nat} {a0_0 : List S_impl_ClaimFoe} {a0_1 : List S_impl_ClaimSpot} {a0_2 : List ByteArray} {a0_3 : List S_impl_ClaimPart} {a0_4 : Int} {a1_1 : Int} {a1_2 : List ByteArray} {a1_3 : List S_impl_ClaimUse} {x11 : Int} (H : impl_ClaimBook_settled.l0 k a0_0 a0_1 a0_2 a0_3 a0_4 a1_1 a1_2 a1_3 x11 = some r) (rn : List (Option Nat)) (h1 : Fits σ σ [] [(11, .int .i64 x11)] [] [] rn)
    (h2 : ∀ (k0 : Nat) (x11 : Int), k0 < k + 1 → impl_ClaimBook_settled.l0 k0 a0_0 a0_1 a0_2 a0_3 a0_4 a1_1 a1_2 a1_3 x11 = some r → headN σ hv [] [(11, .int .i64 x11)] [] [] (F (fun e σ' => match e with | .normal => ∃ (y : Nat × Int) (rn : List (Option Nat)), (impl_ClaimBook_settled.l0 y.1 a0_0 a0_1 a0_2 a0_3 a0_4 a1_1 a1_2 a1_3 y.2 = some r ∧ y.1 < k + 1) ∧ y.1 < k0 ∧ Fits σ σ' [] [(11, .int .i64 y.2)] [] [] rn | e => Q e σ'))) : Lp F hv Q σ := by
  unfold Lp
  refine ⟨Nat × Int, fun x => impl_ClaimBook_settled.l0 x.1 a0_0 a0_1 a0_2 a0_3 a0_4 a1_1 a1_2 a1_3 x.2 = some r ∧ x.1 < k + 1, fun x => x.1, [], fun x => [(11, .int .i64 x.2)], fun x => [], fun x => [], ⟨(k, x11), rn, ⟨H, Nat.lt_succ_self _⟩, h1⟩, ?_⟩
  rintro ⟨k, x11⟩ ⟨H, hk⟩
  exact h2 k x11 hk H
theorem impl_ClaimBook_settled.ac {k : Nat} {a0_0 : List S_impl_ClaimFoe} {a0_1 : List S_impl_ClaimSpot} {a0_2 : List ByteArray} {a0_3 : List S_impl_ClaimPart} {a0_4 : Int} {a1_0 : Int} {a1_1 : Int} {a1_2 : List ByteArray} {a1_3 : List S_impl_ClaimUse} {a1_4 : List ByteArray} {a1_5 : List ByteArray} {r : Bool} (H : impl_ClaimBook_settled.f k a0_0 a0_1 a0_2 a0_3 a0_4 a1_0 a1_1 a1_2 a1_3 a1_4 a1_5 = some r) : ACalls Tryz.prog G 66 [] [.agg [(sv_S_impl_ClaimFoe a0_0), (sv_S_impl_ClaimSpot a0_1), (sv_str a0_2), (sv_S_impl_ClaimPart a0_3), .int .i64 a0_4], .agg [.int .i64 a1_0, .int .i64 a1_1, (sv_str a1_2), (sv_S_impl_ClaimUse a1_3), (sv_str a1_4), (sv_str a1_5)]] [] (.bool r) := by
  refine acalls_of tok hP Tryz.func66 rfl (by kernel_rfl) [.tmp 4] rfl (by kernel_rfl) (Nat.le_of_ble_eq_true rfl) (.l .n (.l (.l .n (.l .n (.l .n (.j (.c .n (.l .n (.l (.c .n (.l (.c .n .n) .n)) (.l .n (.c .n .n))))) .n)))) .n)) rfl ?_
  unfold impl_ClaimBook_settled.f at H
  conv => whnf
  refine impl_ClaimBook_settled.l0_lp (a0_0 := a0_0) (a0_1 := a0_1) (a0_2 := a0_2) (a0_3 := a0_3) (a0_4 := a0_4) (a1_1 := a1_1) (a1_2 := a1_2) (a1_3 := a1_3) (k := k) H [] (fits_of ⟨.inl ⟨rfl, rfl⟩, trivial⟩ trivial fi_ trivial rfl) ?_
  intro k x11 hk H; rcases k with _ | k; exact none_elim H; rw [impl_ClaimBook_settled.l0] at H; conv => whnf
  refine br_d H (fun c H => ?_) (fun c H => ?_)
  conv => whnf
  refine impl_ClaimBook_settled.j0_sq (a0_0 := a0_0) (a0_1 := a0_1) (a0_2 := a0_2) (a0_3 := a0_3) (a0_4 := a0_4) (a1_1 := a1_1) (a1_2 := a1_2) (a1_3 := a1_3) (x11 := x11) (KK := k + 1) (r := r) ?_ ?_
  conv => whnf
  refine nd_ H (fun c H => ?_)
  conv => whnf
  refine Nd.mk nf_ ?_
  conv => whnf
  refine El.mk (rdm_en_S_impl_ClaimUse _ _ nf_ nf_) ?_
  conv => whnf
  refine cut_ 96 [(2, .bp 0 0), (3, .bp 8 0), (6, .bp 80 0), (9, (sv_S_impl_ClaimUse a1_3)), (10, .int .i64 (a1_3.length : Int)), (11, .int .i64 x11)] [(0, .box [(sv_S_impl_ClaimFoe a0_0), (sv_S_impl_ClaimSpot a0_1), (sv_str a0_2), (sv_S_impl_ClaimPart a0_3), .int .i64 a0_4]), (8, .box [.int .i64 a1_0, .int .i64 a1_1, (sv_str a1_2), (sv_S_impl_ClaimUse a1_3), (sv_str a1_4), (sv_str a1_5)]), (80, .box [.str ((rd_impl_ClaimUse a1_3 x11).f0), .int .i64 ((rd_impl_ClaimUse a1_3 x11).f1), .int .i64 ((rd_impl_ClaimUse a1_3 x11).f2)])] rfl ⟨.inl rfl, ⟨.inl rfl, ⟨.inl rfl, ⟨.inl rfl, ⟨.inl rfl, ⟨.inl rfl, trivial⟩⟩⟩⟩⟩⟩ ⟨rfl, ⟨rfl, ⟨rfl, trivial⟩⟩⟩ ?_
  conv => whnf
  revert H; refine bind_elim (fun t1783 A H => ?_)
  refine call_mk (impl_ClaimBook_spot.ac A) (avAL_cons (avA_agg (avL_cons (av_shut' rfl) (avL_cons (av_shut' rfl) (avL_cons (av_shut' rfl) (avL_cons (av_shut' rfl) (avL_cons (av_shut' rfl) (avL_nil))))))) (avAL_cons (avA_shut' rfl) (avAL_nil))) (Or.inl rfl) rfl rfl (Nat.le_of_ble_eq_true rfl) ?_
  conv => whnf
  refine nd_ H (fun c H => ?_)
  conv => whnf
  refine nd_ H (fun c H => ?_)
  conv => whnf
  refine El.mk (rdm_en_S_impl_ClaimSpot _ _ nf_ nf_) ?_
  conv => whnf
  refine br_d H (fun c H => ?_) (fun c H => ?_)
  conv => whnf
  refine Br.t ft_ ?_
  conv => whnf
  refine Br.t ft_ ?_
  conv => whnf
  refine Br.t ft_ ?_
  conv => whnf
  refine Br.t ft_ ?_
  conv => whnf
  refine Br.t ft_ ?_
  conv => whnf
  refine cut_ 320 [(2, .bp 0 0), (3, .bp 8 0), (6, .bp 80 0), (7, .bp 160 0), (9, (sv_S_impl_ClaimUse a1_3)), (10, .int .i64 (a1_3.length : Int)), (11, .int .i64 x11), (40, .bool true)] [(0, .box [(sv_S_impl_ClaimFoe a0_0), (sv_S_impl_ClaimSpot a0_1), (sv_str a0_2), (sv_S_impl_ClaimPart a0_3), .int .i64 a0_4]), (8, .box [.int .i64 a1_0, .int .i64 a1_1, (sv_str a1_2), (sv_S_impl_ClaimUse a1_3), (sv_str a1_4), (sv_str a1_5)]), (80, .box [.str ((rd_impl_ClaimUse a1_3 x11).f0), .int .i64 ((rd_impl_ClaimUse a1_3 x11).f1), .int .i64 ((rd_impl_ClaimUse a1_3 x11).f2)]), (160, .box [.str ((rd_impl_ClaimSpot a0_1 t1783).f0), .int .i64 ((rd_impl_ClaimSpot a0_1 t1783).f1), .int .i64 ((rd_impl_ClaimSpot a0_1 t1783).f2), .int .i64 ((rd_impl_ClaimSpot a0_1 t1783).f3), (sv_str ((rd_impl_ClaimSpot a0_1 t1783).f4))])] rfl ⟨.inl rfl, ⟨.inl rfl, ⟨.inl rfl, ⟨.inl rfl, ⟨.inl rfl, ⟨.inl rfl, ⟨.inl rfl, ⟨.inl rfl, trivial⟩⟩⟩⟩⟩⟩⟩⟩ ⟨rfl, ⟨rfl, ⟨rfl, ⟨rfl, trivial⟩⟩⟩⟩ ?_
  conv => whnf
  refine Br.t rfl ?_
  conv => whnf
  refine cut_ 328 [(4, .bool false)] [] rfl ⟨.inl rfl, trivial⟩ trivial ?_
  conv => whnf
  injection H with H; subst H
  exact ret_fz [] (rtA_eq rfl)
  conv => whnf
  refine Br.f ff_ ?_
  conv => whnf
  refine Br.f ff_ ?_
  conv => whnf
  refine Br.f ff_ ?_
  conv => whnf
  refine br_d H (fun c H => ?_) (fun c H => ?_)
  conv => whnf
  refine Br.t ft_ ?_
  conv => whnf
  refine Br.t ft_ ?_
  conv => whnf
  refine Br.f ff_ ?_
  conv => whnf
  refine Br.t ft_ ?_
  conv => whnf
  refine Br.f ff_ ?_
  conv => whnf
  refine cut_ 320 [(2, .bp 0 0), (3, .bp 8 0), (6, .bp 80 0), (7, .bp 160 0), (9, (sv_S_impl_ClaimUse a1_3)), (10, .int .i64 (a1_3.length : Int)), (11, .int .i64 x11), (40, .bool (!(decide (((rd_impl_ClaimSpot a0_1 t1783).f3) = 0))))] [(0, .box [(sv_S_impl_ClaimFoe a0_0), (sv_S_impl_ClaimSpot a0_1), (sv_str a0_2), (sv_S_impl_ClaimPart a0_3), .int .i64 a0_4]), (8, .box [.int .i64 a1_0, .int .i64 a1_1, (sv_str a1_2), (sv_S_impl_ClaimUse a1_3), (sv_str a1_4), (sv_str a1_5)]), (80, .box [.str ((rd_impl_ClaimUse a1_3 x11).f0), .int .i64 ((rd_impl_ClaimUse a1_3 x11).f1), .int .i64 ((rd_impl_ClaimUse a1_3 x11).f2)]), (160, .box [.str ((rd_impl_ClaimSpot a0_1 t1783).f0), .int .i64 ((rd_impl_ClaimSpot a0_1 t1783).f1), .int .i64 ((rd_impl_ClaimSpot a0_1 t1783).f2), .int .i64 ((rd_impl_ClaimSpot a0_1 t1783).f3), (sv_str ((rd_impl_ClaimSpot a0_1 t1783).f4))])] rfl ⟨.inl rfl, ⟨.inl rfl, ⟨.inl rfl, ⟨.inl rfl, ⟨.inl rfl, ⟨.inl rfl, ⟨.inl rfl, ⟨.inl rfl, trivial⟩⟩⟩⟩⟩⟩⟩⟩ ⟨rfl, ⟨rfl, ⟨rfl, ⟨rfl, trivial⟩⟩⟩⟩ ?_
  conv => whnf
  refine br_nd H (fun c H => ?_) (fun c H => ?_)
  conv => whnf
  refine br_nd H (fun c H => ?_) (fun c H => ?_)
  conv => whnf
  refine br_nd H (fun c H => ?_) (fun c H => ?_)
  conv => whnf
  refine Br.f ff_ ?_
  conv => whnf
  refine Br.f ff_ ?_
  conv => whnf
  refine Br.f ff_ ?_
  conv => whnf
  refine Br.f ff_ ?_
  conv => whnf
  refine Br.f ff_ ?_
  conv => whnf
  refine Br.f ff_ ?_
  conv => whnf
  refine Br.f rfl ?_
  conv => whnf
  refine Br.f rfl ?_
  conv => whnf
  refine Br.f rfl ?_
  conv => whnf
  refine Br.f rfl ?_
  conv => whnf
  refine br_nd H (fun c H => ?_) (fun c H => ?_)
  conv => whnf
  refine Br.f ff_ ?_
  conv => whnf
  refine Br.f ff_ ?_
  conv => whnf
  refine Br.f ff_ ?_
  conv => whnf
  refine Br.f ff_ ?_
  conv => whnf
  refine Br.f ff_ ?_
  conv => whnf
  refine Br.f rfl ?_
  conv => whnf
  refine Br.f ff_ ?_
  conv => whnf
  refine Br.f rfl ?_
  conv => whnf
  refine cut_ 536 [(2, .bp 0 0), (3, .bp 8 0), (9, (sv_S_impl_ClaimUse a1_3)), (10, .int .i64 (a1_3.length : Int)), (11, .int .i64 x11), (67, .bool false)] [(0, .box [(sv_S_impl_ClaimFoe a0_0), (sv_S_impl_ClaimSpot a0_1), (sv_str a0_2), (sv_S_impl_ClaimPart a0_3), .int .i64 a0_4]), (8, .box [.int .i64 a1_0, .int .i64 a1_1, (sv_str a1_2), (sv_S_impl_ClaimUse a1_3), (sv_str a1_4), (sv_str a1_5)])] rfl ⟨.inl rfl, ⟨.inl rfl, ⟨.inl rfl, ⟨.inl rfl, ⟨.inl rfl, ⟨.inl rfl, trivial⟩⟩⟩⟩⟩⟩ ⟨rfl, ⟨rfl, trivial⟩⟩ ?_
  conv => whnf
  refine Br.f rfl ?_
  conv => whnf
  exact ⟨k, [], ⟨H, lt_⟩, (fits_of trivial trivial fi_ trivial rfl)⟩
  conv => whnf
  refine Br.t ft_ ?_
  conv => whnf
  refine Br.t ft_ ?_
  conv => whnf
  refine Br.t ft_ ?_
  conv => whnf
  refine Br.t ft_ ?_
  conv => whnf
  revert H; refine bind_elim (fun t1784 A H => ?_)
  refine call_mk (impl_within.ac A) (avAL_cons (avA_shut' rfl) (avAL_cons (avA_shut' rfl) (avAL_nil))) (Or.inl rfl) rfl rfl (Nat.le_of_ble_eq_true rfl) ?_
  conv => whnf
  refine Br.t ft_ ?_
  conv => whnf
  refine Br.f rfl ?_
  conv => whnf
  refine Br.t ft_ ?_
  conv => whnf
  refine Br.f rfl ?_
  conv => whnf
  refine cut_ 536 [(2, .bp 0 0), (3, .bp 8 0), (9, (sv_S_impl_ClaimUse a1_3)), (10, .int .i64 (a1_3.length : Int)), (11, .int .i64 x11), (67, .bool (!t1784))] [(0, .box [(sv_S_impl_ClaimFoe a0_0), (sv_S_impl_ClaimSpot a0_1), (sv_str a0_2), (sv_S_impl_ClaimPart a0_3), .int .i64 a0_4]), (8, .box [.int .i64 a1_0, .int .i64 a1_1, (sv_str a1_2), (sv_S_impl_ClaimUse a1_3), (sv_str a1_4), (sv_str a1_5)])] rfl ⟨.inl rfl, ⟨.inl rfl, ⟨.inl rfl, ⟨.inl rfl, ⟨.inl rfl, ⟨.inl rfl, trivial⟩⟩⟩⟩⟩⟩ ⟨rfl, ⟨rfl, trivial⟩⟩ ?_
  conv => whnf
  refine br_nt H (fun c H => ?_) (fun c H => ?_)
  conv => whnf
  exact ⟨k, [], ⟨H, lt_⟩, (fits_of trivial trivial fi_ trivial rfl)⟩
  conv => whnf
  injection H with H; subst H
  exact ret_fz [] (rtA_eq rfl)
  conv => whnf
  refine Br.t ft_ ?_
  conv => whnf
  refine Br.t ft_ ?_
  conv => whnf
  refine Br.t ft_ ?_
  conv => whnf
  refine Br.t ft_ ?_
  conv => whnf
  revert H; refine bind_elim (fun t1785 A H => ?_)
  refine call_mk (impl_within.ac A) (avAL_cons (avA_shut' rfl) (avAL_cons (avA_shut' rfl) (avAL_nil))) (Or.inl rfl) rfl rfl (Nat.le_of_ble_eq_true rfl) ?_
  conv => whnf
  refine Br.t ft_ ?_
  conv => whnf
  refine Br.t ft_ ?_
  conv => whnf
  refine br_nt H (fun c H => ?_) (fun c H => ?_)
  conv => whnf
  refine Br.f ff_ ?_
  conv => whnf
  refine Br.f ff_ ?_
  conv => whnf
  refine Br.f ff_ ?_
  conv => whnf
  refine br_nd H (fun c H => ?_) (fun c H => ?_)
  conv => whnf
  refine Br.f ff_ ?_
  conv => whnf
  refine Br.f ff_ ?_
  conv => whnf
  refine Br.f ff_ ?_
  conv => whnf
  refine Br.f ff_ ?_
  conv => whnf
  refine Br.f ff_ ?_
  conv => whnf
  refine Br.f ff_ ?_
  conv => whnf
  refine Br.f ff_ ?_
  conv => whnf
  refine Br.f ff_ ?_
  conv => whnf
  refine cut_ 536 [(2, .bp 0 0), (3, .bp 8 0), (9, (sv_S_impl_ClaimUse a1_3)), (10, .int .i64 (a1_3.length : Int)), (11, .int .i64 x11), (67, .bool false)] [(0, .box [(sv_S_impl_ClaimFoe a0_0), (sv_S_impl_ClaimSpot a0_1), (sv_str a0_2), (sv_S_impl_ClaimPart a0_3), .int .i64 a0_4]), (8, .box [.int .i64 a1_0, .int .i64 a1_1, (sv_str a1_2), (sv_S_impl_ClaimUse a1_3), (sv_str a1_4), (sv_str a1_5)])] rfl ⟨.inl rfl, ⟨.inl rfl, ⟨.inl rfl, ⟨.inl rfl, ⟨.inl rfl, ⟨.inl rfl, trivial⟩⟩⟩⟩⟩⟩ ⟨rfl, ⟨rfl, trivial⟩⟩ ?_
  conv => whnf
  refine Br.f rfl ?_
  conv => whnf
  exact ⟨k, [], ⟨H, lt_⟩, (fits_of trivial trivial fi_ trivial rfl)⟩
  conv => whnf
  refine Br.t ft_ ?_
  conv => whnf
  refine Br.t ft_ ?_
  conv => whnf
  refine Br.t ft_ ?_
  conv => whnf
  refine Br.t ft_ ?_
  conv => whnf
  revert H; refine bind_elim (fun t1786 A H => ?_)
  refine call_mk (impl_within.ac A) (avAL_cons (avA_shut' rfl) (avAL_cons (avA_shut' rfl) (avAL_nil))) (Or.inl rfl) rfl rfl (Nat.le_of_ble_eq_true rfl) ?_
  conv => whnf
  refine Br.t ft_ ?_
  conv => whnf
  refine Br.f ff_ ?_
  conv => whnf
  refine Br.t ft_ ?_
  conv => whnf
  refine Br.f ff_ ?_
  conv => whnf
  refine cut_ 536 [(2, .bp 0 0), (3, .bp 8 0), (9, (sv_S_impl_ClaimUse a1_3)), (10, .int .i64 (a1_3.length : Int)), (11, .int .i64 x11), (67, .bool (!t1786))] [(0, .box [(sv_S_impl_ClaimFoe a0_0), (sv_S_impl_ClaimSpot a0_1), (sv_str a0_2), (sv_S_impl_ClaimPart a0_3), .int .i64 a0_4]), (8, .box [.int .i64 a1_0, .int .i64 a1_1, (sv_str a1_2), (sv_S_impl_ClaimUse a1_3), (sv_str a1_4), (sv_str a1_5)])] rfl ⟨.inl rfl, ⟨.inl rfl, ⟨.inl rfl, ⟨.inl rfl, ⟨.inl rfl, ⟨.inl rfl, trivial⟩⟩⟩⟩⟩⟩ ⟨rfl, ⟨rfl, trivial⟩⟩ ?_
  conv => whnf
  refine br_nt H (fun c H => ?_) (fun c H => ?_)
  conv => whnf
  exact ⟨k, [], ⟨H, lt_⟩, (fits_of trivial trivial fi_ trivial rfl)⟩
  conv => whnf
  injection H with H; subst H
  exact ret_fz [] (rtA_eq rfl)
  conv => whnf
  refine Br.t ft_ ?_
  conv => whnf
  refine Br.t ft_ ?_
  conv => whnf
  refine Br.t ft_ ?_
  conv => whnf
  refine Br.t ft_ ?_
  conv => whnf
  refine Br.t ft_ ?_
  conv => whnf
  refine cut_ 536 [(2, .bp 0 0), (3, .bp 8 0), (9, (sv_S_impl_ClaimUse a1_3)), (10, .int .i64 (a1_3.length : Int)), (11, .int .i64 x11), (67, .bool true)] [(0, .box [(sv_S_impl_ClaimFoe a0_0), (sv_S_impl_ClaimSpot a0_1), (sv_str a0_2), (sv_S_impl_ClaimPart a0_3), .int .i64 a0_4]), (8, .box [.int .i64 a1_0, .int .i64 a1_1, (sv_str a1_2), (sv_S_impl_ClaimUse a1_3), (sv_str a1_4), (sv_str a1_5)])] rfl ⟨.inl rfl, ⟨.inl rfl, ⟨.inl rfl, ⟨.inl rfl, ⟨.inl rfl, ⟨.inl rfl, trivial⟩⟩⟩⟩⟩⟩ ⟨rfl, ⟨rfl, trivial⟩⟩ ?_
  conv => whnf
  refine Br.t rfl ?_
  conv => whnf
  injection H with H; subst H
  exact ret_fz [] (rtA_eq rfl)
  conv => whnf
  exact ⟨k, [], ⟨H, lt_⟩, (fits_of trivial trivial fi_ trivial rfl)⟩
  conv => whnf
  refine cut_ 328 [(4, .bool false)] [] rfl ⟨.inl rfl, trivial⟩ trivial ?_
  conv => whnf
  injection H with H; subst H
  exact ret_fz [] (rtA_eq rfl)
  conv => whnf
  refine Br.f ff_ ?_
  conv => whnf
  refine Br.f ff_ ?_
  conv => whnf
  refine Br.f ff_ ?_
  conv => whnf
  refine Br.f ff_ ?_
  conv => whnf
  refine Br.f ff_ ?_
  conv => whnf
  refine cut_ 320 [(2, .bp 0 0), (3, .bp 8 0), (6, .bp 80 0), (7, .bp 160 0), (9, (sv_S_impl_ClaimUse a1_3)), (10, .int .i64 (a1_3.length : Int)), (11, .int .i64 x11), (40, .bool false)] [(0, .box [(sv_S_impl_ClaimFoe a0_0), (sv_S_impl_ClaimSpot a0_1), (sv_str a0_2), (sv_S_impl_ClaimPart a0_3), .int .i64 a0_4]), (8, .box [.int .i64 a1_0, .int .i64 a1_1, (sv_str a1_2), (sv_S_impl_ClaimUse a1_3), (sv_str a1_4), (sv_str a1_5)]), (80, .box [.str ((rd_impl_ClaimUse a1_3 x11).f0), .int .i64 ((rd_impl_ClaimUse a1_3 x11).f1), .int .i64 ((rd_impl_ClaimUse a1_3 x11).f2)]), (160, .box [.str ((rd_impl_ClaimSpot a0_1 t1783).f0), .int .i64 ((rd_impl_ClaimSpot a0_1 t1783).f1), .int .i64 ((rd_impl_ClaimSpot a0_1 t1783).f2), .int .i64 ((rd_impl_ClaimSpot a0_1 t1783).f3), (sv_str ((rd_impl_ClaimSpot a0_1 t1783).f4))])] rfl ⟨.inl rfl, ⟨.inl rfl, ⟨.inl rfl, ⟨.inl rfl, ⟨.inl rfl, ⟨.inl rfl, ⟨.inl rfl, ⟨.inl rfl, trivial⟩⟩⟩⟩⟩⟩⟩⟩ ⟨rfl, ⟨rfl, ⟨rfl, ⟨rfl, trivial⟩⟩⟩⟩ ?_
  conv => whnf
  refine Br.f rfl ?_
  conv => whnf
  refine br_nd H (fun c H => ?_) (fun c H => ?_)
  conv => whnf
  refine br_nd H (fun c H => ?_) (fun c H => ?_)
  conv => whnf
  refine Br.f ff_ ?_
  conv => whnf
  refine Br.f ff_ ?_
  conv => whnf
  refine Br.f ff_ ?_
  conv => whnf
  refine Br.f ff_ ?_
  conv => whnf
  refine Br.f ff_ ?_
  conv => whnf
  refine Br.f ff_ ?_
  conv => whnf
  refine Br.f rfl ?_
  conv => whnf
  refine Br.f rfl ?_
  conv => whnf
  refine Br.f rfl ?_
  conv => whnf
  refine Br.f rfl ?_
  conv => whnf
  refine br_nd H (fun c H => ?_) (fun c H => ?_)
  conv => whnf
  refine Br.f ff_ ?_
  conv => whnf
  refine Br.f ff_ ?_
  conv => whnf
  refine Br.f ff_ ?_
  conv => whnf
  refine Br.f ff_ ?_
  conv => whnf
  refine Br.f ff_ ?_
  conv => whnf
  refine Br.f rfl ?_
  conv => whnf
  refine Br.f ff_ ?_
  conv => whnf
  refine Br.f rfl ?_
  conv => whnf
  refine cut_ 536 [(2, .bp 0 0), (3, .bp 8 0), (9, (sv_S_impl_ClaimUse a1_3)), (10, .int .i64 (a1_3.length : Int)), (11, .int .i64 x11), (67, .bool false)] [(0, .box [(sv_S_impl_ClaimFoe a0_0), (sv_S_impl_ClaimSpot a0_1), (sv_str a0_2), (sv_S_impl_ClaimPart a0_3), .int .i64 a0_4]), (8, .box [.int .i64 a1_0, .int .i64 a1_1, (sv_str a1_2), (sv_S_impl_ClaimUse a1_3), (sv_str a1_4), (sv_str a1_5)])] rfl ⟨.inl rfl, ⟨.inl rfl, ⟨.inl rfl, ⟨.inl rfl, ⟨.inl rfl, ⟨.inl rfl, trivial⟩⟩⟩⟩⟩⟩ ⟨rfl, ⟨rfl, trivial⟩⟩ ?_
  conv => whnf
  refine Br.f rfl ?_
  conv => whnf
  exact ⟨k, [], ⟨H, lt_⟩, (fits_of trivial trivial fi_ trivial rfl)⟩
  conv => whnf
  refine Br.t ft_ ?_
  conv => whnf
  refine Br.t ft_ ?_
  conv => whnf
  refine Br.t ft_ ?_
  conv => whnf
  refine Br.t ft_ ?_
  conv => whnf
  revert H; refine bind_elim (fun t1787 A H => ?_)
  refine call_mk (impl_within.ac A) (avAL_cons (avA_shut' rfl) (avAL_cons (avA_shut' rfl) (avAL_nil))) (Or.inl rfl) rfl rfl (Nat.le_of_ble_eq_true rfl) ?_
  conv => whnf
  refine Br.t ft_ ?_
  conv => whnf
  refine Br.f rfl ?_
  conv => whnf
  refine Br.t ft_ ?_
  conv => whnf
  refine Br.f rfl ?_
  conv => whnf
  refine cut_ 536 [(2, .bp 0 0), (3, .bp 8 0), (9, (sv_S_impl_ClaimUse a1_3)), (10, .int .i64 (a1_3.length : Int)), (11, .int .i64 x11), (67, .bool (!t1787))] [(0, .box [(sv_S_impl_ClaimFoe a0_0), (sv_S_impl_ClaimSpot a0_1), (sv_str a0_2), (sv_S_impl_ClaimPart a0_3), .int .i64 a0_4]), (8, .box [.int .i64 a1_0, .int .i64 a1_1, (sv_str a1_2), (sv_S_impl_ClaimUse a1_3), (sv_str a1_4), (sv_str a1_5)])] rfl ⟨.inl rfl, ⟨.inl rfl, ⟨.inl rfl, ⟨.inl rfl, ⟨.inl rfl, ⟨.inl rfl, trivial⟩⟩⟩⟩⟩⟩ ⟨rfl, ⟨rfl, trivial⟩⟩ ?_
  conv => whnf
  refine br_nt H (fun c H => ?_) (fun c H => ?_)
  conv => whnf
  exact ⟨k, [], ⟨H, lt_⟩, (fits_of trivial trivial fi_ trivial rfl)⟩
  conv => whnf
  injection H with H; subst H
  exact ret_fz [] (rtA_eq rfl)
  conv => whnf
  refine Br.t ft_ ?_
  conv => whnf
  refine Br.t ft_ ?_
  conv => whnf
  refine Br.t ft_ ?_
  conv => whnf
  refine Br.t ft_ ?_
  conv => whnf
  revert H; refine bind_elim (fun t1788 A H => ?_)
  refine call_mk (impl_within.ac A) (avAL_cons (avA_shut' rfl) (avAL_cons (avA_shut' rfl) (avAL_nil))) (Or.inl rfl) rfl rfl (Nat.le_of_ble_eq_true rfl) ?_
  conv => whnf
  refine Br.t ft_ ?_
  conv => whnf
  refine Br.t ft_ ?_
  conv => whnf
  refine br_nt H (fun c H => ?_) (fun c H => ?_)
  conv => whnf
  refine Br.f ff_ ?_
  conv => whnf
  refine Br.f ff_ ?_
  conv => whnf
  refine Br.f ff_ ?_
  conv => whnf
  refine br_nd H (fun c H => ?_) (fun c H => ?_)
  conv => whnf
  refine Br.f ff_ ?_
  conv => whnf
  refine Br.f ff_ ?_
  conv => whnf
  refine Br.f ff_ ?_
  conv => whnf
  refine Br.f ff_ ?_
  conv => whnf
  refine Br.f ff_ ?_
  conv => whnf
  refine Br.f ff_ ?_
  conv => whnf
  refine Br.f ff_ ?_
  conv => whnf
  refine Br.f ff_ ?_
  conv => whnf
  refine cut_ 536 [(2, .bp 0 0), (3, .bp 8 0), (9, (sv_S_impl_ClaimUse a1_3)), (10, .int .i64 (a1_3.length : Int)), (11, .int .i64 x11), (67, .bool false)] [(0, .box [(sv_S_impl_ClaimFoe a0_0), (sv_S_impl_ClaimSpot a0_1), (sv_str a0_2), (sv_S_impl_ClaimPart a0_3), .int .i64 a0_4]), (8, .box [.int .i64 a1_0, .int .i64 a1_1, (sv_str a1_2), (sv_S_impl_ClaimUse a1_3), (sv_str a1_4), (sv_str a1_5)])] rfl ⟨.inl rfl, ⟨.inl rfl, ⟨.inl rfl, ⟨.inl rfl, ⟨.inl rfl, ⟨.inl rfl, trivial⟩⟩⟩⟩⟩⟩ ⟨rfl, ⟨rfl, trivial⟩⟩ ?_
  conv => whnf
  refine Br.f rfl ?_
  conv => whnf
  exact ⟨k, [], ⟨H, lt_⟩, (fits_of trivial trivial fi_ trivial rfl)⟩
  conv => whnf
  refine Br.t ft_ ?_
  conv => whnf
  refine Br.t ft_ ?_
  conv => whnf
  refine Br.t ft_ ?_
  conv => whnf
  refine Br.t ft_ ?_
  conv => whnf
  revert H; refine bind_elim (fun t1789 A H => ?_)
  refine call_mk (impl_within.ac A) (avAL_cons (avA_shut' rfl) (avAL_cons (avA_shut' rfl) (avAL_nil))) (Or.inl rfl) rfl rfl (Nat.le_of_ble_eq_true rfl) ?_
  conv => whnf
  refine Br.t ft_ ?_
  conv => whnf
  refine Br.f ff_ ?_
  conv => whnf
  refine Br.t ft_ ?_
  conv => whnf
  refine Br.f ff_ ?_
  conv => whnf
  refine cut_ 536 [(2, .bp 0 0), (3, .bp 8 0), (9, (sv_S_impl_ClaimUse a1_3)), (10, .int .i64 (a1_3.length : Int)), (11, .int .i64 x11), (67, .bool (!t1789))] [(0, .box [(sv_S_impl_ClaimFoe a0_0), (sv_S_impl_ClaimSpot a0_1), (sv_str a0_2), (sv_S_impl_ClaimPart a0_3), .int .i64 a0_4]), (8, .box [.int .i64 a1_0, .int .i64 a1_1, (sv_str a1_2), (sv_S_impl_ClaimUse a1_3), (sv_str a1_4), (sv_str a1_5)])] rfl ⟨.inl rfl, ⟨.inl rfl, ⟨.inl rfl, ⟨.inl rfl, ⟨.inl rfl, ⟨.inl rfl, trivial⟩⟩⟩⟩⟩⟩ ⟨rfl, ⟨rfl, trivial⟩⟩ ?_
  conv => whnf
  refine br_nt H (fun c H => ?_) (fun c H => ?_)
  conv => whnf
  exact ⟨k, [], ⟨H, lt_⟩, (fits_of trivial trivial fi_ trivial rfl)⟩
  conv => whnf
  injection H with H; subst H
  exact ret_fz [] (rtA_eq rfl)
  conv => whnf
  refine Br.t ft_ ?_
  conv => whnf
  refine Br.t ft_ ?_
  conv => whnf
  refine Br.t ft_ ?_
  conv => whnf
  refine Br.t ft_ ?_
  conv => whnf
  refine Br.t ft_ ?_
  conv => whnf
  refine cut_ 536 [(2, .bp 0 0), (3, .bp 8 0), (9, (sv_S_impl_ClaimUse a1_3)), (10, .int .i64 (a1_3.length : Int)), (11, .int .i64 x11), (67, .bool true)] [(0, .box [(sv_S_impl_ClaimFoe a0_0), (sv_S_impl_ClaimSpot a0_1), (sv_str a0_2), (sv_S_impl_ClaimPart a0_3), .int .i64 a0_4]), (8, .box [.int .i64 a1_0, .int .i64 a1_1, (sv_str a1_2), (sv_S_impl_ClaimUse a1_3), (sv_str a1_4), (sv_str a1_5)])] rfl ⟨.inl rfl, ⟨.inl rfl, ⟨.inl rfl, ⟨.inl rfl, ⟨.inl rfl, ⟨.inl rfl, trivial⟩⟩⟩⟩⟩⟩ ⟨rfl, ⟨rfl, trivial⟩⟩ ?_
  conv => whnf
  refine Br.t rfl ?_
  conv => whnf
  injection H with H; subst H
  exact ret_fz [] (rtA_eq rfl)
  conv => whnf
  exact ⟨k, [], ⟨H, lt_⟩, (fits_of trivial trivial fi_ trivial rfl)⟩
  intro k hk H; rcases k with _ | k; exact none_elim H; rw [impl_ClaimBook_settled.j0] at H; conv => whnf
  exact ⟨(k, wrap64 (x11 + 1)), [], ⟨H, lt_⟩, lt_, (fits_of ⟨.inl ⟨rfl, rfl⟩, trivial⟩ trivial fi_ trivial rfl)⟩
  conv => whnf
  injection H with H; subst H
  exact ret_fz [] (rtA_eq rfl)
theorem impl_shareUse.l1_lp {F : (Exit → St → Prop) → St → Prop} {hv : List Tmp} {Q : Exit → St → Prop} {σ : St} {r : Bool} {k : Nat} {a0_3 : List S_impl_ClaimUse} {a1_3 : List S_impl_ClaimUse} {x12 : Int} {x19 : Int} (H : impl_shareUse.l1 k a0_3 a1_3 x12 x19 = some r) (rn : List (Option Nat)) (h1 : Fits σ σ [] [(19, .int .i64 x19)] [] [] rn)
    (h2 : ∀ (k0 : Nat) (x19 : Int), k0 < k + 1 → impl_shareUse.l1 k0 a0_3 a1_3 x12 x19 = some r → headN σ hv [] [(19, .int .i64 x19)] [] [] (F (fun e σ' => match e with | .normal => ∃ (y : Nat × Int) (rn : List (Option Nat)), (impl_shareUse.l1 y.1 a0_3 a1_3 x12 y.2 = some r ∧ y.1 < k + 1) ∧ y.1 < k0 ∧ Fits σ σ' [] [(19, .int .i64 y.2)] [] [] rn | e => Q e σ'))) : Lp F hv Q σ := by
  unfold Lp
  refine ⟨Nat × Int, fun x => impl_shareUse.l1 x.1 a0_3 a1_3 x12 x.2 = some r ∧ x.1 < k + 1, fun x => x.1, [], fun x => [(19, .int .i64 x.2)], fun x => [], fun x => [], ⟨(k, x19), rn, ⟨H, Nat.lt_succ_self _⟩, h1⟩, ?_⟩
  rintro ⟨k, x19⟩ ⟨H, hk⟩
  exact h2 k x19 hk H
theorem impl_shareUse.l0_lp {F : (Exit → St → Prop) → St → Prop} {hv : List Tmp} {Q : Exit → St → Prop} {σ : St} {r : Bool} {k : Nat} {a0_3 : List S_impl_ClaimUse} {a1_3 : List S_impl_ClaimUse} {x12 : Int} (H : impl_shareUse.l0 k a0_3 a1_3 x12 = some r) (rn : List (Option Nat)) (h1 : Fits σ σ [0] [(12, .int .i64 x12)] [] [] rn)
    (h2 : ∀ (k0 : Nat) (x12 : Int), k0 < k + 1 → impl_shareUse.l0 k0 a0_3 a1_3 x12 = some r → headN σ hv [0] [(12, .int .i64 x12)] [] [] (F (fun e σ' => match e with | .normal => ∃ (y : Nat × Int) (rn : List (Option Nat)), (impl_shareUse.l0 y.1 a0_3 a1_3 y.2 = some r ∧ y.1 < k + 1) ∧ y.1 < k0 ∧ Fits σ σ' [0] [(12, .int .i64 y.2)] [] [] rn | e => Q e σ'))) : Lp F hv Q σ := by
  unfold Lp
  refine ⟨Nat × Int, fun x => impl_shareUse.l0 x.1 a0_3 a1_3 x.2 = some r ∧ x.1 < k + 1, fun x => x.1, [0], fun x => [(12, .int .i64 x.2)], fun x => [], fun x => [], ⟨(k, x12), rn, ⟨H, Nat.lt_succ_self _⟩, h1⟩, ?_⟩
  rintro ⟨k, x12⟩ ⟨H, hk⟩
  exact h2 k x12 hk H
theorem impl_shareUse.ac {k : Nat} {a0_0 : Int} {a0_1 : Int} {a0_2 : List ByteArray} {a0_3 : List S_impl_ClaimUse} {a0_4 : List ByteArray} {a0_5 : List ByteArray} {a1_0 : Int} {a1_1 : Int} {a1_2 : List ByteArray} {a1_3 : List S_impl_ClaimUse} {a1_4 : List ByteArray} {a1_5 : List ByteArray} {r : Bool} (H : impl_shareUse.f k a0_0 a0_1 a0_2 a0_3 a0_4 a0_5 a1_0 a1_1 a1_2 a1_3 a1_4 a1_5 = some r) : ACalls Tryz.prog G 67 [] [.agg [.int .i64 a0_0, .int .i64 a0_1, (sv_str a0_2), (sv_S_impl_ClaimUse a0_3), (sv_str a0_4), (sv_str a0_5)], .agg [.int .i64 a1_0, .int .i64 a1_1, (sv_str a1_2), (sv_S_impl_ClaimUse a1_3), (sv_str a1_4), (sv_str a1_5)]] [] (.bool r) := by
  refine acalls_of tok hP Tryz.func67 rfl (by kernel_rfl) [.tmp 4] rfl (by kernel_rfl) (Nat.le_of_ble_eq_true rfl) (.l .n (.l (.l .n (.l .n (.l .n (.l (.c .n (.l .n (.l .n (.l .n (.l (.l .n (.c .n .n)) .n))))) .n)))) .n)) rfl ?_
  unfold impl_shareUse.f at H
  conv => whnf
  refine impl_shareUse.l0_lp (a0_3 := a0_3) (a1_3 := a1_3) (k := k) H [] (fits_of ⟨.inl ⟨rfl, rfl⟩, trivial⟩ trivial fi_ trivial rfl) ?_
  intro k x12 hk H; rcases k with _ | k; exact none_elim H; rw [impl_shareUse.l0] at H; conv => whnf
  refine br_d H (fun c H => ?_) (fun c H => ?_)
  conv => whnf
  refine nd_ H (fun c H => ?_)
  conv => whnf
  refine Nd.mk nf_ ?_
  conv => whnf
  refine El.mk (rdm_en_S_impl_ClaimUse _ _ nf_ nf_) ?_
  conv => whnf
  refine cut_ 96 [(3, .bp 8 0), (6, .bp 80 0), (10, (sv_S_impl_ClaimUse a0_3)), (11, .int .i64 (a0_3.length : Int)), (12, .int .i64 x12)] [(8, .box [.int .i64 a1_0, .int .i64 a1_1, (sv_str a1_2), (sv_S_impl_ClaimUse a1_3), (sv_str a1_4), (sv_str a1_5)]), (80, .box [.str ((rd_impl_ClaimUse a0_3 x12).f0), .int .i64 ((rd_impl_ClaimUse a0_3 x12).f1), .int .i64 ((rd_impl_ClaimUse a0_3 x12).f2)])] rfl ⟨.inl rfl, ⟨.inl rfl, ⟨.inl rfl, ⟨.inl rfl, ⟨.inl rfl, trivial⟩⟩⟩⟩⟩ ⟨rfl, ⟨rfl, trivial⟩⟩ ?_
  conv => whnf
  refine impl_shareUse.l1_lp (a0_3 := a0_3) (a1_3 := a1_3) (x12 := x12) (k := k) H [] (fits_of ⟨.inl ⟨rfl, rfl⟩, trivial⟩ trivial fi_ trivial rfl) ?_
  intro k x19 hk H; rcases k with _ | k; exact none_elim H; rw [impl_shareUse.l1] at H; conv => whnf
  refine br_d H (fun c H => ?_) (fun c H => ?_)
  conv => whnf
  refine nd_ H (fun c H => ?_)
  conv => whnf
  refine Nd.mk nf_ ?_
  conv => whnf
  refine El.mk (rdm_en_S_impl_ClaimUse _ _ nf_ nf_) ?_
  conv => whnf
  refine cut_ 208 [(3, .bp 8 0), (6, .bp 80 0), (10, (sv_S_impl_ClaimUse a0_3)), (11, .int .i64 (a0_3.length : Int)), (12, .int .i64 x12), (17, (sv_S_impl_ClaimUse a1_3)), (18, .int .i64 (a1_3.length : Int)), (19, .int .i64 x19), (27, .bool (decide (((rd_impl_ClaimUse a0_3 x12).f0).toList = ((rd_impl_ClaimUse a1_3 x19).f0).toList)))] [(8, .box [.int .i64 a1_0, .int .i64 a1_1, (sv_str a1_2), (sv_S_impl_ClaimUse a1_3), (sv_str a1_4), (sv_str a1_5)]), (80, .box [.str ((rd_impl_ClaimUse a0_3 x12).f0), .int .i64 ((rd_impl_ClaimUse a0_3 x12).f1), .int .i64 ((rd_impl_ClaimUse a0_3 x12).f2)])] rfl ⟨.inl rfl, ⟨.inl rfl, ⟨.inl rfl, ⟨.inl rfl, ⟨.inl rfl, ⟨.inl rfl, ⟨.inl rfl, ⟨.inl rfl, ⟨.inl rfl, trivial⟩⟩⟩⟩⟩⟩⟩⟩⟩ ⟨rfl, ⟨rfl, trivial⟩⟩ ?_
  conv => whnf
  refine br_d H (fun c H => ?_) (fun c H => ?_)
  conv => whnf
  injection H with H; subst H
  exact ret_fz [] (rtA_eq rfl)
  conv => whnf
  exact ⟨(k, wrap64 (x19 + 1)), [], ⟨H, lt_⟩, lt_, (fits_of ⟨.inl ⟨rfl, rfl⟩, trivial⟩ trivial fi_ trivial rfl)⟩
  conv => whnf
  exact ⟨(k, wrap64 (x12 + 1)), [], ⟨H, lt_⟩, lt_, (fits_of ⟨.inl ⟨rfl, rfl⟩, trivial⟩ trivial fi_ trivial rfl)⟩
  conv => whnf
  injection H with H; subst H
  exact ret_fz [] (rtA_eq rfl)
theorem impl_crosses_1.l0_lp {F : (Exit → St → Prop) → St → Prop} {hv : List Tmp} {Q : Exit → St → Prop} {σ : St} {r : Bool} {k : Nat} {a0_4 : List ByteArray} {a1_4 : List ByteArray} {a1_5 : List ByteArray} {x10 : Int} (H : impl_crosses_1.l0 k a0_4 a1_4 a1_5 x10 = some r) (rn : List (Option Nat)) (h1 : Fits σ σ [0] [(10, .int .i64 x10)] [] [] rn)
    (h2 : ∀ (k0 : Nat) (x10 : Int), k0 < k + 1 → impl_crosses_1.l0 k0 a0_4 a1_4 a1_5 x10 = some r → headN σ hv [0] [(10, .int .i64 x10)] [] [] (F (fun e σ' => match e with | .normal => ∃ (y : Nat × Int) (rn : List (Option Nat)), (impl_crosses_1.l0 y.1 a0_4 a1_4 a1_5 y.2 = some r ∧ y.1 < k + 1) ∧ y.1 < k0 ∧ Fits σ σ' [0] [(10, .int .i64 y.2)] [] [] rn | e => Q e σ'))) : Lp F hv Q σ := by
  unfold Lp
  refine ⟨Nat × Int, fun x => impl_crosses_1.l0 x.1 a0_4 a1_4 a1_5 x.2 = some r ∧ x.1 < k + 1, fun x => x.1, [0], fun x => [(10, .int .i64 x.2)], fun x => [], fun x => [], ⟨(k, x10), rn, ⟨H, Nat.lt_succ_self _⟩, h1⟩, ?_⟩
  rintro ⟨k, x10⟩ ⟨H, hk⟩
  exact h2 k x10 hk H
theorem impl_crosses_1.ac {k : Nat} {a0_0 : Int} {a0_1 : Int} {a0_2 : List ByteArray} {a0_3 : List S_impl_ClaimUse} {a0_4 : List ByteArray} {a0_5 : List ByteArray} {a1_0 : Int} {a1_1 : Int} {a1_2 : List ByteArray} {a1_3 : List S_impl_ClaimUse} {a1_4 : List ByteArray} {a1_5 : List ByteArray} {r : Bool} (H : impl_crosses_1.f k a0_0 a0_1 a0_2 a0_3 a0_4 a0_5 a1_0 a1_1 a1_2 a1_3 a1_4 a1_5 = some r) : ACalls Tryz.prog G 84 [] [.agg [.int .i64 a0_0, .int .i64 a0_1, (sv_str a0_2), (sv_S_impl_ClaimUse a0_3), (sv_str a0_4), (sv_str a0_5)], .agg [.int .i64 a1_0, .int .i64 a1_1, (sv_str a1_2), (sv_S_impl_ClaimUse a1_3), (sv_str a1_4), (sv_str a1_5)]] [] (.bool r) := by
  refine acalls_of tok hP Tryz.func84 rfl (by kernel_rfl) [.tmp 4] rfl (by kernel_rfl) (Nat.le_of_ble_eq_true rfl) (.l .n (.l (.l .n (.l .n (.l .n (.l (.c .n (.c .n (.l (.c .n .n) .n))) .n)))) .n)) rfl ?_
  unfold impl_crosses_1.f at H
  conv => whnf
  refine impl_crosses_1.l0_lp (a0_4 := a0_4) (a1_4 := a1_4) (a1_5 := a1_5) (k := k) H [] (fits_of ⟨.inl ⟨rfl, rfl⟩, trivial⟩ trivial fi_ trivial rfl) ?_
  intro k x10 hk H; rcases k with _ | k; exact none_elim H; rw [impl_crosses_1.l0] at H; conv => whnf
  refine br_d H (fun c H => ?_) (fun c H => ?_)
  conv => whnf
  refine nd_ H (fun c H => ?_)
  conv => whnf
  refine Nd.mk nf_ ?_
  conv => whnf
  refine El.mk (rdm_en_str _ _ nf_ nf_) ?_
  conv => whnf
  refine cut_ 88 [(3, .bp 8 0), (6, .str (rdOf ByteArray.empty a0_4 x10)), (8, (sv_str a0_4)), (9, .int .i64 (a0_4.length : Int)), (10, .int .i64 x10)] [(8, .box [.int .i64 a1_0, .int .i64 a1_1, (sv_str a1_2), (sv_S_impl_ClaimUse a1_3), (sv_str a1_4), (sv_str a1_5)])] rfl ⟨.inl rfl, ⟨.inl rfl, ⟨.inl rfl, ⟨.inl rfl, ⟨.inl rfl, trivial⟩⟩⟩⟩⟩ ⟨rfl, trivial⟩ ?_
  conv => whnf
  revert H; refine bind_elim (fun t1994 A H => ?_)
  refine call_mk (impl_has.ac A) (avAL_cons (avA_shut' rfl) (avAL_cons (avA_shut' rfl) (avAL_nil))) (Or.inl rfl) rfl rfl (Nat.le_of_ble_eq_true rfl) ?_
  conv => whnf
  refine br_t H (fun c H => ?_) (fun c H => ?_)
  conv => whnf
  refine Br.t ft_ ?_
  conv => whnf
  refine Br.t ft_ ?_
  conv => whnf
  refine Br.t ft_ ?_
  conv => whnf
  refine Br.t ft_ ?_
  conv => whnf
  refine cut_ 168 [(3, .bp 8 0), (8, (sv_str a0_4)), (9, .int .i64 (a0_4.length : Int)), (10, .int .i64 x10), (23, .bool true)] [(8, .box [.int .i64 a1_0, .int .i64 a1_1, (sv_str a1_2), (sv_S_impl_ClaimUse a1_3), (sv_str a1_4), (sv_str a1_5)])] rfl ⟨.inl rfl, ⟨.inl rfl, ⟨.inl rfl, ⟨.inl rfl, ⟨.inl rfl, trivial⟩⟩⟩⟩⟩ ⟨rfl, trivial⟩ ?_
  conv => whnf
  refine Br.t rfl ?_
  conv => whnf
  refine cut_ 176 [(4, .bool true)] [] rfl ⟨.inl rfl, trivial⟩ trivial ?_
  conv => whnf
  injection H with H; subst H
  exact ret_fz [] (rtA_eq rfl)
  conv => whnf
  refine Br.f ff_ ?_
  conv => whnf
  refine Br.f ff_ ?_
  conv => whnf
  refine Br.f ff_ ?_
  conv => whnf
  revert H; refine bind_elim (fun t1995 A H => ?_)
  refine call_mk (impl_has.ac A) (avAL_cons (avA_shut' rfl) (avAL_cons (avA_shut' rfl) (avAL_nil))) (Or.inl rfl) rfl rfl (Nat.le_of_ble_eq_true rfl) ?_
  conv => whnf
  refine Br.f ff_ ?_
  conv => whnf
  refine cut_ 168 [(3, .bp 8 0), (8, (sv_str a0_4)), (9, .int .i64 (a0_4.length : Int)), (10, .int .i64 x10), (23, .bool t1995)] [(8, .box [.int .i64 a1_0, .int .i64 a1_1, (sv_str a1_2), (sv_S_impl_ClaimUse a1_3), (sv_str a1_4), (sv_str a1_5)])] rfl ⟨.inl rfl, ⟨.inl rfl, ⟨.inl rfl, ⟨.inl rfl, ⟨.inl rfl, trivial⟩⟩⟩⟩⟩ ⟨rfl, trivial⟩ ?_
  conv => whnf
  refine br_t H (fun c H => ?_) (fun c H => ?_)
  conv => whnf
  refine cut_ 176 [(4, .bool true)] [] rfl ⟨.inl rfl, trivial⟩ trivial ?_
  conv => whnf
  injection H with H; subst H
  exact ret_fz [] (rtA_eq rfl)
  conv => whnf
  exact ⟨(k, wrap64 (x10 + 1)), [], ⟨H, lt_⟩, lt_, (fits_of ⟨.inl ⟨rfl, rfl⟩, trivial⟩ trivial fi_ trivial rfl)⟩
  conv => whnf
  injection H with H; subst H
  exact ret_fz [] (rtA_eq rfl)
theorem impl_crosses.ac {k : Nat} {a0_0 : Int} {a0_1 : Int} {a0_2 : List ByteArray} {a0_3 : List S_impl_ClaimUse} {a0_4 : List ByteArray} {a0_5 : List ByteArray} {a1_0 : Int} {a1_1 : Int} {a1_2 : List ByteArray} {a1_3 : List S_impl_ClaimUse} {a1_4 : List ByteArray} {a1_5 : List ByteArray} {r : Bool} (H : impl_crosses.f k a0_0 a0_1 a0_2 a0_3 a0_4 a0_5 a1_0 a1_1 a1_2 a1_3 a1_4 a1_5 = some r) : ACalls Tryz.prog G 68 [] [.agg [.int .i64 a0_0, .int .i64 a0_1, (sv_str a0_2), (sv_S_impl_ClaimUse a0_3), (sv_str a0_4), (sv_str a0_5)], .agg [.int .i64 a1_0, .int .i64 a1_1, (sv_str a1_2), (sv_S_impl_ClaimUse a1_3), (sv_str a1_4), (sv_str a1_5)]] [] (.bool r) := by
  refine acalls_of tok hP Tryz.func68 rfl (by kernel_rfl) [.tmp 4] rfl (by kernel_rfl) (Nat.le_of_ble_eq_true rfl) (.l .n (.l .n (.c .n .n))) rfl ?_
  unfold impl_crosses.f at H
  conv => whnf
  revert H; refine bind_elim (fun t1998 A H => ?_)
  refine call_mk (impl_crosses_1.ac A) (avAL_cons (avA_agg (avL_cons (av_shut' rfl) (avL_cons (av_shut' rfl) (avL_cons (av_shut' rfl) (avL_cons (av_shut' rfl) (avL_cons (av_shut' rfl) (avL_cons (av_shut' rfl) (avL_nil)))))))) (avAL_cons (avA_agg (avL_cons (av_shut' rfl) (avL_cons (av_shut' rfl) (avL_cons (av_shut' rfl) (avL_cons (av_shut' rfl) (avL_cons (av_shut' rfl) (avL_cons (av_shut' rfl) (avL_nil)))))))) (avAL_nil))) (Or.inl rfl) rfl rfl (Nat.le_of_ble_eq_true rfl) ?_
  conv => whnf
  refine br_t H (fun c H => ?_) (fun c H => ?_)
  conv => whnf
  refine Br.t ft_ ?_
  conv => whnf
  refine Br.t ft_ ?_
  conv => whnf
  refine Br.t ft_ ?_
  conv => whnf
  refine Br.t ft_ ?_
  conv => whnf
  refine cut_ 120 [(4, .bool true)] [] rfl ⟨.inl rfl, trivial⟩ trivial ?_
  conv => whnf
  injection H with H; subst H
  exact ret_fz [] (rtA_eq rfl)
  conv => whnf
  refine Br.f ff_ ?_
  conv => whnf
  refine Br.f ff_ ?_
  conv => whnf
  refine Br.f ff_ ?_
  conv => whnf
  revert H; refine bind_elim (fun t1999 A H => ?_)
  refine call_mk (impl_crosses_1.ac A) (avAL_cons (avA_agg (avL_cons (av_shut' rfl) (avL_cons (av_shut' rfl) (avL_cons (av_shut' rfl) (avL_cons (av_shut' rfl) (avL_cons (av_shut' rfl) (avL_cons (av_shut' rfl) (avL_nil)))))))) (avAL_cons (avA_agg (avL_cons (av_shut' rfl) (avL_cons (av_shut' rfl) (avL_cons (av_shut' rfl) (avL_cons (av_shut' rfl) (avL_cons (av_shut' rfl) (avL_cons (av_shut' rfl) (avL_nil)))))))) (avAL_nil))) (Or.inl rfl) rfl rfl (Nat.le_of_ble_eq_true rfl) ?_
  conv => whnf
  refine Br.f ff_ ?_
  conv => whnf
  refine cut_ 120 [(4, .bool t1999)] [] rfl ⟨.inl rfl, trivial⟩ trivial ?_
  conv => whnf
  injection H with H; subst H
  exact ret_fz [] (rtA_eq rfl)
theorem impl_ClaimBookOk.l2_lp {F : (Exit → St → Prop) → St → Prop} {hv : List Tmp} {Q : Exit → St → Prop} {σ : St} {r : Bool} {k : Nat} {a0_0 : List S_impl_ClaimFoe} {a0_1 : List S_impl_ClaimSpot} {a0_2 : List ByteArray} {a0_3 : List S_impl_ClaimPart} {a0_4 : Int} {x128 : Int} {x179 : Int} (H : impl_ClaimBookOk.l2 k a0_0 a0_1 a0_2 a0_3 a0_4 x128 x179 = some r) (rn : List (Option Nat)) (h1 : Fits σ σ [] [(179, .int .i64 x179)] [] [] rn)
    (h2 : ∀ (k0 : Nat) (x179 : Int), k0 < k + 1 → impl_ClaimBookOk.l2 k0 a0_0 a0_1 a0_2 a0_3 a0_4 x128 x179 = some r → headN σ hv [] [(179, .int .i64 x179)] [] [] (F (fun e σ' => match e with | .normal => ∃ (y : Nat × Int) (rn : List (Option Nat)), (impl_ClaimBookOk.l2 y.1 a0_0 a0_1 a0_2 a0_3 a0_4 x128 y.2 = some r ∧ y.1 < k + 1) ∧ y.1 < k0 ∧ Fits σ σ' [] [(179, .int .i64 y.2)] [] [] rn | e => Q e σ'))) : Lp F hv Q σ := by
  unfold Lp
  refine ⟨Nat × Int, fun x => impl_ClaimBookOk.l2 x.1 a0_0 a0_1 a0_2 a0_3 a0_4 x128 x.2 = some r ∧ x.1 < k + 1, fun x => x.1, [], fun x => [(179, .int .i64 x.2)], fun x => [], fun x => [], ⟨(k, x179), rn, ⟨H, Nat.lt_succ_self _⟩, h1⟩, ?_⟩
  rintro ⟨k, x179⟩ ⟨H, hk⟩
  exact h2 k x179 hk H
theorem impl_ClaimBookOk.l3_lp {F : (Exit → St → Prop) → St → Prop} {hv : List Tmp} {Q : Exit → St → Prop} {σ : St} {r : Bool} {k : Nat} {a0_0 : List S_impl_ClaimFoe} {a0_1 : List S_impl_ClaimSpot} {a0_2 : List ByteArray} {a0_3 : List S_impl_ClaimPart} {a0_4 : Int} {x128 : Int} {x179_1 : Int} (H : impl_ClaimBookOk.l3 k a0_0 a0_1 a0_2 a0_3 a0_4 x128 x179_1 = some r) (rn : List (Option Nat)) (h1 : Fits σ σ [] [(179, .int .i64 x179_1)] [] [] rn)
    (h2 : ∀ (k0 : Nat) (x179_1 : Int), k0 < k + 1 → impl_ClaimBookOk.l3 k0 a0_0 a0_1 a0_2 a0_3 a0_4 x128 x179_1 = some r → headN σ hv [] [(179, .int .i64 x179_1)] [] [] (F (fun e σ' => match e with | .normal => ∃ (y : Nat × Int) (rn : List (Option Nat)), (impl_ClaimBookOk.l3 y.1 a0_0 a0_1 a0_2 a0_3 a0_4 x128 y.2 = some r ∧ y.1 < k + 1) ∧ y.1 < k0 ∧ Fits σ σ' [] [(179, .int .i64 y.2)] [] [] rn | e => Q e σ'))) : Lp F hv Q σ := by
  unfold Lp
  refine ⟨Nat × Int, fun x => impl_ClaimBookOk.l3 x.1 a0_0 a0_1 a0_2 a0_3 a0_4 x128 x.2 = some r ∧ x.1 < k + 1, fun x => x.1, [], fun x => [(179, .int .i64 x.2)], fun x => [], fun x => [], ⟨(k, x179_1), rn, ⟨H, Nat.lt_succ_self _⟩, h1⟩, ?_⟩
  rintro ⟨k, x179_1⟩ ⟨H, hk⟩
  exact h2 k x179_1 hk H
theorem impl_ClaimBookOk.l1_lp {F : (Exit → St → Prop) → St → Prop} {hv : List Tmp} {Q : Exit → St → Prop} {σ : St} {r : Bool} {k : Nat} {a0_0 : List S_impl_ClaimFoe} {a0_1 : List S_impl_ClaimSpot} {a0_2 : List ByteArray} {a0_3 : List S_impl_ClaimPart} {a0_4 : Int} {x128 : Int} (H : impl_ClaimBookOk.l1 k a0_0 a0_1 a0_2 a0_3 a0_4 x128 = some r) (rn : List (Option Nat)) (h1 : Fits σ σ [] [(128, .int .i64 x128)] [] [] rn)
    (h2 : ∀ (k0 : Nat) (x128 : Int), k0 < k + 1 → impl_ClaimBookOk.l1 k0 a0_0 a0_1 a0_2 a0_3 a0_4 x128 = some r → headN σ hv [] [(128, .int .i64 x128)] [] [] (F (fun e σ' => match e with | .normal => ∃ (y : Nat × Int) (rn : List (Option Nat)), (impl_ClaimBookOk.l1 y.1 a0_0 a0_1 a0_2 a0_3 a0_4 y.2 = some r ∧ y.1 < k + 1) ∧ y.1 < k0 ∧ Fits σ σ' [] [(128, .int .i64 y.2)] [] [] rn | e => Q e σ'))) : Lp F hv Q σ := by
  unfold Lp
  refine ⟨Nat × Int, fun x => impl_ClaimBookOk.l1 x.1 a0_0 a0_1 a0_2 a0_3 a0_4 x.2 = some r ∧ x.1 < k + 1, fun x => x.1, [], fun x => [(128, .int .i64 x.2)], fun x => [], fun x => [], ⟨(k, x128), rn, ⟨H, Nat.lt_succ_self _⟩, h1⟩, ?_⟩
  rintro ⟨k, x128⟩ ⟨H, hk⟩
  exact h2 k x128 hk H
theorem impl_ClaimBookOk.l0_lp {F : (Exit → St → Prop) → St → Prop} {hv : List Tmp} {Q : Exit → St → Prop} {σ : St} {r : Bool} {k : Nat} {a0_0 : List S_impl_ClaimFoe} {a0_1 : List S_impl_ClaimSpot} {a0_2 : List ByteArray} {a0_3 : List S_impl_ClaimPart} {a0_4 : Int} {x51 : Int} (H : impl_ClaimBookOk.l0 k a0_0 a0_1 a0_2 a0_3 a0_4 x51 = some r) (rn : List (Option Nat)) (h1 : Fits σ σ [] [(51, .int .i64 x51)] [] [] rn)
    (h2 : ∀ (k0 : Nat) (x51 : Int), k0 < k + 1 → impl_ClaimBookOk.l0 k0 a0_0 a0_1 a0_2 a0_3 a0_4 x51 = some r → headN σ hv [] [(51, .int .i64 x51)] [] [] (F (fun e σ' => match e with | .normal => ∃ (y : Nat × Int) (rn : List (Option Nat)), (impl_ClaimBookOk.l0 y.1 a0_0 a0_1 a0_2 a0_3 a0_4 y.2 = some r ∧ y.1 < k + 1) ∧ y.1 < k0 ∧ Fits σ σ' [] [(51, .int .i64 y.2)] [] [] rn | e => Q e σ'))) : Lp F hv Q σ := by
  unfold Lp
  refine ⟨Nat × Int, fun x => impl_ClaimBookOk.l0 x.1 a0_0 a0_1 a0_2 a0_3 a0_4 x.2 = some r ∧ x.1 < k + 1, fun x => x.1, [], fun x => [(51, .int .i64 x.2)], fun x => [], fun x => [], ⟨(k, x51), rn, ⟨H, Nat.lt_succ_self _⟩, h1⟩, ?_⟩
  rintro ⟨k, x51⟩ ⟨H, hk⟩
  exact h2 k x51 hk H
theorem impl_ClaimBookOk.ac {k : Nat} {a0_0 : List S_impl_ClaimFoe} {a0_1 : List S_impl_ClaimSpot} {a0_2 : List ByteArray} {a0_3 : List S_impl_ClaimPart} {a0_4 : Int} {r : Bool} (H : impl_ClaimBookOk.f k a0_0 a0_1 a0_2 a0_3 a0_4 = some r) : ACalls Tryz.prog G 32 [] [.agg [(sv_S_impl_ClaimFoe a0_0), (sv_S_impl_ClaimSpot a0_1), (sv_str a0_2), (sv_S_impl_ClaimPart a0_3), .int .i64 a0_4]] [] (.bool r) := by
  refine acalls_of tok hP Tryz.func32 rfl (by kernel_rfl) [.tmp 2] rfl (by kernel_rfl) (Nat.le_of_ble_eq_true rfl) (.l .n (.l (.c .n (.l (.c .n .n) .n)) (.l (.l .n (.l .n (.l .n (.l (.c .n (.l (.c .n (.l (.c .n .n) .n)) (.c .n (.l (.c .n .n) .n)))) .n)))) (.l (.l .n (.c .n (.l .n (.l (.l .n (.l .n (.l (.c .n (.l (.c .n .n) .n)) (.l .n (.l .n (.l .n (.l (.c .n (.c .n (.l (.c .n .n) .n))) .n))))))) .n)))) .n)))) rfl ?_
  unfold impl_ClaimBookOk.f at H
  conv => whnf
  revert H; refine bind_elim (fun t2006 A H => ?_)
  refine call_mk (impl_ClaimBook_pairs.ac A) (avAL_cons (avA_agg (avL_cons (av_shut' rfl) (avL_cons (av_shut' rfl) (avL_cons (av_shut' rfl) (avL_cons (av_shut' rfl) (avL_cons (av_shut' rfl) (avL_nil))))))) (avAL_nil)) (Or.inl rfl) rfl rfl (Nat.le_of_ble_eq_true rfl) ?_
  conv => whnf
  revert H; refine bind_elim (fun t2007 A H => ?_)
  refine call_mk (impl_foesOk.ac A) (avAL_cons (avA_shut' rfl) (avAL_cons (avA_shut' rfl) (avAL_nil))) (Or.inl rfl) rfl rfl (Nat.le_of_ble_eq_true rfl) ?_
  conv => whnf
  refine br_nt H (fun c H => ?_) (fun c H => ?_)
  conv => whnf
  refine Br.f ff_ ?_
  conv => whnf
  refine Br.f ff_ ?_
  conv => whnf
  refine Br.f ff_ ?_
  conv => whnf
  refine Br.f ff_ ?_
  conv => whnf
  refine br_d H (fun c H => ?_) (fun c H => ?_)
  conv => whnf
  refine Br.t ft_ ?_
  conv => whnf
  refine Br.t ft_ ?_
  conv => whnf
  refine Br.t ft_ ?_
  conv => whnf
  refine Br.t ft_ ?_
  conv => whnf
  refine Br.t rfl ?_
  conv => whnf
  refine Br.t rfl ?_
  conv => whnf
  refine Br.t rfl ?_
  conv => whnf
  refine Br.t rfl ?_
  conv => whnf
  refine Br.t rfl ?_
  conv => whnf
  refine Br.t rfl ?_
  conv => whnf
  refine Br.t rfl ?_
  conv => whnf
  refine Br.t rfl ?_
  conv => whnf
  refine Br.t rfl ?_
  conv => whnf
  refine Br.t rfl ?_
  conv => whnf
  refine Br.t rfl ?_
  conv => whnf
  refine Br.t rfl ?_
  conv => whnf
  refine Br.t rfl ?_
  conv => whnf
  refine Br.t rfl ?_
  conv => whnf
  refine Br.t rfl ?_
  conv => whnf
  refine Br.t rfl ?_
  conv => whnf
  refine Br.t rfl ?_
  conv => whnf
  refine Br.t rfl ?_
  conv => whnf
  refine cut_ 320 [(1, .bp 0 0), (47, .bool true)] [(0, .box [(sv_S_impl_ClaimFoe a0_0), (sv_S_impl_ClaimSpot a0_1), (sv_str a0_2), (sv_S_impl_ClaimPart a0_3), .int .i64 a0_4])] rfl ⟨.inl rfl, ⟨.inl rfl, trivial⟩⟩ ⟨rfl, trivial⟩ ?_
  conv => whnf
  refine Br.t rfl ?_
  conv => whnf
  refine cut_ 328 [(2, .bool false)] [] rfl ⟨.inl rfl, trivial⟩ trivial ?_
  conv => whnf
  injection H with H; subst H
  exact ret_fz [] (rtA_eq rfl)
  conv => whnf
  refine Br.f ff_ ?_
  conv => whnf
  refine Br.f ff_ ?_
  conv => whnf
  refine Br.f ff_ ?_
  conv => whnf
  refine Br.f ff_ ?_
  conv => whnf
  refine br_d H (fun c H => ?_) (fun c H => ?_)
  conv => whnf
  refine Br.t ft_ ?_
  conv => whnf
  refine Br.t ft_ ?_
  conv => whnf
  refine Br.t ft_ ?_
  conv => whnf
  refine Br.t ft_ ?_
  conv => whnf
  refine Br.t rfl ?_
  conv => whnf
  refine Br.t rfl ?_
  conv => whnf
  refine Br.t rfl ?_
  conv => whnf
  refine Br.t rfl ?_
  conv => whnf
  refine Br.t rfl ?_
  conv => whnf
  refine Br.t rfl ?_
  conv => whnf
  refine Br.t rfl ?_
  conv => whnf
  refine Br.t rfl ?_
  conv => whnf
  refine Br.t rfl ?_
  conv => whnf
  refine Br.t rfl ?_
  conv => whnf
  refine Br.t rfl ?_
  conv => whnf
  refine Br.t rfl ?_
  conv => whnf
  refine Br.t rfl ?_
  conv => whnf
  refine cut_ 320 [(1, .bp 0 0), (47, .bool true)] [(0, .box [(sv_S_impl_ClaimFoe a0_0), (sv_S_impl_ClaimSpot a0_1), (sv_str a0_2), (sv_S_impl_ClaimPart a0_3), .int .i64 a0_4])] rfl ⟨.inl rfl, ⟨.inl rfl, trivial⟩⟩ ⟨rfl, trivial⟩ ?_
  conv => whnf
  refine Br.t rfl ?_
  conv => whnf
  refine cut_ 328 [(2, .bool false)] [] rfl ⟨.inl rfl, trivial⟩ trivial ?_
  conv => whnf
  injection H with H; subst H
  exact ret_fz [] (rtA_eq rfl)
  conv => whnf
  refine Br.f ff_ ?_
  conv => whnf
  refine Br.f ff_ ?_
  conv => whnf
  revert H; refine bind_elim (fun t2008 A H => ?_)
  refine call_mk (impl_names.ac A) (avAL_cons (avA_shut' rfl) (avAL_nil)) (Or.inl rfl) rfl rfl (Nat.le_of_ble_eq_true rfl) ?_
  conv => whnf
  refine Br.f ff_ ?_
  conv => whnf
  refine Br.f ff_ ?_
  conv => whnf
  refine br_nt H (fun c H => ?_) (fun c H => ?_)
  conv => whnf
  refine Br.f ff_ ?_
  conv => whnf
  refine Br.f ff_ ?_
  conv => whnf
  refine Br.f ff_ ?_
  conv => whnf
  refine br_d H (fun c H => ?_) (fun c H => ?_)
  conv => whnf
  refine Br.t ft_ ?_
  conv => whnf
  refine Br.t ft_ ?_
  conv => whnf
  refine Br.t ft_ ?_
  conv => whnf
  refine Br.t rfl ?_
  conv => whnf
  refine Br.t rfl ?_
  conv => whnf
  refine Br.t rfl ?_
  conv => whnf
  refine Br.t rfl ?_
  conv => whnf
  refine Br.t rfl ?_
  conv => whnf
  refine cut_ 320 [(1, .bp 0 0), (47, .bool true)] [(0, .box [(sv_S_impl_ClaimFoe a0_0), (sv_S_impl_ClaimSpot a0_1), (sv_str a0_2), (sv_S_impl_ClaimPart a0_3), .int .i64 a0_4])] rfl ⟨.inl rfl, ⟨.inl rfl, trivial⟩⟩ ⟨rfl, trivial⟩ ?_
  conv => whnf
  refine Br.t rfl ?_
  conv => whnf
  refine cut_ 328 [(2, .bool false)] [] rfl ⟨.inl rfl, trivial⟩ trivial ?_
  conv => whnf
  injection H with H; subst H
  exact ret_fz [] (rtA_eq rfl)
  conv => whnf
  refine Br.f ff_ ?_
  conv => whnf
  refine Br.f ff_ ?_
  conv => whnf
  refine Br.f ff_ ?_
  conv => whnf
  refine br_d H (fun c H => ?_) (fun c H => ?_)
  conv => whnf
  refine Br.t ft_ ?_
  conv => whnf
  refine Br.t ft_ ?_
  conv => whnf
  refine Br.t ft_ ?_
  conv => whnf
  refine Br.t ft_ ?_
  conv => whnf
  refine cut_ 320 [(1, .bp 0 0), (47, .bool true)] [(0, .box [(sv_S_impl_ClaimFoe a0_0), (sv_S_impl_ClaimSpot a0_1), (sv_str a0_2), (sv_S_impl_ClaimPart a0_3), .int .i64 a0_4])] rfl ⟨.inl rfl, ⟨.inl rfl, trivial⟩⟩ ⟨rfl, trivial⟩ ?_
  conv => whnf
  refine Br.t rfl ?_
  conv => whnf
  refine cut_ 328 [(2, .bool false)] [] rfl ⟨.inl rfl, trivial⟩ trivial ?_
  conv => whnf
  injection H with H; subst H
  exact ret_fz [] (rtA_eq rfl)
  conv => whnf
  refine Br.f ff_ ?_
  conv => whnf
  refine Br.f ff_ ?_
  conv => whnf
  refine Br.f ff_ ?_
  conv => whnf
  refine Br.f ff_ ?_
  conv => whnf
  refine cut_ 320 [(1, .bp 0 0), (47, .bool (decide ((a0_3.length : Int) > 6)))] [(0, .box [(sv_S_impl_ClaimFoe a0_0), (sv_S_impl_ClaimSpot a0_1), (sv_str a0_2), (sv_S_impl_ClaimPart a0_3), .int .i64 a0_4])] rfl ⟨.inl rfl, ⟨.inl rfl, trivial⟩⟩ ⟨rfl, trivial⟩ ?_
  conv => whnf
  refine br_d H (fun c H => ?_) (fun c H => ?_)
  conv => whnf
  refine cut_ 328 [(2, .bool false)] [] rfl ⟨.inl rfl, trivial⟩ trivial ?_
  conv => whnf
  injection H with H; subst H
  exact ret_fz [] (rtA_eq rfl)
  conv => whnf
  refine impl_ClaimBookOk.l0_lp (a0_0 := a0_0) (a0_1 := a0_1) (a0_2 := a0_2) (a0_3 := a0_3) (a0_4 := a0_4) (k := k) H [] (fits_of ⟨.inl ⟨rfl, rfl⟩, trivial⟩ trivial fi_ trivial rfl) ?_
  intro k x51 hk H; rcases k with _ | k; exact none_elim H; rw [impl_ClaimBookOk.l0] at H; conv => whnf
  refine br_d H (fun c H => ?_) (fun c H => ?_)
  conv => whnf
  refine nd_ H (fun c H => ?_)
  conv => whnf
  refine Nd.mk nf_ ?_
  conv => whnf
  refine El.mk (rdm_en_S_impl_ClaimSpot _ _ nf_ nf_) ?_
  conv => whnf
  refine cut_ 408 [(1, .bp 0 0), (3, .int .i64 x51), (4, .bp 384 0), (49, (sv_S_impl_ClaimSpot a0_1)), (50, .int .i64 (a0_1.length : Int)), (51, .int .i64 x51)] [(0, .box [(sv_S_impl_ClaimFoe a0_0), (sv_S_impl_ClaimSpot a0_1), (sv_str a0_2), (sv_S_impl_ClaimPart a0_3), .int .i64 a0_4]), (384, .box [.str ((rd_impl_ClaimSpot a0_1 x51).f0), .int .i64 ((rd_impl_ClaimSpot a0_1 x51).f1), .int .i64 ((rd_impl_ClaimSpot a0_1 x51).f2), .int .i64 ((rd_impl_ClaimSpot a0_1 x51).f3), (sv_str ((rd_impl_ClaimSpot a0_1 x51).f4))])] rfl ⟨.inl rfl, ⟨.inl rfl, ⟨.inl rfl, ⟨.inl rfl, ⟨.inl rfl, ⟨.inl rfl, trivial⟩⟩⟩⟩⟩⟩ ⟨rfl, ⟨rfl, trivial⟩⟩ ?_
  conv => whnf
  revert H; refine bind_elim (fun t2031 A H => ?_)
  refine call_mk (impl_isName.ac A) (avAL_cons (avA_shut' rfl) (avAL_nil)) (Or.inl rfl) rfl rfl (Nat.le_of_ble_eq_true rfl) ?_
  conv => whnf
  refine br_nt H (fun c H => ?_) (fun c H => ?_)
  conv => whnf
  refine Br.f ff_ ?_
  conv => whnf
  refine Br.f ff_ ?_
  conv => whnf
  refine br_d H (fun c H => ?_) (fun c H => ?_)
  conv => whnf
  refine Br.t ft_ ?_
  conv => whnf
  refine Br.t ft_ ?_
  conv => whnf
  refine Br.t ft_ ?_
  conv => whnf
  refine Br.t ft_ ?_
  conv => whnf
  refine nd_ H (fun c H => ?_)
  conv => whnf
  refine nd_ H (fun c H => ?_)
  conv => whnf
  refine El.mk (rdm_en_S_impl_ClaimSpot _ _ nf_ nf_) ?_
  conv => whnf
  refine Br.t ft_ ?_
  conv => whnf
  refine Br.t ft_ ?_
  conv => whnf
  refine Br.t ft_ ?_
  conv => whnf
  refine Br.t ft_ ?_
  conv => whnf
  refine Br.t ft_ ?_
  conv => whnf
  refine Br.f ff_ ?_
  conv => whnf
  refine Br.t ft_ ?_
  conv => whnf
  refine Br.f ff_ ?_
  conv => whnf
  refine br_nt H (fun c H => ?_) (fun c H => ?_)
  conv => whnf
  refine Br.f ff_ ?_
  conv => whnf
  refine Br.f ff_ ?_
  conv => whnf
  refine Br.f ff_ ?_
  conv => whnf
  refine br_d H (fun c H => ?_) (fun c H => ?_)
  conv => whnf
  refine Br.t ft_ ?_
  conv => whnf
  refine Br.t ft_ ?_
  conv => whnf
  refine Br.t ft_ ?_
  conv => whnf
  refine Br.t rfl ?_
  conv => whnf
  refine Br.t rfl ?_
  conv => whnf
  refine Br.t rfl ?_
  conv => whnf
  refine Br.t rfl ?_
  conv => whnf
  refine Br.t rfl ?_
  conv => whnf
  refine Br.t rfl ?_
  conv => whnf
  refine Br.t rfl ?_
  conv => whnf
  refine Br.t rfl ?_
  conv => whnf
  refine Br.t rfl ?_
  conv => whnf
  refine Br.t rfl ?_
  conv => whnf
  refine Br.t rfl ?_
  conv => whnf
  refine Br.t rfl ?_
  conv => whnf
  refine Br.t rfl ?_
  conv => whnf
  refine Br.t rfl ?_
  conv => whnf
  refine Br.t rfl ?_
  conv => whnf
  refine Br.t rfl ?_
  conv => whnf
  refine cut_ 800 [(1, .bp 0 0), (4, .bp 384 0), (49, (sv_S_impl_ClaimSpot a0_1)), (50, .int .i64 (a0_1.length : Int)), (51, .int .i64 x51), (104, .bool true)] [(0, .box [(sv_S_impl_ClaimFoe a0_0), (sv_S_impl_ClaimSpot a0_1), (sv_str a0_2), (sv_S_impl_ClaimPart a0_3), .int .i64 a0_4]), (384, .box [.str ((rd_impl_ClaimSpot a0_1 x51).f0), .int .i64 ((rd_impl_ClaimSpot a0_1 x51).f1), .int .i64 ((rd_impl_ClaimSpot a0_1 x51).f2), .int .i64 ((rd_impl_ClaimSpot a0_1 x51).f3), (sv_str ((rd_impl_ClaimSpot a0_1 x51).f4))])] rfl ⟨.inl rfl, ⟨.inl rfl, ⟨.inl rfl, ⟨.inl rfl, ⟨.inl rfl, ⟨.inl rfl, trivial⟩⟩⟩⟩⟩⟩ ⟨rfl, ⟨rfl, trivial⟩⟩ ?_
  conv => whnf
  refine Br.t rfl ?_
  conv => whnf
  refine cut_ 808 [(2, .bool false)] [] rfl ⟨.inl rfl, trivial⟩ trivial ?_
  conv => whnf
  injection H with H; subst H
  exact ret_fz [] (rtA_eq rfl)
  conv => whnf
  refine Br.f ff_ ?_
  conv => whnf
  refine Br.f ff_ ?_
  conv => whnf
  refine Br.f ff_ ?_
  conv => whnf
  refine br_d H (fun c H => ?_) (fun c H => ?_)
  conv => whnf
  refine Br.t ft_ ?_
  conv => whnf
  refine Br.t ft_ ?_
  conv => whnf
  refine Br.t ft_ ?_
  conv => whnf
  refine Br.t rfl ?_
  conv => whnf
  refine Br.t rfl ?_
  conv => whnf
  refine Br.t rfl ?_
  conv => whnf
  refine Br.t rfl ?_
  conv => whnf
  refine Br.t rfl ?_
  conv => whnf
  refine Br.t rfl ?_
  conv => whnf
  refine Br.t rfl ?_
  conv => whnf
  refine Br.t rfl ?_
  conv => whnf
  refine Br.t rfl ?_
  conv => whnf
  refine Br.t rfl ?_
  conv => whnf
  refine Br.t rfl ?_
  conv => whnf
  refine Br.t rfl ?_
  conv => whnf
  refine cut_ 800 [(1, .bp 0 0), (4, .bp 384 0), (49, (sv_S_impl_ClaimSpot a0_1)), (50, .int .i64 (a0_1.length : Int)), (51, .int .i64 x51), (104, .bool true)] [(0, .box [(sv_S_impl_ClaimFoe a0_0), (sv_S_impl_ClaimSpot a0_1), (sv_str a0_2), (sv_S_impl_ClaimPart a0_3), .int .i64 a0_4]), (384, .box [.str ((rd_impl_ClaimSpot a0_1 x51).f0), .int .i64 ((rd_impl_ClaimSpot a0_1 x51).f1), .int .i64 ((rd_impl_ClaimSpot a0_1 x51).f2), .int .i64 ((rd_impl_ClaimSpot a0_1 x51).f3), (sv_str ((rd_impl_ClaimSpot a0_1 x51).f4))])] rfl ⟨.inl rfl, ⟨.inl rfl, ⟨.inl rfl, ⟨.inl rfl, ⟨.inl rfl, ⟨.inl rfl, trivial⟩⟩⟩⟩⟩⟩ ⟨rfl, ⟨rfl, trivial⟩⟩ ?_
  conv => whnf
  refine Br.t rfl ?_
  conv => whnf
  refine cut_ 808 [(2, .bool false)] [] rfl ⟨.inl rfl, trivial⟩ trivial ?_
  conv => whnf
  injection H with H; subst H
  exact ret_fz [] (rtA_eq rfl)
  conv => whnf
  refine Br.f ff_ ?_
  conv => whnf
  refine Br.f ff_ ?_
  conv => whnf
  refine Br.f ff_ ?_
  conv => whnf
  refine br_d H (fun c H => ?_) (fun c H => ?_)
  conv => whnf
  refine Br.t ft_ ?_
  conv => whnf
  refine Br.t ft_ ?_
  conv => whnf
  refine Br.t ft_ ?_
  conv => whnf
  refine Br.t ft_ ?_
  conv => whnf
  refine Br.t ft_ ?_
  conv => whnf
  refine Br.t rfl ?_
  conv => whnf
  refine Br.t rfl ?_
  conv => whnf
  refine Br.t rfl ?_
  conv => whnf
  refine Br.t rfl ?_
  conv => whnf
  refine Br.t rfl ?_
  conv => whnf
  refine Br.t rfl ?_
  conv => whnf
  refine cut_ 800 [(1, .bp 0 0), (4, .bp 384 0), (49, (sv_S_impl_ClaimSpot a0_1)), (50, .int .i64 (a0_1.length : Int)), (51, .int .i64 x51), (104, .bool true)] [(0, .box [(sv_S_impl_ClaimFoe a0_0), (sv_S_impl_ClaimSpot a0_1), (sv_str a0_2), (sv_S_impl_ClaimPart a0_3), .int .i64 a0_4]), (384, .box [.str ((rd_impl_ClaimSpot a0_1 x51).f0), .int .i64 ((rd_impl_ClaimSpot a0_1 x51).f1), .int .i64 ((rd_impl_ClaimSpot a0_1 x51).f2), .int .i64 ((rd_impl_ClaimSpot a0_1 x51).f3), (sv_str ((rd_impl_ClaimSpot a0_1 x51).f4))])] rfl ⟨.inl rfl, ⟨.inl rfl, ⟨.inl rfl, ⟨.inl rfl, ⟨.inl rfl, ⟨.inl rfl, trivial⟩⟩⟩⟩⟩⟩ ⟨rfl, ⟨rfl, trivial⟩⟩ ?_
  conv => whnf
  refine Br.t rfl ?_
  conv => whnf
  refine cut_ 808 [(2, .bool false)] [] rfl ⟨.inl rfl, trivial⟩ trivial ?_
  conv => whnf
  injection H with H; subst H
  exact ret_fz [] (rtA_eq rfl)
  conv => whnf
  refine Br.f ff_ ?_
  conv => whnf
  refine Br.f ff_ ?_
  conv => whnf
  refine Br.f ff_ ?_
  conv => whnf
  refine Br.f ff_ ?_
  conv => whnf
  refine Br.f ff_ ?_
  conv => whnf
  refine br_d H (fun c H => ?_) (fun c H => ?_)
  conv => whnf
  refine Br.t ft_ ?_
  conv => whnf
  refine Br.t ft_ ?_
  conv => whnf
  refine Br.t ft_ ?_
  conv => whnf
  refine Br.t ft_ ?_
  conv => whnf
  refine Br.t ft_ ?_
  conv => whnf
  refine cut_ 800 [(1, .bp 0 0), (4, .bp 384 0), (49, (sv_S_impl_ClaimSpot a0_1)), (50, .int .i64 (a0_1.length : Int)), (51, .int .i64 x51), (104, .bool true)] [(0, .box [(sv_S_impl_ClaimFoe a0_0), (sv_S_impl_ClaimSpot a0_1), (sv_str a0_2), (sv_S_impl_ClaimPart a0_3), .int .i64 a0_4]), (384, .box [.str ((rd_impl_ClaimSpot a0_1 x51).f0), .int .i64 ((rd_impl_ClaimSpot a0_1 x51).f1), .int .i64 ((rd_impl_ClaimSpot a0_1 x51).f2), .int .i64 ((rd_impl_ClaimSpot a0_1 x51).f3), (sv_str ((rd_impl_ClaimSpot a0_1 x51).f4))])] rfl ⟨.inl rfl, ⟨.inl rfl, ⟨.inl rfl, ⟨.inl rfl, ⟨.inl rfl, ⟨.inl rfl, trivial⟩⟩⟩⟩⟩⟩ ⟨rfl, ⟨rfl, trivial⟩⟩ ?_
  conv => whnf
  refine Br.t rfl ?_
  conv => whnf
  refine cut_ 808 [(2, .bool false)] [] rfl ⟨.inl rfl, trivial⟩ trivial ?_
  conv => whnf
  injection H with H; subst H
  exact ret_fz [] (rtA_eq rfl)
  conv => whnf
  refine Br.f ff_ ?_
  conv => whnf
  refine Br.f ff_ ?_
  conv => whnf
  refine Br.f ff_ ?_
  conv => whnf
  refine Br.f ff_ ?_
  conv => whnf
  refine Br.f ff_ ?_
  conv => whnf
  refine cut_ 800 [(1, .bp 0 0), (4, .bp 384 0), (49, (sv_S_impl_ClaimSpot a0_1)), (50, .int .i64 (a0_1.length : Int)), (51, .int .i64 x51), (104, .bool (decide (((rd_impl_ClaimSpot a0_1 x51).f3) > ((rd_impl_ClaimSpot a0_1 x51).f1))))] [(0, .box [(sv_S_impl_ClaimFoe a0_0), (sv_S_impl_ClaimSpot a0_1), (sv_str a0_2), (sv_S_impl_ClaimPart a0_3), .int .i64 a0_4]), (384, .box [.str ((rd_impl_ClaimSpot a0_1 x51).f0), .int .i64 ((rd_impl_ClaimSpot a0_1 x51).f1), .int .i64 ((rd_impl_ClaimSpot a0_1 x51).f2), .int .i64 ((rd_impl_ClaimSpot a0_1 x51).f3), (sv_str ((rd_impl_ClaimSpot a0_1 x51).f4))])] rfl ⟨.inl rfl, ⟨.inl rfl, ⟨.inl rfl, ⟨.inl rfl, ⟨.inl rfl, ⟨.inl rfl, trivial⟩⟩⟩⟩⟩⟩ ⟨rfl, ⟨rfl, trivial⟩⟩ ?_
  conv => whnf
  refine br_d H (fun c H => ?_) (fun c H => ?_)
  conv => whnf
  refine cut_ 808 [(2, .bool false)] [] rfl ⟨.inl rfl, trivial⟩ trivial ?_
  conv => whnf
  injection H with H; subst H
  exact ret_fz [] (rtA_eq rfl)
  conv => whnf
  refine br_d H (fun c H => ?_) (fun c H => ?_)
  conv => whnf
  refine Br.t ft_ ?_
  conv => whnf
  refine Br.t ft_ ?_
  conv => whnf
  refine Br.t ft_ ?_
  conv => whnf
  refine Br.t ft_ ?_
  conv => whnf
  refine Br.t rfl ?_
  conv => whnf
  refine Br.t rfl ?_
  conv => whnf
  refine Br.t rfl ?_
  conv => whnf
  refine Br.t rfl ?_
  conv => whnf
  refine Br.t rfl ?_
  conv => whnf
  refine Br.t rfl ?_
  conv => whnf
  refine Br.t rfl ?_
  conv => whnf
  refine Br.t rfl ?_
  conv => whnf
  refine cut_ 952 [(1, .bp 0 0), (49, (sv_S_impl_ClaimSpot a0_1)), (50, .int .i64 (a0_1.length : Int)), (51, .int .i64 x51), (123, .bool true)] [(0, .box [(sv_S_impl_ClaimFoe a0_0), (sv_S_impl_ClaimSpot a0_1), (sv_str a0_2), (sv_S_impl_ClaimPart a0_3), .int .i64 a0_4])] rfl ⟨.inl rfl, ⟨.inl rfl, ⟨.inl rfl, ⟨.inl rfl, ⟨.inl rfl, trivial⟩⟩⟩⟩⟩ ⟨rfl, trivial⟩ ?_
  conv => whnf
  refine Br.t rfl ?_
  conv => whnf
  refine cut_ 960 [(2, .bool false)] [] rfl ⟨.inl rfl, trivial⟩ trivial ?_
  conv => whnf
  injection H with H; subst H
  exact ret_fz [] (rtA_eq rfl)
  conv => whnf
  refine Br.f ff_ ?_
  conv => whnf
  refine Br.f ff_ ?_
  conv => whnf
  revert H; refine bind_elim (fun t2032 A H => ?_)
  refine call_mk (impl_names.ac A) (avAL_cons (avA_shut' rfl) (avAL_nil)) (Or.inl rfl) rfl rfl (Nat.le_of_ble_eq_true rfl) ?_
  conv => whnf
  refine Br.f ff_ ?_
  conv => whnf
  refine Br.f ff_ ?_
  conv => whnf
  refine br_nt H (fun c H => ?_) (fun c H => ?_)
  conv => whnf
  refine Br.f ff_ ?_
  conv => whnf
  revert H; refine bind_elim (fun t2033 A H => ?_)
  refine call_mk (impl_ClaimBook_pairs.ac A) (avAL_cons (avA_agg (avL_cons (av_shut' rfl) (avL_cons (av_shut' rfl) (avL_cons (av_shut' rfl) (avL_cons (av_shut' rfl) (avL_cons (av_shut' rfl) (avL_nil))))))) (avAL_nil)) (Or.inl rfl) rfl rfl (Nat.le_of_ble_eq_true rfl) ?_
  conv => whnf
  refine Br.f ff_ ?_
  conv => whnf
  refine Br.f ff_ ?_
  conv => whnf
  refine Br.f ff_ ?_
  conv => whnf
  refine Br.f ff_ ?_
  conv => whnf
  refine Br.f ff_ ?_
  conv => whnf
  revert H; refine bind_elim (fun t2034 A H => ?_)
  refine call_mk (impl_anyFoes.ac A) (avAL_cons (avA_shut' rfl) (avAL_cons (avA_shut' rfl) (avAL_cons (avA_shut' rfl) (avAL_nil)))) (Or.inl rfl) rfl rfl (Nat.le_of_ble_eq_true rfl) ?_
  conv => whnf
  refine Br.f ff_ ?_
  conv => whnf
  refine cut_ 952 [(1, .bp 0 0), (49, (sv_S_impl_ClaimSpot a0_1)), (50, .int .i64 (a0_1.length : Int)), (51, .int .i64 x51), (123, .bool t2034)] [(0, .box [(sv_S_impl_ClaimFoe a0_0), (sv_S_impl_ClaimSpot a0_1), (sv_str a0_2), (sv_S_impl_ClaimPart a0_3), .int .i64 a0_4])] rfl ⟨.inl rfl, ⟨.inl rfl, ⟨.inl rfl, ⟨.inl rfl, ⟨.inl rfl, trivial⟩⟩⟩⟩⟩ ⟨rfl, trivial⟩ ?_
  conv => whnf
  refine br_t H (fun c H => ?_) (fun c H => ?_)
  conv => whnf
  refine cut_ 960 [(2, .bool false)] [] rfl ⟨.inl rfl, trivial⟩ trivial ?_
  conv => whnf
  injection H with H; subst H
  exact ret_fz [] (rtA_eq rfl)
  conv => whnf
  exact ⟨(k, wrap64 (x51 + 1)), [], ⟨H, lt_⟩, lt_, (fits_of ⟨.inl ⟨rfl, rfl⟩, trivial⟩ trivial fi_ trivial rfl)⟩
  conv => whnf
  refine Br.t ft_ ?_
  conv => whnf
  refine Br.t ft_ ?_
  conv => whnf
  refine Br.t ft_ ?_
  conv => whnf
  refine Br.t ft_ ?_
  conv => whnf
  refine Br.t ft_ ?_
  conv => whnf
  refine Br.t ft_ ?_
  conv => whnf
  refine Br.t ft_ ?_
  conv => whnf
  refine cut_ 952 [(1, .bp 0 0), (49, (sv_S_impl_ClaimSpot a0_1)), (50, .int .i64 (a0_1.length : Int)), (51, .int .i64 x51), (123, .bool true)] [(0, .box [(sv_S_impl_ClaimFoe a0_0), (sv_S_impl_ClaimSpot a0_1), (sv_str a0_2), (sv_S_impl_ClaimPart a0_3), .int .i64 a0_4])] rfl ⟨.inl rfl, ⟨.inl rfl, ⟨.inl rfl, ⟨.inl rfl, ⟨.inl rfl, trivial⟩⟩⟩⟩⟩ ⟨rfl, trivial⟩ ?_
  conv => whnf
  refine Br.t rfl ?_
  conv => whnf
  refine cut_ 960 [(2, .bool false)] [] rfl ⟨.inl rfl, trivial⟩ trivial ?_
  conv => whnf
  injection H with H; subst H
  exact ret_fz [] (rtA_eq rfl)
  conv => whnf
  refine Br.t ft_ ?_
  conv => whnf
  refine Br.t ft_ ?_
  conv => whnf
  refine Br.t ft_ ?_
  conv => whnf
  refine Br.t rfl ?_
  conv => whnf
  refine Br.t rfl ?_
  conv => whnf
  refine Br.t rfl ?_
  conv => whnf
  refine Br.t rfl ?_
  conv => whnf
  refine Br.t rfl ?_
  conv => whnf
  refine Br.t rfl ?_
  conv => whnf
  refine Br.t rfl ?_
  conv => whnf
  refine Br.t rfl ?_
  conv => whnf
  refine Br.t rfl ?_
  conv => whnf
  refine Br.t rfl ?_
  conv => whnf
  refine Br.t rfl ?_
  conv => whnf
  refine Br.t rfl ?_
  conv => whnf
  refine Br.t rfl ?_
  conv => whnf
  refine Br.t rfl ?_
  conv => whnf
  refine Br.t rfl ?_
  conv => whnf
  refine Br.t rfl ?_
  conv => whnf
  refine Br.t rfl ?_
  conv => whnf
  refine Br.t rfl ?_
  conv => whnf
  refine Br.t rfl ?_
  conv => whnf
  refine Br.t rfl ?_
  conv => whnf
  refine cut_ 800 [(1, .bp 0 0), (4, .bp 384 0), (49, (sv_S_impl_ClaimSpot a0_1)), (50, .int .i64 (a0_1.length : Int)), (51, .int .i64 x51), (104, .bool true)] [(0, .box [(sv_S_impl_ClaimFoe a0_0), (sv_S_impl_ClaimSpot a0_1), (sv_str a0_2), (sv_S_impl_ClaimPart a0_3), .int .i64 a0_4]), (384, .box [.str ((rd_impl_ClaimSpot a0_1 x51).f0), .int .i64 ((rd_impl_ClaimSpot a0_1 x51).f1), .int .i64 ((rd_impl_ClaimSpot a0_1 x51).f2), .int .i64 ((rd_impl_ClaimSpot a0_1 x51).f3), (sv_str ((rd_impl_ClaimSpot a0_1 x51).f4))])] rfl ⟨.inl rfl, ⟨.inl rfl, ⟨.inl rfl, ⟨.inl rfl, ⟨.inl rfl, ⟨.inl rfl, trivial⟩⟩⟩⟩⟩⟩ ⟨rfl, ⟨rfl, trivial⟩⟩ ?_
  conv => whnf
  refine Br.t rfl ?_
  conv => whnf
  refine cut_ 808 [(2, .bool false)] [] rfl ⟨.inl rfl, trivial⟩ trivial ?_
  conv => whnf
  injection H with H; subst H
  exact ret_fz [] (rtA_eq rfl)
  conv => whnf
  refine Br.f ff_ ?_
  conv => whnf
  refine Br.f ff_ ?_
  conv => whnf
  refine Br.f ff_ ?_
  conv => whnf
  refine Br.f ff_ ?_
  conv => whnf
  refine Br.f ff_ ?_
  conv => whnf
  refine Br.f ff_ ?_
  conv => whnf
  refine Br.f ff_ ?_
  conv => whnf
  refine Br.f ff_ ?_
  conv => whnf
  refine Br.f ff_ ?_
  conv => whnf
  refine Br.f ff_ ?_
  conv => whnf
  refine Br.f ff_ ?_
  conv => whnf
  refine Br.f ff_ ?_
  conv => whnf
  refine Br.f rfl ?_
  conv => whnf
  refine Br.f rfl ?_
  conv => whnf
  refine Br.f rfl ?_
  conv => whnf
  refine Br.f rfl ?_
  conv => whnf
  refine br_d H (fun c H => ?_) (fun c H => ?_)
  conv => whnf
  refine Br.t ft_ ?_
  conv => whnf
  refine Br.t ft_ ?_
  conv => whnf
  refine Br.t ft_ ?_
  conv => whnf
  refine Br.t rfl ?_
  conv => whnf
  refine Br.t rfl ?_
  conv => whnf
  refine Br.t rfl ?_
  conv => whnf
  refine Br.t rfl ?_
  conv => whnf
  refine Br.t rfl ?_
  conv => whnf
  refine Br.t rfl ?_
  conv => whnf
  refine Br.t rfl ?_
  conv => whnf
  refine Br.t rfl ?_
  conv => whnf
  refine Br.t rfl ?_
  conv => whnf
  refine Br.t rfl ?_
  conv => whnf
  refine Br.t rfl ?_
  conv => whnf
  refine Br.t rfl ?_
  conv => whnf
  refine Br.t rfl ?_
  conv => whnf
  refine Br.t rfl ?_
  conv => whnf
  refine Br.t rfl ?_
  conv => whnf
  refine Br.t rfl ?_
  conv => whnf
  refine cut_ 800 [(1, .bp 0 0), (4, .bp 384 0), (49, (sv_S_impl_ClaimSpot a0_1)), (50, .int .i64 (a0_1.length : Int)), (51, .int .i64 x51), (104, .bool true)] [(0, .box [(sv_S_impl_ClaimFoe a0_0), (sv_S_impl_ClaimSpot a0_1), (sv_str a0_2), (sv_S_impl_ClaimPart a0_3), .int .i64 a0_4]), (384, .box [.str ((rd_impl_ClaimSpot a0_1 x51).f0), .int .i64 ((rd_impl_ClaimSpot a0_1 x51).f1), .int .i64 ((rd_impl_ClaimSpot a0_1 x51).f2), .int .i64 ((rd_impl_ClaimSpot a0_1 x51).f3), (sv_str ((rd_impl_ClaimSpot a0_1 x51).f4))])] rfl ⟨.inl rfl, ⟨.inl rfl, ⟨.inl rfl, ⟨.inl rfl, ⟨.inl rfl, ⟨.inl rfl, trivial⟩⟩⟩⟩⟩⟩ ⟨rfl, ⟨rfl, trivial⟩⟩ ?_
  conv => whnf
  refine Br.t rfl ?_
  conv => whnf
  refine cut_ 808 [(2, .bool false)] [] rfl ⟨.inl rfl, trivial⟩ trivial ?_
  conv => whnf
  injection H with H; subst H
  exact ret_fz [] (rtA_eq rfl)
  conv => whnf
  refine Br.f ff_ ?_
  conv => whnf
  refine Br.f ff_ ?_
  conv => whnf
  refine Br.f ff_ ?_
  conv => whnf
  refine br_d H (fun c H => ?_) (fun c H => ?_)
  conv => whnf
  refine Br.t ft_ ?_
  conv => whnf
  refine Br.t ft_ ?_
  conv => whnf
  refine Br.t ft_ ?_
  conv => whnf
  refine Br.t rfl ?_
  conv => whnf
  refine Br.t rfl ?_
  conv => whnf
  refine Br.t rfl ?_
  conv => whnf
  refine Br.t rfl ?_
  conv => whnf
  refine Br.t rfl ?_
  conv => whnf
  refine Br.t rfl ?_
  conv => whnf
  refine Br.t rfl ?_
  conv => whnf
  refine Br.t rfl ?_
  conv => whnf
  refine Br.t rfl ?_
  conv => whnf
  refine Br.t rfl ?_
  conv => whnf
  refine Br.t rfl ?_
  conv => whnf
  refine Br.t rfl ?_
  conv => whnf
  refine cut_ 800 [(1, .bp 0 0), (4, .bp 384 0), (49, (sv_S_impl_ClaimSpot a0_1)), (50, .int .i64 (a0_1.length : Int)), (51, .int .i64 x51), (104, .bool true)] [(0, .box [(sv_S_impl_ClaimFoe a0_0), (sv_S_impl_ClaimSpot a0_1), (sv_str a0_2), (sv_S_impl_ClaimPart a0_3), .int .i64 a0_4]), (384, .box [.str ((rd_impl_ClaimSpot a0_1 x51).f0), .int .i64 ((rd_impl_ClaimSpot a0_1 x51).f1), .int .i64 ((rd_impl_ClaimSpot a0_1 x51).f2), .int .i64 ((rd_impl_ClaimSpot a0_1 x51).f3), (sv_str ((rd_impl_ClaimSpot a0_1 x51).f4))])] rfl ⟨.inl rfl, ⟨.inl rfl, ⟨.inl rfl, ⟨.inl rfl, ⟨.inl rfl, ⟨.inl rfl, trivial⟩⟩⟩⟩⟩⟩ ⟨rfl, ⟨rfl, trivial⟩⟩ ?_
  conv => whnf
  refine Br.t rfl ?_
  conv => whnf
  refine cut_ 808 [(2, .bool false)] [] rfl ⟨.inl rfl, trivial⟩ trivial ?_
  conv => whnf
  injection H with H; subst H
  exact ret_fz [] (rtA_eq rfl)
  conv => whnf
  refine Br.f ff_ ?_
  conv => whnf
  refine Br.f ff_ ?_
  conv => whnf
  refine Br.f ff_ ?_
  conv => whnf
  refine br_d H (fun c H => ?_) (fun c H => ?_)
  conv => whnf
  refine Br.t ft_ ?_
  conv => whnf
  refine Br.t ft_ ?_
  conv => whnf
  refine Br.t ft_ ?_
  conv => whnf
  refine Br.t ft_ ?_
  conv => whnf
  refine Br.t ft_ ?_
  conv => whnf
  refine Br.t rfl ?_
  conv => whnf
  refine Br.t rfl ?_
  conv => whnf
  refine Br.t rfl ?_
  conv => whnf
  refine Br.t rfl ?_
  conv => whnf
  refine Br.t rfl ?_
  conv => whnf
  refine Br.t rfl ?_
  conv => whnf
  refine cut_ 800 [(1, .bp 0 0), (4, .bp 384 0), (49, (sv_S_impl_ClaimSpot a0_1)), (50, .int .i64 (a0_1.length : Int)), (51, .int .i64 x51), (104, .bool true)] [(0, .box [(sv_S_impl_ClaimFoe a0_0), (sv_S_impl_ClaimSpot a0_1), (sv_str a0_2), (sv_S_impl_ClaimPart a0_3), .int .i64 a0_4]), (384, .box [.str ((rd_impl_ClaimSpot a0_1 x51).f0), .int .i64 ((rd_impl_ClaimSpot a0_1 x51).f1), .int .i64 ((rd_impl_ClaimSpot a0_1 x51).f2), .int .i64 ((rd_impl_ClaimSpot a0_1 x51).f3), (sv_str ((rd_impl_ClaimSpot a0_1 x51).f4))])] rfl ⟨.inl rfl, ⟨.inl rfl, ⟨.inl rfl, ⟨.inl rfl, ⟨.inl rfl, ⟨.inl rfl, trivial⟩⟩⟩⟩⟩⟩ ⟨rfl, ⟨rfl, trivial⟩⟩ ?_
  conv => whnf
  refine Br.t rfl ?_
  conv => whnf
  refine cut_ 808 [(2, .bool false)] [] rfl ⟨.inl rfl, trivial⟩ trivial ?_
  conv => whnf
  injection H with H; subst H
  exact ret_fz [] (rtA_eq rfl)
  conv => whnf
  refine Br.f ff_ ?_
  conv => whnf
  refine Br.f ff_ ?_
  conv => whnf
  refine Br.f ff_ ?_
  conv => whnf
  refine Br.f ff_ ?_
  conv => whnf
  refine Br.f ff_ ?_
  conv => whnf
  refine br_d H (fun c H => ?_) (fun c H => ?_)
  conv => whnf
  refine Br.t ft_ ?_
  conv => whnf
  refine Br.t ft_ ?_
  conv => whnf
  refine Br.t ft_ ?_
  conv => whnf
  refine Br.t ft_ ?_
  conv => whnf
  refine Br.t ft_ ?_
  conv => whnf
  refine cut_ 800 [(1, .bp 0 0), (4, .bp 384 0), (49, (sv_S_impl_ClaimSpot a0_1)), (50, .int .i64 (a0_1.length : Int)), (51, .int .i64 x51), (104, .bool true)] [(0, .box [(sv_S_impl_ClaimFoe a0_0), (sv_S_impl_ClaimSpot a0_1), (sv_str a0_2), (sv_S_impl_ClaimPart a0_3), .int .i64 a0_4]), (384, .box [.str ((rd_impl_ClaimSpot a0_1 x51).f0), .int .i64 ((rd_impl_ClaimSpot a0_1 x51).f1), .int .i64 ((rd_impl_ClaimSpot a0_1 x51).f2), .int .i64 ((rd_impl_ClaimSpot a0_1 x51).f3), (sv_str ((rd_impl_ClaimSpot a0_1 x51).f4))])] rfl ⟨.inl rfl, ⟨.inl rfl, ⟨.inl rfl, ⟨.inl rfl, ⟨.inl rfl, ⟨.inl rfl, trivial⟩⟩⟩⟩⟩⟩ ⟨rfl, ⟨rfl, trivial⟩⟩ ?_
  conv => whnf
  refine Br.t rfl ?_
  conv => whnf
  refine cut_ 808 [(2, .bool false)] [] rfl ⟨.inl rfl, trivial⟩ trivial ?_
  conv => whnf
  injection H with H; subst H
  exact ret_fz [] (rtA_eq rfl)
  conv => whnf
  refine Br.f ff_ ?_
  conv => whnf
  refine Br.f ff_ ?_
  conv => whnf
  refine Br.f ff_ ?_
  conv => whnf
  refine Br.f ff_ ?_
  conv => whnf
  refine Br.f ff_ ?_
  conv => whnf
  refine cut_ 800 [(1, .bp 0 0), (4, .bp 384 0), (49, (sv_S_impl_ClaimSpot a0_1)), (50, .int .i64 (a0_1.length : Int)), (51, .int .i64 x51), (104, .bool (decide (((rd_impl_ClaimSpot a0_1 x51).f3) > ((rd_impl_ClaimSpot a0_1 x51).f1))))] [(0, .box [(sv_S_impl_ClaimFoe a0_0), (sv_S_impl_ClaimSpot a0_1), (sv_str a0_2), (sv_S_impl_ClaimPart a0_3), .int .i64 a0_4]), (384, .box [.str ((rd_impl_ClaimSpot a0_1 x51).f0), .int .i64 ((rd_impl_ClaimSpot a0_1 x51).f1), .int .i64 ((rd_impl_ClaimSpot a0_1 x51).f2), .int .i64 ((rd_impl_ClaimSpot a0_1 x51).f3), (sv_str ((rd_impl_ClaimSpot a0_1 x51).f4))])] rfl ⟨.inl rfl, ⟨.inl rfl, ⟨.inl rfl, ⟨.inl rfl, ⟨.inl rfl, ⟨.inl rfl, trivial⟩⟩⟩⟩⟩⟩ ⟨rfl, ⟨rfl, trivial⟩⟩ ?_
  conv => whnf
  refine br_d H (fun c H => ?_) (fun c H => ?_)
  conv => whnf
  refine cut_ 808 [(2, .bool false)] [] rfl ⟨.inl rfl, trivial⟩ trivial ?_
  conv => whnf
  injection H with H; subst H
  exact ret_fz [] (rtA_eq rfl)
  conv => whnf
  refine br_d H (fun c H => ?_) (fun c H => ?_)
  conv => whnf
  refine Br.t ft_ ?_
  conv => whnf
  refine Br.t ft_ ?_
  conv => whnf
  refine Br.t ft_ ?_
  conv => whnf
  refine Br.t ft_ ?_
  conv => whnf
  refine Br.t rfl ?_
  conv => whnf
  refine Br.t rfl ?_
  conv => whnf
  refine Br.t rfl ?_
  conv => whnf
  refine Br.t rfl ?_
  conv => whnf
  refine Br.t rfl ?_
  conv => whnf
  refine Br.t rfl ?_
  conv => whnf
  refine Br.t rfl ?_
  conv => whnf
  refine Br.t rfl ?_
  conv => whnf
  refine cut_ 952 [(1, .bp 0 0), (49, (sv_S_impl_ClaimSpot a0_1)), (50, .int .i64 (a0_1.length : Int)), (51, .int .i64 x51), (123, .bool true)] [(0, .box [(sv_S_impl_ClaimFoe a0_0), (sv_S_impl_ClaimSpot a0_1), (sv_str a0_2), (sv_S_impl_ClaimPart a0_3), .int .i64 a0_4])] rfl ⟨.inl rfl, ⟨.inl rfl, ⟨.inl rfl, ⟨.inl rfl, ⟨.inl rfl, trivial⟩⟩⟩⟩⟩ ⟨rfl, trivial⟩ ?_
  conv => whnf
  refine Br.t rfl ?_
  conv => whnf
  refine cut_ 960 [(2, .bool false)] [] rfl ⟨.inl rfl, trivial⟩ trivial ?_
  conv => whnf
  injection H with H; subst H
  exact ret_fz [] (rtA_eq rfl)
  conv => whnf
  refine Br.f ff_ ?_
  conv => whnf
  refine Br.f ff_ ?_
  conv => whnf
  revert H; refine bind_elim (fun t2035 A H => ?_)
  refine call_mk (impl_names.ac A) (avAL_cons (avA_shut' rfl) (avAL_nil)) (Or.inl rfl) rfl rfl (Nat.le_of_ble_eq_true rfl) ?_
  conv => whnf
  refine Br.f ff_ ?_
  conv => whnf
  refine Br.f ff_ ?_
  conv => whnf
  refine br_nt H (fun c H => ?_) (fun c H => ?_)
  conv => whnf
  refine Br.f ff_ ?_
  conv => whnf
  revert H; refine bind_elim (fun t2036 A H => ?_)
  refine call_mk (impl_ClaimBook_pairs.ac A) (avAL_cons (avA_agg (avL_cons (av_shut' rfl) (avL_cons (av_shut' rfl) (avL_cons (av_shut' rfl) (avL_cons (av_shut' rfl) (avL_cons (av_shut' rfl) (avL_nil))))))) (avAL_nil)) (Or.inl rfl) rfl rfl (Nat.le_of_ble_eq_true rfl) ?_
  conv => whnf
  refine Br.f ff_ ?_
  conv => whnf
  refine Br.f ff_ ?_
  conv => whnf
  refine Br.f ff_ ?_
  conv => whnf
  refine Br.f ff_ ?_
  conv => whnf
  refine Br.f ff_ ?_
  conv => whnf
  revert H; refine bind_elim (fun t2037 A H => ?_)
  refine call_mk (impl_anyFoes.ac A) (avAL_cons (avA_shut' rfl) (avAL_cons (avA_shut' rfl) (avAL_cons (avA_shut' rfl) (avAL_nil)))) (Or.inl rfl) rfl rfl (Nat.le_of_ble_eq_true rfl) ?_
  conv => whnf
  refine Br.f ff_ ?_
  conv => whnf
  refine cut_ 952 [(1, .bp 0 0), (49, (sv_S_impl_ClaimSpot a0_1)), (50, .int .i64 (a0_1.length : Int)), (51, .int .i64 x51), (123, .bool t2037)] [(0, .box [(sv_S_impl_ClaimFoe a0_0), (sv_S_impl_ClaimSpot a0_1), (sv_str a0_2), (sv_S_impl_ClaimPart a0_3), .int .i64 a0_4])] rfl ⟨.inl rfl, ⟨.inl rfl, ⟨.inl rfl, ⟨.inl rfl, ⟨.inl rfl, trivial⟩⟩⟩⟩⟩ ⟨rfl, trivial⟩ ?_
  conv => whnf
  refine br_t H (fun c H => ?_) (fun c H => ?_)
  conv => whnf
  refine cut_ 960 [(2, .bool false)] [] rfl ⟨.inl rfl, trivial⟩ trivial ?_
  conv => whnf
  injection H with H; subst H
  exact ret_fz [] (rtA_eq rfl)
  conv => whnf
  exact ⟨(k, wrap64 (x51 + 1)), [], ⟨H, lt_⟩, lt_, (fits_of ⟨.inl ⟨rfl, rfl⟩, trivial⟩ trivial fi_ trivial rfl)⟩
  conv => whnf
  refine Br.t ft_ ?_
  conv => whnf
  refine Br.t ft_ ?_
  conv => whnf
  refine Br.t ft_ ?_
  conv => whnf
  refine Br.t ft_ ?_
  conv => whnf
  refine Br.t ft_ ?_
  conv => whnf
  refine Br.t ft_ ?_
  conv => whnf
  refine Br.t ft_ ?_
  conv => whnf
  refine cut_ 952 [(1, .bp 0 0), (49, (sv_S_impl_ClaimSpot a0_1)), (50, .int .i64 (a0_1.length : Int)), (51, .int .i64 x51), (123, .bool true)] [(0, .box [(sv_S_impl_ClaimFoe a0_0), (sv_S_impl_ClaimSpot a0_1), (sv_str a0_2), (sv_S_impl_ClaimPart a0_3), .int .i64 a0_4])] rfl ⟨.inl rfl, ⟨.inl rfl, ⟨.inl rfl, ⟨.inl rfl, ⟨.inl rfl, trivial⟩⟩⟩⟩⟩ ⟨rfl, trivial⟩ ?_
  conv => whnf
  refine Br.t rfl ?_
  conv => whnf
  refine cut_ 960 [(2, .bool false)] [] rfl ⟨.inl rfl, trivial⟩ trivial ?_
  conv => whnf
  injection H with H; subst H
  exact ret_fz [] (rtA_eq rfl)
  conv => whnf
  refine Br.t ft_ ?_
  conv => whnf
  refine Br.t ft_ ?_
  conv => whnf
  refine Br.t ft_ ?_
  conv => whnf
  refine Br.t ft_ ?_
  conv => whnf
  refine Br.t rfl ?_
  conv => whnf
  refine Br.t rfl ?_
  conv => whnf
  refine Br.t rfl ?_
  conv => whnf
  refine Br.t rfl ?_
  conv => whnf
  refine Br.t rfl ?_
  conv => whnf
  refine Br.t rfl ?_
  conv => whnf
  refine Br.t rfl ?_
  conv => whnf
  refine Br.t rfl ?_
  conv => whnf
  refine Br.t rfl ?_
  conv => whnf
  refine Br.t rfl ?_
  conv => whnf
  refine Br.t rfl ?_
  conv => whnf
  refine Br.t rfl ?_
  conv => whnf
  refine Br.t rfl ?_
  conv => whnf
  refine Br.t rfl ?_
  conv => whnf
  refine Br.t rfl ?_
  conv => whnf
  refine Br.t rfl ?_
  conv => whnf
  refine Br.t rfl ?_
  conv => whnf
  refine Br.t rfl ?_
  conv => whnf
  refine Br.t rfl ?_
  conv => whnf
  refine Br.t rfl ?_
  conv => whnf
  refine Br.t rfl ?_
  conv => whnf
  refine Br.t rfl ?_
  conv => whnf
  refine Br.t rfl ?_
  conv => whnf
  refine Br.t rfl ?_
  conv => whnf
  refine cut_ 800 [(1, .bp 0 0), (4, .bp 384 0), (49, (sv_S_impl_ClaimSpot a0_1)), (50, .int .i64 (a0_1.length : Int)), (51, .int .i64 x51), (104, .bool true)] [(0, .box [(sv_S_impl_ClaimFoe a0_0), (sv_S_impl_ClaimSpot a0_1), (sv_str a0_2), (sv_S_impl_ClaimPart a0_3), .int .i64 a0_4]), (384, .box [.str ((rd_impl_ClaimSpot a0_1 x51).f0), .int .i64 ((rd_impl_ClaimSpot a0_1 x51).f1), .int .i64 ((rd_impl_ClaimSpot a0_1 x51).f2), .int .i64 ((rd_impl_ClaimSpot a0_1 x51).f3), (sv_str ((rd_impl_ClaimSpot a0_1 x51).f4))])] rfl ⟨.inl rfl, ⟨.inl rfl, ⟨.inl rfl, ⟨.inl rfl, ⟨.inl rfl, ⟨.inl rfl, trivial⟩⟩⟩⟩⟩⟩ ⟨rfl, ⟨rfl, trivial⟩⟩ ?_
  conv => whnf
  refine Br.t rfl ?_
  conv => whnf
  refine cut_ 808 [(2, .bool false)] [] rfl ⟨.inl rfl, trivial⟩ trivial ?_
  conv => whnf
  injection H with H; subst H
  exact ret_fz [] (rtA_eq rfl)
  conv => whnf
  refine impl_ClaimBookOk.l1_lp (a0_0 := a0_0) (a0_1 := a0_1) (a0_2 := a0_2) (a0_3 := a0_3) (a0_4 := a0_4) (k := k) H [] (fits_of ⟨.inl ⟨rfl, rfl⟩, trivial⟩ trivial fi_ trivial rfl) ?_
  intro k x128 hk H; rcases k with _ | k; exact none_elim H; rw [impl_ClaimBookOk.l1] at H; conv => whnf
  refine cut_ 400 [(1, .bp 0 0), (126, (sv_S_impl_ClaimPart a0_3)), (127, .int .i64 (a0_3.length : Int)), (128, .int .i64 x128), (129, .bool (decide (x128 < (a0_3.length : Int))))] [(0, .box [(sv_S_impl_ClaimFoe a0_0), (sv_S_impl_ClaimSpot a0_1), (sv_str a0_2), (sv_S_impl_ClaimPart a0_3), .int .i64 a0_4])] rfl ⟨.inl rfl, ⟨.inl rfl, ⟨.inl rfl, ⟨.inl rfl, ⟨.inl rfl, trivial⟩⟩⟩⟩⟩ ⟨rfl, trivial⟩ ?_
  conv => whnf
  refine br_d H (fun c H => ?_) (fun c H => ?_)
  conv => whnf
  refine nd_ H (fun c H => ?_)
  conv => whnf
  refine Nd.mk nf_ ?_
  conv => whnf
  refine El.mk (rdm_en_S_impl_ClaimPart _ _ nf_ nf_) ?_
  conv => whnf
  refine br_d H (fun c H => ?_) (fun c H => ?_)
  conv => whnf
  refine Br.t ft_ ?_
  conv => whnf
  refine Br.t ft_ ?_
  conv => whnf
  refine Br.t ft_ ?_
  conv => whnf
  refine Br.t ft_ ?_
  conv => whnf
  refine nd_ H (fun c H => ?_)
  conv => whnf
  refine nd_ H (fun c H => ?_)
  conv => whnf
  refine El.mk (rdm_en_S_impl_ClaimPart _ _ nf_ nf_) ?_
  conv => whnf
  refine Br.t ft_ ?_
  conv => whnf
  refine Br.t ft_ ?_
  conv => whnf
  refine Br.t ft_ ?_
  conv => whnf
  refine Br.t ft_ ?_
  conv => whnf
  refine Br.t ft_ ?_
  conv => whnf
  refine Br.t ft_ ?_
  conv => whnf
  refine Br.t ft_ ?_
  conv => whnf
  refine br_d H (fun c H => ?_) (fun c H => ?_)
  conv => whnf
  refine Br.t ft_ ?_
  conv => whnf
  refine Br.t ft_ ?_
  conv => whnf
  refine Br.t ft_ ?_
  conv => whnf
  refine Br.t ft_ ?_
  conv => whnf
  refine Br.t ft_ ?_
  conv => whnf
  refine Br.t rfl ?_
  conv => whnf
  refine Br.t rfl ?_
  conv => whnf
  refine Br.t rfl ?_
  conv => whnf
  refine Br.t rfl ?_
  conv => whnf
  refine Br.t rfl ?_
  conv => whnf
  refine Br.t rfl ?_
  conv => whnf
  refine Br.t rfl ?_
  conv => whnf
  refine Br.t rfl ?_
  conv => whnf
  refine Br.t rfl ?_
  conv => whnf
  refine Br.t rfl ?_
  conv => whnf
  refine Br.t rfl ?_
  conv => whnf
  refine Br.t rfl ?_
  conv => whnf
  refine Br.t rfl ?_
  conv => whnf
  refine Br.t rfl ?_
  conv => whnf
  refine cut_ 792 [(1, .bp 0 0), (5, .int .i64 x128), (7, .bp 464 0), (126, (sv_S_impl_ClaimPart a0_3)), (127, .int .i64 (a0_3.length : Int)), (128, .int .i64 x128), (173, .bool true)] [(0, .box [(sv_S_impl_ClaimFoe a0_0), (sv_S_impl_ClaimSpot a0_1), (sv_str a0_2), (sv_S_impl_ClaimPart a0_3), .int .i64 a0_4]), (464, .box [.int .i64 (((rd_impl_ClaimPart a0_3 x128).f0).f0), .int .i64 (((rd_impl_ClaimPart a0_3 x128).f0).f1), (sv_str (((rd_impl_ClaimPart a0_3 x128).f0).f2)), (sv_S_impl_ClaimUse (((rd_impl_ClaimPart a0_3 x128).f0).f3)), (sv_str (((rd_impl_ClaimPart a0_3 x128).f0).f4)), (sv_str (((rd_impl_ClaimPart a0_3 x128).f0).f5))])] rfl ⟨.inl rfl, ⟨.inl rfl, ⟨.inl rfl, ⟨.inl rfl, ⟨.inl rfl, ⟨.inl rfl, ⟨.inl rfl, trivial⟩⟩⟩⟩⟩⟩⟩ ⟨rfl, ⟨rfl, trivial⟩⟩ ?_
  conv => whnf
  refine Br.t rfl ?_
  conv => whnf
  refine cut_ 800 [(2, .bool false)] [] rfl ⟨.inl rfl, trivial⟩ trivial ?_
  conv => whnf
  injection H with H; subst H
  exact ret_fz [] (rtA_eq rfl)
  conv => whnf
  refine Br.f ff_ ?_
  conv => whnf
  refine Br.f ff_ ?_
  conv => whnf
  refine Br.f ff_ ?_
  conv => whnf
  refine Br.f ff_ ?_
  conv => whnf
  refine Br.f ff_ ?_
  conv => whnf
  refine br_d H (fun c H => ?_) (fun c H => ?_)
  conv => whnf
  refine Br.t ft_ ?_
  conv => whnf
  refine Br.t ft_ ?_
  conv => whnf
  refine Br.t ft_ ?_
  conv => whnf
  refine Br.t rfl ?_
  conv => whnf
  refine Br.t rfl ?_
  conv => whnf
  refine Br.t rfl ?_
  conv => whnf
  refine Br.t rfl ?_
  conv => whnf
  refine Br.t rfl ?_
  conv => whnf
  refine Br.t rfl ?_
  conv => whnf
  refine Br.t rfl ?_
  conv => whnf
  refine Br.t rfl ?_
  conv => whnf
  refine Br.t rfl ?_
  conv => whnf
  refine Br.t rfl ?_
  conv => whnf
  refine cut_ 792 [(1, .bp 0 0), (5, .int .i64 x128), (7, .bp 464 0), (126, (sv_S_impl_ClaimPart a0_3)), (127, .int .i64 (a0_3.length : Int)), (128, .int .i64 x128), (173, .bool true)] [(0, .box [(sv_S_impl_ClaimFoe a0_0), (sv_S_impl_ClaimSpot a0_1), (sv_str a0_2), (sv_S_impl_ClaimPart a0_3), .int .i64 a0_4]), (464, .box [.int .i64 (((rd_impl_ClaimPart a0_3 x128).f0).f0), .int .i64 (((rd_impl_ClaimPart a0_3 x128).f0).f1), (sv_str (((rd_impl_ClaimPart a0_3 x128).f0).f2)), (sv_S_impl_ClaimUse (((rd_impl_ClaimPart a0_3 x128).f0).f3)), (sv_str (((rd_impl_ClaimPart a0_3 x128).f0).f4)), (sv_str (((rd_impl_ClaimPart a0_3 x128).f0).f5))])] rfl ⟨.inl rfl, ⟨.inl rfl, ⟨.inl rfl, ⟨.inl rfl, ⟨.inl rfl, ⟨.inl rfl, ⟨.inl rfl, trivial⟩⟩⟩⟩⟩⟩⟩ ⟨rfl, ⟨rfl, trivial⟩⟩ ?_
  conv => whnf
  refine Br.t rfl ?_
  conv => whnf
  refine cut_ 800 [(2, .bool false)] [] rfl ⟨.inl rfl, trivial⟩ trivial ?_
  conv => whnf
  injection H with H; subst H
  exact ret_fz [] (rtA_eq rfl)
  conv => whnf
  refine Br.f ff_ ?_
  conv => whnf
  revert H; refine bind_elim (fun t2076 A H => ?_)
  refine call_mk (impl_ClaimWantOk.ac A) (avAL_cons (avA_agg (avL_cons (av_shut' rfl) (avL_cons (av_shut' rfl) (avL_cons (av_shut' rfl) (avL_cons (av_shut' rfl) (avL_cons (av_shut' rfl) (avL_cons (av_shut' rfl) (avL_nil)))))))) (avAL_nil)) (Or.inl rfl) rfl rfl (Nat.le_of_ble_eq_true rfl) ?_
  conv => whnf
  refine Br.f ff_ ?_
  conv => whnf
  refine Br.f ff_ ?_
  conv => whnf
  refine br_nt H (fun c H => ?_) (fun c H => ?_)
  conv => whnf
  refine Br.f ff_ ?_
  conv => whnf
  refine Br.f ff_ ?_
  conv => whnf
  revert H; refine bind_elim (fun t2077 A H => ?_)
  refine call_mk (impl_ClaimBook_knows.ac A) (avAL_cons (avA_agg (avL_cons (av_shut' rfl) (avL_cons (av_shut' rfl) (avL_cons (av_shut' rfl) (avL_cons (av_shut' rfl) (avL_cons (av_shut' rfl) (avL_nil))))))) (avAL_cons (avA_agg (avL_cons (av_shut' rfl) (avL_cons (av_shut' rfl) (avL_cons (av_shut' rfl) (avL_cons (av_shut' rfl) (avL_cons (av_shut' rfl) (avL_cons (av_shut' rfl) (avL_nil)))))))) (avAL_nil))) (Or.inl rfl) rfl rfl (Nat.le_of_ble_eq_true rfl) ?_
  conv => whnf
  refine Br.f ff_ ?_
  conv => whnf
  refine Br.f ff_ ?_
  conv => whnf
  refine br_nt H (fun c H => ?_) (fun c H => ?_)
  conv => whnf
  refine Br.f ff_ ?_
  conv => whnf
  refine Br.f ff_ ?_
  conv => whnf
  revert H; refine bind_elim (fun t2078 A H => ?_)
  refine call_mk (impl_ClaimBook_settled.ac A) (avAL_cons (avA_agg (avL_cons (av_shut' rfl) (avL_cons (av_shut' rfl) (avL_cons (av_shut' rfl) (avL_cons (av_shut' rfl) (avL_cons (av_shut' rfl) (avL_nil))))))) (avAL_cons (avA_agg (avL_cons (av_shut' rfl) (avL_cons (av_shut' rfl) (avL_cons (av_shut' rfl) (avL_cons (av_shut' rfl) (avL_cons (av_shut' rfl) (avL_cons (av_shut' rfl) (avL_nil)))))))) (avAL_nil))) (Or.inl rfl) rfl rfl (Nat.le_of_ble_eq_true rfl) ?_
  conv => whnf
  refine Br.f ff_ ?_
  conv => whnf
  refine Br.f ff_ ?_
  conv => whnf
  refine cut_ 792 [(1, .bp 0 0), (5, .int .i64 x128), (7, .bp 464 0), (126, (sv_S_impl_ClaimPart a0_3)), (127, .int .i64 (a0_3.length : Int)), (128, .int .i64 x128), (173, .bool (!t2078))] [(0, .box [(sv_S_impl_ClaimFoe a0_0), (sv_S_impl_ClaimSpot a0_1), (sv_str a0_2), (sv_S_impl_ClaimPart a0_3), .int .i64 a0_4]), (464, .box [.int .i64 (((rd_impl_ClaimPart a0_3 x128).f0).f0), .int .i64 (((rd_impl_ClaimPart a0_3 x128).f0).f1), (sv_str (((rd_impl_ClaimPart a0_3 x128).f0).f2)), (sv_S_impl_ClaimUse (((rd_impl_ClaimPart a0_3 x128).f0).f3)), (sv_str (((rd_impl_ClaimPart a0_3 x128).f0).f4)), (sv_str (((rd_impl_ClaimPart a0_3 x128).f0).f5))])] rfl ⟨.inl rfl, ⟨.inl rfl, ⟨.inl rfl, ⟨.inl rfl, ⟨.inl rfl, ⟨.inl rfl, ⟨.inl rfl, trivial⟩⟩⟩⟩⟩⟩⟩ ⟨rfl, ⟨rfl, trivial⟩⟩ ?_
  conv => whnf
  refine br_nt H (fun c H => ?_) (fun c H => ?_)
  conv => whnf
  refine Nd.mk nf_ ?_
  conv => whnf
  refine nd_ H (fun c H => ?_)
  conv => whnf
  refine impl_ClaimBookOk.l2_lp (a0_0 := a0_0) (a0_1 := a0_1) (a0_2 := a0_2) (a0_3 := a0_3) (a0_4 := a0_4) (x128 := x128) (k := k) H [] (fits_of ⟨.inl ⟨rfl, rfl⟩, trivial⟩ trivial fi_ trivial rfl) ?_
  intro k x179 hk H; rcases k with _ | k; exact none_elim H; rw [impl_ClaimBookOk.l2] at H; conv => whnf
  refine br_d H (fun c H => ?_) (fun c H => ?_)
  conv => whnf
  refine nd_ H (fun c H => ?_)
  conv => whnf
  refine Nd.mk nf_ ?_
  conv => whnf
  refine El.mk (el_of (ys := (a0_3.take (x128).toNat).map en_S_impl_ClaimPart) lm_ (rdm_en_S_impl_ClaimPart _ _ nf_ nf_)) ?_
  conv => whnf
  refine cut_ 880 [(1, .bp 0 0), (7, .bp 464 0), (9, .bp 864 0), (126, (sv_S_impl_ClaimPart a0_3)), (127, .int .i64 (a0_3.length : Int)), (128, .int .i64 x128), (177, .sl 7 ((x128).toNat) ((a0_3.take (x128).toNat).map en_S_impl_ClaimPart)), (178, .int .i64 ((x128).toNat : Int)), (179, .int .i64 x179)] [(0, .box [(sv_S_impl_ClaimFoe a0_0), (sv_S_impl_ClaimSpot a0_1), (sv_str a0_2), (sv_S_impl_ClaimPart a0_3), .int .i64 a0_4]), (464, .box [.int .i64 (((rd_impl_ClaimPart a0_3 x128).f0).f0), .int .i64 (((rd_impl_ClaimPart a0_3 x128).f0).f1), (sv_str (((rd_impl_ClaimPart a0_3 x128).f0).f2)), (sv_S_impl_ClaimUse (((rd_impl_ClaimPart a0_3 x128).f0).f3)), (sv_str (((rd_impl_ClaimPart a0_3 x128).f0).f4)), (sv_str (((rd_impl_ClaimPart a0_3 x128).f0).f5))]), (864, .box [.int .i64 (((rd_impl_ClaimPart (a0_3.take (x128).toNat) x179).f0).f0), .int .i64 (((rd_impl_ClaimPart (a0_3.take (x128).toNat) x179).f0).f1), (sv_str (((rd_impl_ClaimPart (a0_3.take (x128).toNat) x179).f0).f2)), (sv_S_impl_ClaimUse (((rd_impl_ClaimPart (a0_3.take (x128).toNat) x179).f0).f3)), (sv_str (((rd_impl_ClaimPart (a0_3.take (x128).toNat) x179).f0).f4)), (sv_str (((rd_impl_ClaimPart (a0_3.take (x128).toNat) x179).f0).f5)), .bool ((rd_impl_ClaimPart (a0_3.take (x128).toNat) x179).f1)])] rfl ⟨.inl rfl, ⟨.inl rfl, ⟨.inl rfl, ⟨.inl rfl, ⟨.inl rfl, ⟨.inl rfl, ⟨fz_sl rfl lm_ lm_, ⟨.inl rfl, ⟨.inl rfl, trivial⟩⟩⟩⟩⟩⟩⟩⟩⟩ ⟨rfl, ⟨rfl, ⟨rfl, trivial⟩⟩⟩ ?_
  conv => whnf
  revert H; refine bind_elim (fun t2079 A H => ?_)
  refine call_mk (impl_shareUse.ac A) (avAL_cons (avA_agg (avL_cons (av_shut' rfl) (avL_cons (av_shut' rfl) (avL_cons (av_shut' rfl) (avL_cons (av_shut' rfl) (avL_cons (av_shut' rfl) (avL_cons (av_shut' rfl) (avL_nil)))))))) (avAL_cons (avA_agg (avL_cons (av_shut' rfl) (avL_cons (av_shut' rfl) (avL_cons (av_shut' rfl) (avL_cons (av_shut' rfl) (avL_cons (av_shut' rfl) (avL_cons (av_shut' rfl) (avL_nil)))))))) (avAL_nil))) (Or.inl rfl) rfl rfl (Nat.le_of_ble_eq_true rfl) ?_
  conv => whnf
  refine br_t H (fun c H => ?_) (fun c H => ?_)
  conv => whnf
  refine Br.t ft_ ?_
  conv => whnf
  refine Br.t ft_ ?_
  conv => whnf
  refine Br.t ft_ ?_
  conv => whnf
  refine Br.t ft_ ?_
  conv => whnf
  refine cut_ 960 [(1, .bp 0 0), (7, .bp 464 0), (126, (sv_S_impl_ClaimPart a0_3)), (127, .int .i64 (a0_3.length : Int)), (128, .int .i64 x128), (177, .sl 7 ((x128).toNat) ((a0_3.take (x128).toNat).map en_S_impl_ClaimPart)), (178, .int .i64 ((x128).toNat : Int)), (179, .int .i64 x179), (192, .bool true)] [(0, .box [(sv_S_impl_ClaimFoe a0_0), (sv_S_impl_ClaimSpot a0_1), (sv_str a0_2), (sv_S_impl_ClaimPart a0_3), .int .i64 a0_4]), (464, .box [.int .i64 (((rd_impl_ClaimPart a0_3 x128).f0).f0), .int .i64 (((rd_impl_ClaimPart a0_3 x128).f0).f1), (sv_str (((rd_impl_ClaimPart a0_3 x128).f0).f2)), (sv_S_impl_ClaimUse (((rd_impl_ClaimPart a0_3 x128).f0).f3)), (sv_str (((rd_impl_ClaimPart a0_3 x128).f0).f4)), (sv_str (((rd_impl_ClaimPart a0_3 x128).f0).f5))])] rfl ⟨.inl rfl, ⟨.inl rfl, ⟨.inl rfl, ⟨.inl rfl, ⟨.inl rfl, ⟨.inl rfl, ⟨.inl rfl, ⟨.inl rfl, ⟨.inl rfl, trivial⟩⟩⟩⟩⟩⟩⟩⟩⟩ ⟨rfl, ⟨rfl, trivial⟩⟩ ?_
  conv => whnf
  refine Br.t rfl ?_
  conv => whnf
  refine cut_ 968 [(2, .bool false)] [] rfl ⟨.inl rfl, trivial⟩ trivial ?_
  conv => whnf
  injection H with H; subst H
  exact ret_fz [] (rtA_eq rfl)
  conv => whnf
  refine Br.f ff_ ?_
  conv => whnf
  refine Br.f ff_ ?_
  conv => whnf
  refine Br.f ff_ ?_
  conv => whnf
  revert H; refine bind_elim (fun t2080 A H => ?_)
  refine call_mk (impl_crosses.ac A) (avAL_cons (avA_agg (avL_cons (av_shut' rfl) (avL_cons (av_shut' rfl) (avL_cons (av_shut' rfl) (avL_cons (av_shut' rfl) (avL_cons (av_shut' rfl) (avL_cons (av_shut' rfl) (avL_nil)))))))) (avAL_cons (avA_agg (avL_cons (av_shut' rfl) (avL_cons (av_shut' rfl) (avL_cons (av_shut' rfl) (avL_cons (av_shut' rfl) (avL_cons (av_shut' rfl) (avL_cons (av_shut' rfl) (avL_nil)))))))) (avAL_nil))) (Or.inl rfl) rfl rfl (Nat.le_of_ble_eq_true rfl) ?_
  conv => whnf
  refine Br.f ff_ ?_
  conv => whnf
  refine cut_ 960 [(1, .bp 0 0), (7, .bp 464 0), (126, (sv_S_impl_ClaimPart a0_3)), (127, .int .i64 (a0_3.length : Int)), (128, .int .i64 x128), (177, .sl 7 ((x128).toNat) ((a0_3.take (x128).toNat).map en_S_impl_ClaimPart)), (178, .int .i64 ((x128).toNat : Int)), (179, .int .i64 x179), (192, .bool t2080)] [(0, .box [(sv_S_impl_ClaimFoe a0_0), (sv_S_impl_ClaimSpot a0_1), (sv_str a0_2), (sv_S_impl_ClaimPart a0_3), .int .i64 a0_4]), (464, .box [.int .i64 (((rd_impl_ClaimPart a0_3 x128).f0).f0), .int .i64 (((rd_impl_ClaimPart a0_3 x128).f0).f1), (sv_str (((rd_impl_ClaimPart a0_3 x128).f0).f2)), (sv_S_impl_ClaimUse (((rd_impl_ClaimPart a0_3 x128).f0).f3)), (sv_str (((rd_impl_ClaimPart a0_3 x128).f0).f4)), (sv_str (((rd_impl_ClaimPart a0_3 x128).f0).f5))])] rfl ⟨.inl rfl, ⟨.inl rfl, ⟨.inl rfl, ⟨.inl rfl, ⟨.inl rfl, ⟨.inl rfl, ⟨.inl rfl, ⟨.inl rfl, ⟨.inl rfl, trivial⟩⟩⟩⟩⟩⟩⟩⟩⟩ ⟨rfl, ⟨rfl, trivial⟩⟩ ?_
  conv => whnf
  refine br_t H (fun c H => ?_) (fun c H => ?_)
  conv => whnf
  refine cut_ 968 [(2, .bool false)] [] rfl ⟨.inl rfl, trivial⟩ trivial ?_
  conv => whnf
  injection H with H; subst H
  exact ret_fz [] (rtA_eq rfl)
  conv => whnf
  exact ⟨(k, wrap64 (x179 + 1)), [], ⟨H, lt_⟩, lt_, (fits_of ⟨.inl ⟨rfl, rfl⟩, trivial⟩ trivial fi_ trivial rfl)⟩
  conv => whnf
  exact ⟨(k, wrap64 (x128 + 1)), [], ⟨H, lt_⟩, lt_, (fits_of ⟨.inl ⟨rfl, rfl⟩, trivial⟩ trivial fi_ trivial rfl)⟩
  conv => whnf
  refine cut_ 800 [(2, .bool false)] [] rfl ⟨.inl rfl, trivial⟩ trivial ?_
  conv => whnf
  injection H with H; subst H
  exact ret_fz [] (rtA_eq rfl)
  conv => whnf
  refine Br.t ft_ ?_
  conv => whnf
  refine Br.t ft_ ?_
  conv => whnf
  refine Br.t ft_ ?_
  conv => whnf
  refine Br.t ft_ ?_
  conv => whnf
  refine cut_ 792 [(1, .bp 0 0), (5, .int .i64 x128), (7, .bp 464 0), (126, (sv_S_impl_ClaimPart a0_3)), (127, .int .i64 (a0_3.length : Int)), (128, .int .i64 x128), (173, .bool true)] [(0, .box [(sv_S_impl_ClaimFoe a0_0), (sv_S_impl_ClaimSpot a0_1), (sv_str a0_2), (sv_S_impl_ClaimPart a0_3), .int .i64 a0_4]), (464, .box [.int .i64 (((rd_impl_ClaimPart a0_3 x128).f0).f0), .int .i64 (((rd_impl_ClaimPart a0_3 x128).f0).f1), (sv_str (((rd_impl_ClaimPart a0_3 x128).f0).f2)), (sv_S_impl_ClaimUse (((rd_impl_ClaimPart a0_3 x128).f0).f3)), (sv_str (((rd_impl_ClaimPart a0_3 x128).f0).f4)), (sv_str (((rd_impl_ClaimPart a0_3 x128).f0).f5))])] rfl ⟨.inl rfl, ⟨.inl rfl, ⟨.inl rfl, ⟨.inl rfl, ⟨.inl rfl, ⟨.inl rfl, ⟨.inl rfl, trivial⟩⟩⟩⟩⟩⟩⟩ ⟨rfl, ⟨rfl, trivial⟩⟩ ?_
  conv => whnf
  refine Br.t rfl ?_
  conv => whnf
  refine cut_ 800 [(2, .bool false)] [] rfl ⟨.inl rfl, trivial⟩ trivial ?_
  conv => whnf
  injection H with H; subst H
  exact ret_fz [] (rtA_eq rfl)
  conv => whnf
  refine Br.t ft_ ?_
  conv => whnf
  refine Br.t ft_ ?_
  conv => whnf
  refine Br.t ft_ ?_
  conv => whnf
  refine Br.t ft_ ?_
  conv => whnf
  refine Br.t rfl ?_
  conv => whnf
  refine Br.t rfl ?_
  conv => whnf
  refine Br.t rfl ?_
  conv => whnf
  refine Br.t rfl ?_
  conv => whnf
  refine Br.t rfl ?_
  conv => whnf
  refine cut_ 792 [(1, .bp 0 0), (5, .int .i64 x128), (7, .bp 464 0), (126, (sv_S_impl_ClaimPart a0_3)), (127, .int .i64 (a0_3.length : Int)), (128, .int .i64 x128), (173, .bool true)] [(0, .box [(sv_S_impl_ClaimFoe a0_0), (sv_S_impl_ClaimSpot a0_1), (sv_str a0_2), (sv_S_impl_ClaimPart a0_3), .int .i64 a0_4]), (464, .box [.int .i64 (((rd_impl_ClaimPart a0_3 x128).f0).f0), .int .i64 (((rd_impl_ClaimPart a0_3 x128).f0).f1), (sv_str (((rd_impl_ClaimPart a0_3 x128).f0).f2)), (sv_S_impl_ClaimUse (((rd_impl_ClaimPart a0_3 x128).f0).f3)), (sv_str (((rd_impl_ClaimPart a0_3 x128).f0).f4)), (sv_str (((rd_impl_ClaimPart a0_3 x128).f0).f5))])] rfl ⟨.inl rfl, ⟨.inl rfl, ⟨.inl rfl, ⟨.inl rfl, ⟨.inl rfl, ⟨.inl rfl, ⟨.inl rfl, trivial⟩⟩⟩⟩⟩⟩⟩ ⟨rfl, ⟨rfl, trivial⟩⟩ ?_
  conv => whnf
  refine Br.t rfl ?_
  conv => whnf
  refine cut_ 800 [(2, .bool false)] [] rfl ⟨.inl rfl, trivial⟩ trivial ?_
  conv => whnf
  injection H with H; subst H
  exact ret_fz [] (rtA_eq rfl)
  conv => whnf
  refine Br.f ff_ ?_
  conv => whnf
  refine Br.f ff_ ?_
  conv => whnf
  refine Br.f ff_ ?_
  conv => whnf
  refine Br.f ff_ ?_
  conv => whnf
  refine Br.f ff_ ?_
  conv => whnf
  refine Br.f ff_ ?_
  conv => whnf
  refine Br.f ff_ ?_
  conv => whnf
  refine Br.f ff_ ?_
  conv => whnf
  refine Br.f ff_ ?_
  conv => whnf
  refine Br.f ff_ ?_
  conv => whnf
  refine Br.f ff_ ?_
  conv => whnf
  refine Br.f rfl ?_
  conv => whnf
  refine Br.f rfl ?_
  conv => whnf
  refine Br.f rfl ?_
  conv => whnf
  refine Br.f rfl ?_
  conv => whnf
  refine Br.f rfl ?_
  conv => whnf
  refine Br.f rfl ?_
  conv => whnf
  refine br_d H (fun c H => ?_) (fun c H => ?_)
  conv => whnf
  refine Br.t ft_ ?_
  conv => whnf
  refine Br.t ft_ ?_
  conv => whnf
  refine Br.t ft_ ?_
  conv => whnf
  refine Br.t rfl ?_
  conv => whnf
  refine Br.t rfl ?_
  conv => whnf
  refine Br.t rfl ?_
  conv => whnf
  refine Br.t rfl ?_
  conv => whnf
  refine Br.t rfl ?_
  conv => whnf
  refine Br.t rfl ?_
  conv => whnf
  refine Br.t rfl ?_
  conv => whnf
  refine Br.t rfl ?_
  conv => whnf
  refine Br.t rfl ?_
  conv => whnf
  refine Br.t rfl ?_
  conv => whnf
  refine cut_ 792 [(1, .bp 0 0), (5, .int .i64 x128), (7, .bp 464 0), (126, (sv_S_impl_ClaimPart a0_3)), (127, .int .i64 (a0_3.length : Int)), (128, .int .i64 x128), (173, .bool true)] [(0, .box [(sv_S_impl_ClaimFoe a0_0), (sv_S_impl_ClaimSpot a0_1), (sv_str a0_2), (sv_S_impl_ClaimPart a0_3), .int .i64 a0_4]), (464, .box [.int .i64 (((rd_impl_ClaimPart a0_3 x128).f0).f0), .int .i64 (((rd_impl_ClaimPart a0_3 x128).f0).f1), (sv_str (((rd_impl_ClaimPart a0_3 x128).f0).f2)), (sv_S_impl_ClaimUse (((rd_impl_ClaimPart a0_3 x128).f0).f3)), (sv_str (((rd_impl_ClaimPart a0_3 x128).f0).f4)), (sv_str (((rd_impl_ClaimPart a0_3 x128).f0).f5))])] rfl ⟨.inl rfl, ⟨.inl rfl, ⟨.inl rfl, ⟨.inl rfl, ⟨.inl rfl, ⟨.inl rfl, ⟨.inl rfl, trivial⟩⟩⟩⟩⟩⟩⟩ ⟨rfl, ⟨rfl, trivial⟩⟩ ?_
  conv => whnf
  refine Br.t rfl ?_
  conv => whnf
  refine cut_ 800 [(2, .bool false)] [] rfl ⟨.inl rfl, trivial⟩ trivial ?_
  conv => whnf
  injection H with H; subst H
  exact ret_fz [] (rtA_eq rfl)
  conv => whnf
  refine Br.f ff_ ?_
  conv => whnf
  revert H; refine bind_elim (fun t2081 A H => ?_)
  refine call_mk (impl_ClaimWantOk.ac A) (avAL_cons (avA_agg (avL_cons (av_shut' rfl) (avL_cons (av_shut' rfl) (avL_cons (av_shut' rfl) (avL_cons (av_shut' rfl) (avL_cons (av_shut' rfl) (avL_cons (av_shut' rfl) (avL_nil)))))))) (avAL_nil)) (Or.inl rfl) rfl rfl (Nat.le_of_ble_eq_true rfl) ?_
  conv => whnf
  refine Br.f ff_ ?_
  conv => whnf
  refine Br.f ff_ ?_
  conv => whnf
  refine br_nt H (fun c H => ?_) (fun c H => ?_)
  conv => whnf
  refine Br.f ff_ ?_
  conv => whnf
  refine Br.f ff_ ?_
  conv => whnf
  revert H; refine bind_elim (fun t2082 A H => ?_)
  refine call_mk (impl_ClaimBook_knows.ac A) (avAL_cons (avA_agg (avL_cons (av_shut' rfl) (avL_cons (av_shut' rfl) (avL_cons (av_shut' rfl) (avL_cons (av_shut' rfl) (avL_cons (av_shut' rfl) (avL_nil))))))) (avAL_cons (avA_agg (avL_cons (av_shut' rfl) (avL_cons (av_shut' rfl) (avL_cons (av_shut' rfl) (avL_cons (av_shut' rfl) (avL_cons (av_shut' rfl) (avL_cons (av_shut' rfl) (avL_nil)))))))) (avAL_nil))) (Or.inl rfl) rfl rfl (Nat.le_of_ble_eq_true rfl) ?_
  conv => whnf
  refine Br.f ff_ ?_
  conv => whnf
  refine Br.f ff_ ?_
  conv => whnf
  refine br_nt H (fun c H => ?_) (fun c H => ?_)
  conv => whnf
  refine Br.f ff_ ?_
  conv => whnf
  refine Br.f ff_ ?_
  conv => whnf
  revert H; refine bind_elim (fun t2083 A H => ?_)
  refine call_mk (impl_ClaimBook_settled.ac A) (avAL_cons (avA_agg (avL_cons (av_shut' rfl) (avL_cons (av_shut' rfl) (avL_cons (av_shut' rfl) (avL_cons (av_shut' rfl) (avL_cons (av_shut' rfl) (avL_nil))))))) (avAL_cons (avA_agg (avL_cons (av_shut' rfl) (avL_cons (av_shut' rfl) (avL_cons (av_shut' rfl) (avL_cons (av_shut' rfl) (avL_cons (av_shut' rfl) (avL_cons (av_shut' rfl) (avL_nil)))))))) (avAL_nil))) (Or.inl rfl) rfl rfl (Nat.le_of_ble_eq_true rfl) ?_
  conv => whnf
  refine Br.f ff_ ?_
  conv => whnf
  refine Br.f ff_ ?_
  conv => whnf
  refine cut_ 792 [(1, .bp 0 0), (5, .int .i64 x128), (7, .bp 464 0), (126, (sv_S_impl_ClaimPart a0_3)), (127, .int .i64 (a0_3.length : Int)), (128, .int .i64 x128), (173, .bool (!t2083))] [(0, .box [(sv_S_impl_ClaimFoe a0_0), (sv_S_impl_ClaimSpot a0_1), (sv_str a0_2), (sv_S_impl_ClaimPart a0_3), .int .i64 a0_4]), (464, .box [.int .i64 (((rd_impl_ClaimPart a0_3 x128).f0).f0), .int .i64 (((rd_impl_ClaimPart a0_3 x128).f0).f1), (sv_str (((rd_impl_ClaimPart a0_3 x128).f0).f2)), (sv_S_impl_ClaimUse (((rd_impl_ClaimPart a0_3 x128).f0).f3)), (sv_str (((rd_impl_ClaimPart a0_3 x128).f0).f4)), (sv_str (((rd_impl_ClaimPart a0_3 x128).f0).f5))])] rfl ⟨.inl rfl, ⟨.inl rfl, ⟨.inl rfl, ⟨.inl rfl, ⟨.inl rfl, ⟨.inl rfl, ⟨.inl rfl, trivial⟩⟩⟩⟩⟩⟩⟩ ⟨rfl, ⟨rfl, trivial⟩⟩ ?_
  conv => whnf
  refine br_nt H (fun c H => ?_) (fun c H => ?_)
  conv => whnf
  refine Nd.mk nf_ ?_
  conv => whnf
  refine nd_ H (fun c H => ?_)
  conv => whnf
  refine impl_ClaimBookOk.l3_lp (a0_0 := a0_0) (a0_1 := a0_1) (a0_2 := a0_2) (a0_3 := a0_3) (a0_4 := a0_4) (x128 := x128) (k := k) H [] (fits_of ⟨.inl ⟨rfl, rfl⟩, trivial⟩ trivial fi_ trivial rfl) ?_
  intro k x179_1 hk H; rcases k with _ | k; exact none_elim H; rw [impl_ClaimBookOk.l3] at H; conv => whnf
  refine br_d H (fun c H => ?_) (fun c H => ?_)
  conv => whnf
  refine nd_ H (fun c H => ?_)
  conv => whnf
  refine Nd.mk nf_ ?_
  conv => whnf
  refine El.mk (el_of (ys := (a0_3.take (x128).toNat).map en_S_impl_ClaimPart) lm_ (rdm_en_S_impl_ClaimPart _ _ nf_ nf_)) ?_
  conv => whnf
  refine cut_ 880 [(1, .bp 0 0), (7, .bp 464 0), (9, .bp 864 0), (126, (sv_S_impl_ClaimPart a0_3)), (127, .int .i64 (a0_3.length : Int)), (128, .int .i64 x128), (177, .sl 7 ((x128).toNat) ((a0_3.take (x128).toNat).map en_S_impl_ClaimPart)), (178, .int .i64 ((x128).toNat : Int)), (179, .int .i64 x179_1)] [(0, .box [(sv_S_impl_ClaimFoe a0_0), (sv_S_impl_ClaimSpot a0_1), (sv_str a0_2), (sv_S_impl_ClaimPart a0_3), .int .i64 a0_4]), (464, .box [.int .i64 (((rd_impl_ClaimPart a0_3 x128).f0).f0), .int .i64 (((rd_impl_ClaimPart a0_3 x128).f0).f1), (sv_str (((rd_impl_ClaimPart a0_3 x128).f0).f2)), (sv_S_impl_ClaimUse (((rd_impl_ClaimPart a0_3 x128).f0).f3)), (sv_str (((rd_impl_ClaimPart a0_3 x128).f0).f4)), (sv_str (((rd_impl_ClaimPart a0_3 x128).f0).f5))]), (864, .box [.int .i64 (((rd_impl_ClaimPart (a0_3.take (x128).toNat) x179_1).f0).f0), .int .i64 (((rd_impl_ClaimPart (a0_3.take (x128).toNat) x179_1).f0).f1), (sv_str (((rd_impl_ClaimPart (a0_3.take (x128).toNat) x179_1).f0).f2)), (sv_S_impl_ClaimUse (((rd_impl_ClaimPart (a0_3.take (x128).toNat) x179_1).f0).f3)), (sv_str (((rd_impl_ClaimPart (a0_3.take (x128).toNat) x179_1).f0).f4)), (sv_str (((rd_impl_ClaimPart (a0_3.take (x128).toNat) x179_1).f0).f5)), .bool ((rd_impl_ClaimPart (a0_3.take (x128).toNat) x179_1).f1)])] rfl ⟨.inl rfl, ⟨.inl rfl, ⟨.inl rfl, ⟨.inl rfl, ⟨.inl rfl, ⟨.inl rfl, ⟨fz_sl rfl lm_ lm_, ⟨.inl rfl, ⟨.inl rfl, trivial⟩⟩⟩⟩⟩⟩⟩⟩⟩ ⟨rfl, ⟨rfl, ⟨rfl, trivial⟩⟩⟩ ?_
  conv => whnf
  revert H; refine bind_elim (fun t2084 A H => ?_)
  refine call_mk (impl_shareUse.ac A) (avAL_cons (avA_agg (avL_cons (av_shut' rfl) (avL_cons (av_shut' rfl) (avL_cons (av_shut' rfl) (avL_cons (av_shut' rfl) (avL_cons (av_shut' rfl) (avL_cons (av_shut' rfl) (avL_nil)))))))) (avAL_cons (avA_agg (avL_cons (av_shut' rfl) (avL_cons (av_shut' rfl) (avL_cons (av_shut' rfl) (avL_cons (av_shut' rfl) (avL_cons (av_shut' rfl) (avL_cons (av_shut' rfl) (avL_nil)))))))) (avAL_nil))) (Or.inl rfl) rfl rfl (Nat.le_of_ble_eq_true rfl) ?_
  conv => whnf
  refine br_t H (fun c H => ?_) (fun c H => ?_)
  conv => whnf
  refine Br.t ft_ ?_
  conv => whnf
  refine Br.t ft_ ?_
  conv => whnf
  refine Br.t ft_ ?_
  conv => whnf
  refine Br.t ft_ ?_
  conv => whnf
  refine cut_ 960 [(1, .bp 0 0), (7, .bp 464 0), (126, (sv_S_impl_ClaimPart a0_3)), (127, .int .i64 (a0_3.length : Int)), (128, .int .i64 x128), (177, .sl 7 ((x128).toNat) ((a0_3.take (x128).toNat).map en_S_impl_ClaimPart)), (178, .int .i64 ((x128).toNat : Int)), (179, .int .i64 x179_1), (192, .bool true)] [(0, .box [(sv_S_impl_ClaimFoe a0_0), (sv_S_impl_ClaimSpot a0_1), (sv_str a0_2), (sv_S_impl_ClaimPart a0_3), .int .i64 a0_4]), (464, .box [.int .i64 (((rd_impl_ClaimPart a0_3 x128).f0).f0), .int .i64 (((rd_impl_ClaimPart a0_3 x128).f0).f1), (sv_str (((rd_impl_ClaimPart a0_3 x128).f0).f2)), (sv_S_impl_ClaimUse (((rd_impl_ClaimPart a0_3 x128).f0).f3)), (sv_str (((rd_impl_ClaimPart a0_3 x128).f0).f4)), (sv_str (((rd_impl_ClaimPart a0_3 x128).f0).f5))])] rfl ⟨.inl rfl, ⟨.inl rfl, ⟨.inl rfl, ⟨.inl rfl, ⟨.inl rfl, ⟨.inl rfl, ⟨.inl rfl, ⟨.inl rfl, ⟨.inl rfl, trivial⟩⟩⟩⟩⟩⟩⟩⟩⟩ ⟨rfl, ⟨rfl, trivial⟩⟩ ?_
  conv => whnf
  refine Br.t rfl ?_
  conv => whnf
  refine cut_ 968 [(2, .bool false)] [] rfl ⟨.inl rfl, trivial⟩ trivial ?_
  conv => whnf
  injection H with H; subst H
  exact ret_fz [] (rtA_eq rfl)
  conv => whnf
  refine Br.f ff_ ?_
  conv => whnf
  refine Br.f ff_ ?_
  conv => whnf
  refine Br.f ff_ ?_
  conv => whnf
  revert H; refine bind_elim (fun t2085 A H => ?_)
  refine call_mk (impl_crosses.ac A) (avAL_cons (avA_agg (avL_cons (av_shut' rfl) (avL_cons (av_shut' rfl) (avL_cons (av_shut' rfl) (avL_cons (av_shut' rfl) (avL_cons (av_shut' rfl) (avL_cons (av_shut' rfl) (avL_nil)))))))) (avAL_cons (avA_agg (avL_cons (av_shut' rfl) (avL_cons (av_shut' rfl) (avL_cons (av_shut' rfl) (avL_cons (av_shut' rfl) (avL_cons (av_shut' rfl) (avL_cons (av_shut' rfl) (avL_nil)))))))) (avAL_nil))) (Or.inl rfl) rfl rfl (Nat.le_of_ble_eq_true rfl) ?_
  conv => whnf
  refine Br.f ff_ ?_
  conv => whnf
  refine cut_ 960 [(1, .bp 0 0), (7, .bp 464 0), (126, (sv_S_impl_ClaimPart a0_3)), (127, .int .i64 (a0_3.length : Int)), (128, .int .i64 x128), (177, .sl 7 ((x128).toNat) ((a0_3.take (x128).toNat).map en_S_impl_ClaimPart)), (178, .int .i64 ((x128).toNat : Int)), (179, .int .i64 x179_1), (192, .bool t2085)] [(0, .box [(sv_S_impl_ClaimFoe a0_0), (sv_S_impl_ClaimSpot a0_1), (sv_str a0_2), (sv_S_impl_ClaimPart a0_3), .int .i64 a0_4]), (464, .box [.int .i64 (((rd_impl_ClaimPart a0_3 x128).f0).f0), .int .i64 (((rd_impl_ClaimPart a0_3 x128).f0).f1), (sv_str (((rd_impl_ClaimPart a0_3 x128).f0).f2)), (sv_S_impl_ClaimUse (((rd_impl_ClaimPart a0_3 x128).f0).f3)), (sv_str (((rd_impl_ClaimPart a0_3 x128).f0).f4)), (sv_str (((rd_impl_ClaimPart a0_3 x128).f0).f5))])] rfl ⟨.inl rfl, ⟨.inl rfl, ⟨.inl rfl, ⟨.inl rfl, ⟨.inl rfl, ⟨.inl rfl, ⟨.inl rfl, ⟨.inl rfl, ⟨.inl rfl, trivial⟩⟩⟩⟩⟩⟩⟩⟩⟩ ⟨rfl, ⟨rfl, trivial⟩⟩ ?_
  conv => whnf
  refine br_t H (fun c H => ?_) (fun c H => ?_)
  conv => whnf
  refine cut_ 968 [(2, .bool false)] [] rfl ⟨.inl rfl, trivial⟩ trivial ?_
  conv => whnf
  injection H with H; subst H
  exact ret_fz [] (rtA_eq rfl)
  conv => whnf
  exact ⟨(k, wrap64 (x179_1 + 1)), [], ⟨H, lt_⟩, lt_, (fits_of ⟨.inl ⟨rfl, rfl⟩, trivial⟩ trivial fi_ trivial rfl)⟩
  conv => whnf
  exact ⟨(k, wrap64 (x128 + 1)), [], ⟨H, lt_⟩, lt_, (fits_of ⟨.inl ⟨rfl, rfl⟩, trivial⟩ trivial fi_ trivial rfl)⟩
  conv => whnf
  refine cut_ 800 [(2, .bool false)] [] rfl ⟨.inl rfl, trivial⟩ trivial ?_
  conv => whnf
  injection H with H; subst H
  exact ret_fz [] (rtA_eq rfl)
  conv => whnf
  refine Br.t ft_ ?_
  conv => whnf
  refine Br.t ft_ ?_
  conv => whnf
  refine Br.t ft_ ?_
  conv => whnf
  refine Br.t ft_ ?_
  conv => whnf
  refine cut_ 792 [(1, .bp 0 0), (5, .int .i64 x128), (7, .bp 464 0), (126, (sv_S_impl_ClaimPart a0_3)), (127, .int .i64 (a0_3.length : Int)), (128, .int .i64 x128), (173, .bool true)] [(0, .box [(sv_S_impl_ClaimFoe a0_0), (sv_S_impl_ClaimSpot a0_1), (sv_str a0_2), (sv_S_impl_ClaimPart a0_3), .int .i64 a0_4]), (464, .box [.int .i64 (((rd_impl_ClaimPart a0_3 x128).f0).f0), .int .i64 (((rd_impl_ClaimPart a0_3 x128).f0).f1), (sv_str (((rd_impl_ClaimPart a0_3 x128).f0).f2)), (sv_S_impl_ClaimUse (((rd_impl_ClaimPart a0_3 x128).f0).f3)), (sv_str (((rd_impl_ClaimPart a0_3 x128).f0).f4)), (sv_str (((rd_impl_ClaimPart a0_3 x128).f0).f5))])] rfl ⟨.inl rfl, ⟨.inl rfl, ⟨.inl rfl, ⟨.inl rfl, ⟨.inl rfl, ⟨.inl rfl, ⟨.inl rfl, trivial⟩⟩⟩⟩⟩⟩⟩ ⟨rfl, ⟨rfl, trivial⟩⟩ ?_
  conv => whnf
  refine Br.t rfl ?_
  conv => whnf
  refine cut_ 800 [(2, .bool false)] [] rfl ⟨.inl rfl, trivial⟩ trivial ?_
  conv => whnf
  injection H with H; subst H
  exact ret_fz [] (rtA_eq rfl)
  conv => whnf
  refine Br.t ft_ ?_
  conv => whnf
  refine Br.t ft_ ?_
  conv => whnf
  refine Br.t ft_ ?_
  conv => whnf
  refine Br.t ft_ ?_
  conv => whnf
  refine Br.t rfl ?_
  conv => whnf
  refine Br.t rfl ?_
  conv => whnf
  refine Br.t rfl ?_
  conv => whnf
  refine Br.t rfl ?_
  conv => whnf
  refine Br.t rfl ?_
  conv => whnf
  refine cut_ 792 [(1, .bp 0 0), (5, .int .i64 x128), (7, .bp 464 0), (126, (sv_S_impl_ClaimPart a0_3)), (127, .int .i64 (a0_3.length : Int)), (128, .int .i64 x128), (173, .bool true)] [(0, .box [(sv_S_impl_ClaimFoe a0_0), (sv_S_impl_ClaimSpot a0_1), (sv_str a0_2), (sv_S_impl_ClaimPart a0_3), .int .i64 a0_4]), (464, .box [.int .i64 (((rd_impl_ClaimPart a0_3 x128).f0).f0), .int .i64 (((rd_impl_ClaimPart a0_3 x128).f0).f1), (sv_str (((rd_impl_ClaimPart a0_3 x128).f0).f2)), (sv_S_impl_ClaimUse (((rd_impl_ClaimPart a0_3 x128).f0).f3)), (sv_str (((rd_impl_ClaimPart a0_3 x128).f0).f4)), (sv_str (((rd_impl_ClaimPart a0_3 x128).f0).f5))])] rfl ⟨.inl rfl, ⟨.inl rfl, ⟨.inl rfl, ⟨.inl rfl, ⟨.inl rfl, ⟨.inl rfl, ⟨.inl rfl, trivial⟩⟩⟩⟩⟩⟩⟩ ⟨rfl, ⟨rfl, trivial⟩⟩ ?_
  conv => whnf
  refine Br.t rfl ?_
  conv => whnf
  refine cut_ 800 [(2, .bool false)] [] rfl ⟨.inl rfl, trivial⟩ trivial ?_
  conv => whnf
  injection H with H; subst H
  exact ret_fz [] (rtA_eq rfl)
  conv => whnf
  injection H with H; subst H
  exact ret_fz [] (rtA_eq rfl)
  conv => whnf
  refine Br.t ft_ ?_
  conv => whnf
  refine Br.t ft_ ?_
  conv => whnf
  refine Br.t ft_ ?_
  conv => whnf
  refine Br.t rfl ?_
  conv => whnf
  refine Br.t rfl ?_
  conv => whnf
  refine Br.t rfl ?_
  conv => whnf
  refine Br.t rfl ?_
  conv => whnf
  refine Br.t rfl ?_
  conv => whnf
  refine Br.t rfl ?_
  conv => whnf
  refine Br.t rfl ?_
  conv => whnf
  refine Br.t rfl ?_
  conv => whnf
  refine Br.t rfl ?_
  conv => whnf
  refine cut_ 320 [(1, .bp 0 0), (47, .bool true)] [(0, .box [(sv_S_impl_ClaimFoe a0_0), (sv_S_impl_ClaimSpot a0_1), (sv_str a0_2), (sv_S_impl_ClaimPart a0_3), .int .i64 a0_4])] rfl ⟨.inl rfl, ⟨.inl rfl, trivial⟩⟩ ⟨rfl, trivial⟩ ?_
  conv => whnf
  refine Br.t rfl ?_
  conv => whnf
  refine cut_ 328 [(2, .bool false)] [] rfl ⟨.inl rfl, trivial⟩ trivial ?_
  conv => whnf
  injection H with H; subst H
  exact ret_fz [] (rtA_eq rfl)
  conv => whnf
  refine Br.t ft_ ?_
  conv => whnf
  refine Br.t ft_ ?_
  conv => whnf
  refine Br.t ft_ ?_
  conv => whnf
  refine Br.t ft_ ?_
  conv => whnf
  refine Br.t rfl ?_
  conv => whnf
  refine Br.t rfl ?_
  conv => whnf
  refine Br.t rfl ?_
  conv => whnf
  refine Br.t rfl ?_
  conv => whnf
  refine Br.t rfl ?_
  conv => whnf
  refine Br.t rfl ?_
  conv => whnf
  refine Br.t rfl ?_
  conv => whnf
  refine Br.t rfl ?_
  conv => whnf
  refine Br.t rfl ?_
  conv => whnf
  refine Br.t rfl ?_
  conv => whnf
  refine Br.t rfl ?_
  conv => whnf
  refine Br.t rfl ?_
  conv => whnf
  refine Br.t rfl ?_
  conv => whnf
  refine Br.t rfl ?_
  conv => whnf
  refine Br.t rfl ?_
  conv => whnf
  refine Br.t rfl ?_
  conv => whnf
  refine Br.t rfl ?_
  conv => whnf
  refine Br.t rfl ?_
  conv => whnf
  refine Br.t rfl ?_
  conv => whnf
  refine Br.t rfl ?_
  conv => whnf
  refine Br.t rfl ?_
  conv => whnf
  refine Br.t rfl ?_
  conv => whnf
  refine Br.t rfl ?_
  conv => whnf
  refine cut_ 320 [(1, .bp 0 0), (47, .bool true)] [(0, .box [(sv_S_impl_ClaimFoe a0_0), (sv_S_impl_ClaimSpot a0_1), (sv_str a0_2), (sv_S_impl_ClaimPart a0_3), .int .i64 a0_4])] rfl ⟨.inl rfl, ⟨.inl rfl, trivial⟩⟩ ⟨rfl, trivial⟩ ?_
  conv => whnf
  refine Br.t rfl ?_
  conv => whnf
  refine cut_ 328 [(2, .bool false)] [] rfl ⟨.inl rfl, trivial⟩ trivial ?_
  conv => whnf
  injection H with H; subst H
  exact ret_fz [] (rtA_eq rfl)
theorem slices_Equal_string_string.l0_lp {F : (Exit → St → Prop) → St → Prop} {hv : List Tmp} {Q : Exit → St → Prop} {σ : St} {r : Bool} {k : Nat} {l0 : List ByteArray} {l1 : List ByteArray} {x13 : Int} (H : slices_Equal_string_string.l0 k l0 l1 x13 = some r) (rn : List (Option Nat)) (h1 : Fits σ σ [] [(13, .int .i64 x13)] [] [] rn)
    (h2 : ∀ (k0 : Nat) (x13 : Int), k0 < k + 1 → slices_Equal_string_string.l0 k0 l0 l1 x13 = some r → headN σ hv [] [(13, .int .i64 x13)] [] [] (F (fun e σ' => match e with | .normal => ∃ (y : Nat × Int) (rn : List (Option Nat)), (slices_Equal_string_string.l0 y.1 l0 l1 y.2 = some r ∧ y.1 < k + 1) ∧ y.1 < k0 ∧ Fits σ σ' [] [(13, .int .i64 y.2)] [] [] rn | e => Q e σ'))) : Lp F hv Q σ := by
  unfold Lp
  refine ⟨Nat × Int, fun x => slices_Equal_string_string.l0 x.1 l0 l1 x.2 = some r ∧ x.1 < k + 1, fun x => x.1, [], fun x => [(13, .int .i64 x.2)], fun x => [], fun x => [], ⟨(k, x13), rn, ⟨H, Nat.lt_succ_self _⟩, h1⟩, ?_⟩
  rintro ⟨k, x13⟩ ⟨H, hk⟩
  exact h2 k x13 hk H
theorem slices_Equal_string_string.ac {k : Nat} {l0 : List ByteArray} {l1 : List ByteArray} {r : Bool} (H : slices_Equal_string_string.f k l0 l1 = some r) : ACalls Tryz.prog G 85 [] [(sv_str l0), (sv_str l1)] [] (.bool r) := by
  refine acalls_of tok hP Tryz.func85 rfl (by kernel_rfl) [.tmp 4] rfl (by kernel_rfl) (Nat.le_of_ble_eq_true rfl) (.l .n (.l .n (.l (.l .n (.c .n (.l .n (.l (.l .n (.c .n .n)) .n)))) .n))) rfl ?_
  unfold slices_Equal_string_string.f at H
  conv => whnf
  refine br_nd H (fun c H => ?_) (fun c H => ?_)
  conv => whnf
  refine slices_Equal_string_string.l0_lp (l0 := l0) (l1 := l1) (k := k) H [] (fits_of ⟨.inl ⟨rfl, rfl⟩, trivial⟩ trivial fi_ trivial rfl) ?_
  intro k x13 hk H; rcases k with _ | k; exact none_elim H; rw [slices_Equal_string_string.l0] at H; conv => whnf
  refine cut_ 80 [(0, (sv_str l0)), (1, (sv_str l1)), (12, .int .i64 (l0.length : Int)), (13, .int .i64 x13), (14, .bool (decide (x13 < (l0.length : Int))))] [] rfl ⟨.inl rfl, ⟨.inl rfl, ⟨.inl rfl, ⟨.inl rfl, ⟨.inl rfl, trivial⟩⟩⟩⟩⟩ trivial ?_
  conv => whnf
  refine br_d H (fun c H => ?_) (fun c H => ?_)
  conv => whnf
  refine nd_ H (fun c H => ?_)
  conv => whnf
  refine Nd.mk nf_ ?_
  conv => whnf
  refine El.mk (rdm_en_str _ _ nf_ nf_) ?_
  conv => whnf
  refine Nd.mk nf_ ?_
  conv => whnf
  refine nd_ H (fun c H => ?_)
  conv => whnf
  refine El.mk (rdm_en_str _ _ nf_ nf_) ?_
  conv => whnf
  refine cut_ 168 [(0, (sv_str l0)), (1, (sv_str l1)), (12, .int .i64 (l0.length : Int)), (13, .int .i64 x13), (24, .bool (!(decide ((rdOf ByteArray.empty l0 x13).toList = (rdOf ByteArray.empty l1 x13).toList))))] [] rfl ⟨.inl rfl, ⟨.inl rfl, ⟨.inl rfl, ⟨.inl rfl, ⟨.inl rfl, trivial⟩⟩⟩⟩⟩ trivial ?_
  conv => whnf
  refine br_nd H (fun c H => ?_) (fun c H => ?_)
  conv => whnf
  exact ⟨(k, wrap64 (x13 + 1)), [], ⟨H, lt_⟩, lt_, (fits_of ⟨.inl ⟨rfl, rfl⟩, trivial⟩ trivial fi_ trivial rfl)⟩
  conv => whnf
  injection H with H; subst H
  exact ret_fz [] (rtA_eq rfl)
  conv => whnf
  injection H with H; subst H
  exact ret_fz [] (rtA_eq rfl)
  conv => whnf
  injection H with H; subst H
  exact ret_fz [] (rtA_eq rfl)
theorem impl_ClaimUse.l0_lp {F : (Exit → St → Prop) → St → Prop} {hv : List Tmp} {Q : Exit → St → Prop} {σ : St} {r : Bool} {k : Nat} {l0 : List S_impl_ClaimUse} {l1 : List S_impl_ClaimUse} {x13 : Int} (H : impl_ClaimUse.l0 k l0 l1 x13 = some r) (rn : List (Option Nat)) (h1 : Fits σ σ [] [(13, .int .i64 x13)] [] [] rn)
    (h2 : ∀ (k0 : Nat) (x13 : Int), k0 < k + 1 → impl_ClaimUse.l0 k0 l0 l1 x13 = some r → headN σ hv [] [(13, .int .i64 x13)] [] [] (F (fun e σ' => match e with | .normal => ∃ (y : Nat × Int) (rn : List (Option Nat)), (impl_ClaimUse.l0 y.1 l0 l1 y.2 = some r ∧ y.1 < k + 1) ∧ y.1 < k0 ∧ Fits σ σ' [] [(13, .int .i64 y.2)] [] [] rn | e => Q e σ'))) : Lp F hv Q σ := by
  unfold Lp
  refine ⟨Nat × Int, fun x => impl_ClaimUse.l0 x.1 l0 l1 x.2 = some r ∧ x.1 < k + 1, fun x => x.1, [], fun x => [(13, .int .i64 x.2)], fun x => [], fun x => [], ⟨(k, x13), rn, ⟨H, Nat.lt_succ_self _⟩, h1⟩, ?_⟩
  rintro ⟨k, x13⟩ ⟨H, hk⟩
  exact h2 k x13 hk H
theorem impl_ClaimUse.ac {k : Nat} {l0 : List S_impl_ClaimUse} {l1 : List S_impl_ClaimUse} {r : Bool} (H : impl_ClaimUse.f k l0 l1 = some r) : ACalls Tryz.prog G 86 [] [(sv_S_impl_ClaimUse l0), (sv_S_impl_ClaimUse l1)] [] (.bool r) := by
  refine acalls_of tok hP Tryz.func86 rfl (by kernel_rfl) [.tmp 4] rfl (by kernel_rfl) (Nat.le_of_ble_eq_true rfl) (.l .n (.l .n (.l (.l .n (.c .n (.l .n (.l (.l .n (.c .n .n)) .n)))) .n))) rfl ?_
  unfold impl_ClaimUse.f at H
  conv => whnf
  refine br_nd H (fun c H => ?_) (fun c H => ?_)
  conv => whnf
  refine impl_ClaimUse.l0_lp (l0 := l0) (l1 := l1) (k := k) H [] (fits_of ⟨.inl ⟨rfl, rfl⟩, trivial⟩ trivial fi_ trivial rfl) ?_
  intro k x13 hk H; rcases k with _ | k; exact none_elim H; rw [impl_ClaimUse.l0] at H; conv => whnf
  refine cut_ 80 [(0, (sv_S_impl_ClaimUse l0)), (1, (sv_S_impl_ClaimUse l1)), (12, .int .i64 (l0.length : Int)), (13, .int .i64 x13), (14, .bool (decide (x13 < (l0.length : Int))))] [] rfl ⟨.inl rfl, ⟨.inl rfl, ⟨.inl rfl, ⟨.inl rfl, ⟨.inl rfl, trivial⟩⟩⟩⟩⟩ trivial ?_
  conv => whnf
  refine br_d H (fun c H => ?_) (fun c H => ?_)
  conv => whnf
  refine nd_ H (fun c H => ?_)
  conv => whnf
  refine Nd.mk nf_ ?_
  conv => whnf
  refine El.mk (rdm_en_S_impl_ClaimUse _ _ nf_ nf_) ?_
  conv => whnf
  refine Nd.mk nf_ ?_
  conv => whnf
  refine nd_ H (fun c H => ?_)
  conv => whnf
  refine El.mk (rdm_en_S_impl_ClaimUse _ _ nf_ nf_) ?_
  conv => whnf
  refine cut_ 168 [(0, (sv_S_impl_ClaimUse l0)), (1, (sv_S_impl_ClaimUse l1)), (12, .int .i64 (l0.length : Int)), (13, .int .i64 x13), (24, .bool (!(decide (((rd_impl_ClaimUse l0 x13).f0).toList = ((rd_impl_ClaimUse l1 x13).f0).toList) && (decide (((rd_impl_ClaimUse l0 x13).f1) = ((rd_impl_ClaimUse l1 x13).f1)) && (decide (((rd_impl_ClaimUse l0 x13).f2) = ((rd_impl_ClaimUse l1 x13).f2)) && true)))))] [] rfl ⟨.inl rfl, ⟨.inl rfl, ⟨.inl rfl, ⟨.inl rfl, ⟨.inl rfl, trivial⟩⟩⟩⟩⟩ trivial ?_
  conv => whnf
  refine br_nt H (fun c H => ?_) (fun c H => ?_)
  conv => whnf
  exact ⟨(k, wrap64 (x13 + 1)), [], ⟨H, lt_⟩, lt_, (fits_of ⟨.inl ⟨rfl, rfl⟩, trivial⟩ trivial fi_ trivial rfl)⟩
  conv => whnf
  injection H with H; subst H
  exact ret_fz [] (rtA_eq rfl)
  conv => whnf
  injection H with H; subst H
  exact ret_fz [] (rtA_eq rfl)
  conv => whnf
  injection H with H; subst H
  exact ret_fz [] (rtA_eq rfl)
theorem impl_ClaimWant_is.ac {k : Nat} {a0_0 : Int} {a0_1 : Int} {a0_2 : List ByteArray} {a0_3 : List S_impl_ClaimUse} {a0_4 : List ByteArray} {a0_5 : List ByteArray} {a1_0 : Int} {a1_1 : Int} {a1_2 : List ByteArray} {a1_3 : List S_impl_ClaimUse} {a1_4 : List ByteArray} {a1_5 : List ByteArray} {r : Bool} (H : impl_ClaimWant_is.f k a0_0 a0_1 a0_2 a0_3 a0_4 a0_5 a1_0 a1_1 a1_2 a1_3 a1_4 a1_5 = some r) : ACalls Tryz.prog G 69 [] [.agg [.int .i64 a0_0, .int .i64 a0_1, (sv_str a0_2), (sv_S_impl_ClaimUse a0_3), (sv_str a0_4), (sv_str a0_5)], .agg [.int .i64 a1_0, .int .i64 a1_1, (sv_str a1_2), (sv_S_impl_ClaimUse a1_3), (sv_str a1_4), (sv_str a1_5)]] [] (.bool r) := by
  refine acalls_of tok hP Tryz.func69 rfl (by kernel_rfl) [.tmp 4] rfl (by kernel_rfl) (Nat.le_of_ble_eq_true rfl) (.l .n (.c .n .n)) rfl ?_
  unfold impl_ClaimWant_is.f at H
  conv => whnf
  refine br_d H (fun c H => ?_) (fun c H => ?_)
  conv => whnf
  refine Br.t ft_ ?_
  conv => whnf
  refine Br.t ft_ ?_
  conv => whnf
  refine Br.t ft_ ?_
  conv => whnf
  refine Br.t ft_ ?_
  conv => whnf
  refine Br.t ft_ ?_
  conv => whnf
  refine br_d H (fun c H => ?_) (fun c H => ?_)
  conv => whnf
  refine Br.t ft_ ?_
  conv => whnf
  refine Br.t ft_ ?_
  conv => whnf
  refine Br.t ft_ ?_
  conv => whnf
  refine Br.t ft_ ?_
  conv => whnf
  revert H; refine bind_elim (fun t2171 A H => ?_)
  refine call_mk (slices_Equal_string_string.ac A) (avAL_cons (avA_shut' rfl) (avAL_cons (avA_shut' rfl) (avAL_nil))) (Or.inl rfl) rfl rfl (Nat.le_of_ble_eq_true rfl) ?_
  conv => whnf
  refine Br.t ft_ ?_
  conv => whnf
  refine br_t H (fun c H => ?_) (fun c H => ?_)
  conv => whnf
  refine Br.t ft_ ?_
  conv => whnf
  refine Br.t ft_ ?_
  conv => whnf
  refine Br.t ft_ ?_
  conv => whnf
  refine Br.t ft_ ?_
  conv => whnf
  revert H; refine bind_elim (fun t2172 A H => ?_)
  refine call_mk (impl_ClaimUse.ac A) (avAL_cons (avA_shut' rfl) (avAL_cons (avA_shut' rfl) (avAL_nil))) (Or.inl rfl) rfl rfl (Nat.le_of_ble_eq_true rfl) ?_
  conv => whnf
  refine Br.t ft_ ?_
  conv => whnf
  refine br_t H (fun c H => ?_) (fun c H => ?_)
  conv => whnf
  refine Br.t ft_ ?_
  conv => whnf
  refine Br.t ft_ ?_
  conv => whnf
  refine Br.t ft_ ?_
  conv => whnf
  refine Br.t ft_ ?_
  conv => whnf
  revert H; refine bind_elim (fun t2173 A H => ?_)
  refine call_mk (slices_Equal_string_string.ac A) (avAL_cons (avA_shut' rfl) (avAL_cons (avA_shut' rfl) (avAL_nil))) (Or.inl rfl) rfl rfl (Nat.le_of_ble_eq_true rfl) ?_
  conv => whnf
  refine Br.t ft_ ?_
  conv => whnf
  refine br_t H (fun c H => ?_) (fun c H => ?_)
  conv => whnf
  refine Br.t ft_ ?_
  conv => whnf
  refine Br.t ft_ ?_
  conv => whnf
  refine Br.t ft_ ?_
  conv => whnf
  refine Br.t ft_ ?_
  conv => whnf
  revert H; refine bind_elim (fun t2174 A H => ?_)
  refine call_mk (slices_Equal_string_string.ac A) (avAL_cons (avA_shut' rfl) (avAL_cons (avA_shut' rfl) (avAL_nil))) (Or.inl rfl) rfl rfl (Nat.le_of_ble_eq_true rfl) ?_
  conv => whnf
  refine Br.t ft_ ?_
  conv => whnf
  refine cut_ 352 [(4, .bool t2174)] [] rfl ⟨.inl rfl, trivial⟩ trivial ?_
  conv => whnf
  injection H with H; subst H
  exact ret_fz [] (rtA_eq rfl)
  conv => whnf
  refine Br.f ff_ ?_
  conv => whnf
  refine Br.f ff_ ?_
  conv => whnf
  refine Br.f ff_ ?_
  conv => whnf
  refine Br.f ff_ ?_
  conv => whnf
  refine Br.f ff_ ?_
  conv => whnf
  refine cut_ 352 [(4, .bool false)] [] rfl ⟨.inl rfl, trivial⟩ trivial ?_
  conv => whnf
  injection H with H; subst H
  exact ret_fz [] (rtA_eq rfl)
  conv => whnf
  refine Br.f ff_ ?_
  conv => whnf
  refine Br.f ff_ ?_
  conv => whnf
  refine Br.f ff_ ?_
  conv => whnf
  refine Br.f ff_ ?_
  conv => whnf
  refine Br.f ff_ ?_
  conv => whnf
  refine Br.f rfl ?_
  conv => whnf
  refine Br.f rfl ?_
  conv => whnf
  refine Br.f rfl ?_
  conv => whnf
  refine Br.f rfl ?_
  conv => whnf
  refine Br.f rfl ?_
  conv => whnf
  refine Br.f rfl ?_
  conv => whnf
  refine cut_ 352 [(4, .bool false)] [] rfl ⟨.inl rfl, trivial⟩ trivial ?_
  conv => whnf
  injection H with H; subst H
  exact ret_fz [] (rtA_eq rfl)
  conv => whnf
  refine Br.f ff_ ?_
  conv => whnf
  refine Br.f ff_ ?_
  conv => whnf
  refine Br.f ff_ ?_
  conv => whnf
  refine Br.f ff_ ?_
  conv => whnf
  refine Br.f ff_ ?_
  conv => whnf
  refine Br.f rfl ?_
  conv => whnf
  refine Br.f rfl ?_
  conv => whnf
  refine Br.f rfl ?_
  conv => whnf
  refine Br.f rfl ?_
  conv => whnf
  refine Br.f rfl ?_
  conv => whnf
  refine Br.f rfl ?_
  conv => whnf
  refine Br.f rfl ?_
  conv => whnf
  refine Br.f rfl ?_
  conv => whnf
  refine Br.f rfl ?_
  conv => whnf
  refine Br.f rfl ?_
  conv => whnf
  refine Br.f rfl ?_
  conv => whnf
  refine Br.f rfl ?_
  conv => whnf
  refine cut_ 352 [(4, .bool false)] [] rfl ⟨.inl rfl, trivial⟩ trivial ?_
  conv => whnf
  injection H with H; subst H
  exact ret_fz [] (rtA_eq rfl)
  conv => whnf
  refine Br.f ff_ ?_
  conv => whnf
  refine Br.f ff_ ?_
  conv => whnf
  refine Br.f ff_ ?_
  conv => whnf
  refine Br.f ff_ ?_
  conv => whnf
  refine Br.f ff_ ?_
  conv => whnf
  refine Br.f rfl ?_
  conv => whnf
  refine Br.f rfl ?_
  conv => whnf
  refine Br.f rfl ?_
  conv => whnf
  refine Br.f rfl ?_
  conv => whnf
  refine Br.f rfl ?_
  conv => whnf
  refine Br.f rfl ?_
  conv => whnf
  refine Br.f rfl ?_
  conv => whnf
  refine Br.f rfl ?_
  conv => whnf
  refine Br.f rfl ?_
  conv => whnf
  refine Br.f rfl ?_
  conv => whnf
  refine Br.f rfl ?_
  conv => whnf
  refine Br.f rfl ?_
  conv => whnf
  refine Br.f rfl ?_
  conv => whnf
  refine Br.f rfl ?_
  conv => whnf
  refine Br.f rfl ?_
  conv => whnf
  refine Br.f rfl ?_
  conv => whnf
  refine Br.f rfl ?_
  conv => whnf
  refine Br.f rfl ?_
  conv => whnf
  refine cut_ 352 [(4, .bool false)] [] rfl ⟨.inl rfl, trivial⟩ trivial ?_
  conv => whnf
  injection H with H; subst H
  exact ret_fz [] (rtA_eq rfl)
  conv => whnf
  refine Br.f ff_ ?_
  conv => whnf
  refine Br.f ff_ ?_
  conv => whnf
  refine Br.f ff_ ?_
  conv => whnf
  refine Br.f ff_ ?_
  conv => whnf
  refine Br.f ff_ ?_
  conv => whnf
  refine Br.f rfl ?_
  conv => whnf
  refine Br.f rfl ?_
  conv => whnf
  refine Br.f rfl ?_
  conv => whnf
  refine Br.f rfl ?_
  conv => whnf
  refine Br.f rfl ?_
  conv => whnf
  refine Br.f rfl ?_
  conv => whnf
  refine Br.f rfl ?_
  conv => whnf
  refine Br.f rfl ?_
  conv => whnf
  refine Br.f rfl ?_
  conv => whnf
  refine Br.f rfl ?_
  conv => whnf
  refine Br.f rfl ?_
  conv => whnf
  refine Br.f rfl ?_
  conv => whnf
  refine Br.f rfl ?_
  conv => whnf
  refine Br.f rfl ?_
  conv => whnf
  refine Br.f rfl ?_
  conv => whnf
  refine Br.f rfl ?_
  conv => whnf
  refine Br.f rfl ?_
  conv => whnf
  refine Br.f rfl ?_
  conv => whnf
  refine Br.f rfl ?_
  conv => whnf
  refine Br.f rfl ?_
  conv => whnf
  refine Br.f rfl ?_
  conv => whnf
  refine Br.f rfl ?_
  conv => whnf
  refine Br.f rfl ?_
  conv => whnf
  refine Br.f rfl ?_
  conv => whnf
  refine cut_ 352 [(4, .bool false)] [] rfl ⟨.inl rfl, trivial⟩ trivial ?_
  conv => whnf
  injection H with H; subst H
  exact ret_fz [] (rtA_eq rfl)
theorem impl_ClaimBook_part.l0_lp {F : (Exit → St → Prop) → St → Prop} {hv : List Tmp} {Q : Exit → St → Prop} {σ : St} {r : Int} {k : Nat} {a0_3 : List S_impl_ClaimPart} {a1 : Int} {x10 : Int} (H : impl_ClaimBook_part.l0 k a0_3 a1 x10 = some r) (rn : List (Option Nat)) (h1 : Fits σ σ [0] [(10, .int .i64 x10)] [] [] rn)
    (h2 : ∀ (k0 : Nat) (x10 : Int), k0 < k + 1 → impl_ClaimBook_part.l0 k0 a0_3 a1 x10 = some r → headN σ hv [0] [(10, .int .i64 x10)] [] [] (F (fun e σ' => match e with | .normal => ∃ (y : Nat × Int) (rn : List (Option Nat)), (impl_ClaimBook_part.l0 y.1 a0_3 a1 y.2 = some r ∧ y.1 < k + 1) ∧ y.1 < k0 ∧ Fits σ σ' [0] [(10, .int .i64 y.2)] [] [] rn | e => Q e σ'))) : Lp F hv Q σ := by
  unfold Lp
  refine ⟨Nat × Int, fun x => impl_ClaimBook_part.l0 x.1 a0_3 a1 x.2 = some r ∧ x.1 < k + 1, fun x => x.1, [0], fun x => [(10, .int .i64 x.2)], fun x => [], fun x => [], ⟨(k, x10), rn, ⟨H, Nat.lt_succ_self _⟩, h1⟩, ?_⟩
  rintro ⟨k, x10⟩ ⟨H, hk⟩
  exact h2 k x10 hk H
theorem impl_ClaimBook_part.ac {k : Nat} {a0_0 : List S_impl_ClaimFoe} {a0_1 : List S_impl_ClaimSpot} {a0_2 : List ByteArray} {a0_3 : List S_impl_ClaimPart} {a0_4 : Int} {a1 : Int} {r : Int} (H : impl_ClaimBook_part.f k a0_0 a0_1 a0_2 a0_3 a0_4 a1 = some r) : ACalls Tryz.prog G 70 [] [.agg [(sv_S_impl_ClaimFoe a0_0), (sv_S_impl_ClaimSpot a0_1), (sv_str a0_2), (sv_S_impl_ClaimPart a0_3), .int .i64 a0_4], .int .i64 a1] [] (.int .i64 r) := by
  refine acalls_of tok hP Tryz.func70 rfl (by kernel_rfl) [.tmp 4] rfl (by kernel_rfl) (Nat.le_of_ble_eq_true rfl) (.l .n (.l (.l .n (.l .n (.l .n (.l (.c .n .n) .n)))) .n)) rfl ?_
  unfold impl_ClaimBook_part.f at H
  conv => whnf
  refine impl_ClaimBook_part.l0_lp (a0_3 := a0_3) (a1 := a1) (k := k) H [] (fits_of ⟨.inl ⟨rfl, rfl⟩, trivial⟩ trivial fi_ trivial rfl) ?_
  intro k x10 hk H; rcases k with _ | k; exact none_elim H; rw [impl_ClaimBook_part.l0] at H; conv => whnf
  refine br_d H (fun c H => ?_) (fun c H => ?_)
  conv => whnf
  refine nd_ H (fun c H => ?_)
  conv => whnf
  refine Nd.mk nf_ ?_
  conv => whnf
  refine El.mk (rdm_en_S_impl_ClaimPart _ _ nf_ nf_) ?_
  conv => whnf
  refine cut_ 104 [(1, .int .i64 a1), (5, .int .i64 x10), (6, .bp 80 0), (8, (sv_S_impl_ClaimPart a0_3)), (9, .int .i64 (a0_3.length : Int)), (10, .int .i64 x10)] [(80, .box [.int .i64 (((rd_impl_ClaimPart a0_3 x10).f0).f0), .int .i64 (((rd_impl_ClaimPart a0_3 x10).f0).f1), (sv_str (((rd_impl_ClaimPart a0_3 x10).f0).f2)), (sv_S_impl_ClaimUse (((rd_impl_ClaimPart a0_3 x10).f0).f3)), (sv_str (((rd_impl_ClaimPart a0_3 x10).f0).f4)), (sv_str (((rd_impl_ClaimPart a0_3 x10).f0).f5)), .bool ((rd_impl_ClaimPart a0_3 x10).f1)])] rfl ⟨.inl rfl, ⟨.inl rfl, ⟨.inl rfl, ⟨.inl rfl, ⟨.inl rfl, ⟨.inl rfl, trivial⟩⟩⟩⟩⟩⟩ ⟨rfl, trivial⟩ ?_
  conv => whnf
  refine br_d H (fun c H => ?_) (fun c H => ?_)
  conv => whnf
  injection H with H; subst H
  exact ret_fz [] (rtA_eq rfl)
  conv => whnf
  exact ⟨(k, wrap64 (x10 + 1)), [], ⟨H, lt_⟩, lt_, (fits_of ⟨.inl ⟨rfl, rfl⟩, trivial⟩ trivial fi_ trivial rfl)⟩
  conv => whnf
  injection H with H; subst H
  exact ret_fz [] (rtA_eq rfl)
end Go.Proofs.YtamkmmkchdnkmaaGreat.CC
namespace Go.Proofs
open Go.Shelf Go.Sort Go.RowKit in
shelf_lay Lays.n192 Nm 192 at Tryz as Tryz.gx192
end Go.Proofs
namespace Go.Proofs.YtamkmmkchdnkmaaGreat.CC
open Go Go.Aw Go.RowKit Go.Proofs
set_option maxRecDepth 100000
set_option maxHeartbeats 40000000
variable {G : Nat → Option Obj}
attribute [local irreducible] callE Lp Sq Cut RetOk Fits
theorem sort_Strings.ac {l0 : List ByteArray} {r : List ByteArray} (H : sort_Strings.f l0 = some r) : ACalls Tryz.prog G 87 [.arr 9 1 (l0.map en_str)] [.own 0 l0.length] [.arr 9 1 (r.map en_str)] .und := by
  exact sortS_ac Tryz.gx192 ⟨_, Tryz.func87, by kernel_rfl, by kernel_rfl⟩ G 9 rfl H (fun _ => rfl)
theorem impl_with.l0_lp {F : (Exit → St → Prop) → St → Prop} {hv : List Tmp} {Q : Exit → St → Prop} {σ : St} {r : List ByteArray} {k : Nat} {l0 : List ByteArray} {l1 : List ByteArray} {x5 : List ByteArray} {x12 : Int} (H : impl_with.l0 k l0 l1 x5 x12 = some r) (rn : List (Option Nat)) (h1 : Fits σ σ [16] [(5, .own 0 x5.length), (12, .int .i64 x12)] [] [.arr 9 1 (x5.map en_str)] rn)
    (h2 : ∀ (k0 : Nat) (x5 : List ByteArray) (x12 : Int), k0 < k + 1 → impl_with.l0 k0 l0 l1 x5 x12 = some r → headN σ hv [16] [(5, .own 0 x5.length), (12, .int .i64 x12)] [] [.arr 9 1 (x5.map en_str)] (F (fun e σ' => match e with | .normal => ∃ (y : Nat × (List ByteArray) × Int) (rn : List (Option Nat)), (impl_with.l0 y.1 l0 l1 y.2.1 y.2.2 = some r ∧ y.1 < k + 1) ∧ y.1 < k0 ∧ Fits σ σ' [16] [(5, .own 0 y.2.1.length), (12, .int .i64 y.2.2)] [] [.arr 9 1 (y.2.1.map en_str)] rn | e => Q e σ'))) : Lp F hv Q σ := by
  unfold Lp
  refine ⟨Nat × (List ByteArray) × Int, fun x => impl_with.l0 x.1 l0 l1 x.2.1 x.2.2 = some r ∧ x.1 < k + 1, fun x => x.1, [16], fun x => [(5, .own 0 x.2.1.length), (12, .int .i64 x.2.2)], fun x => [], fun x => [.arr 9 1 (x.2.1.map en_str)], ⟨(k, x5, x12), rn, ⟨H, Nat.lt_succ_self _⟩, h1⟩, ?_⟩
  rintro ⟨k, x5, x12⟩ ⟨H, hk⟩
  exact h2 k x5 x12 hk H
theorem impl_with.ac {k : Nat} {l0 : List ByteArray} {l1 : List ByteArray} {r : List ByteArray} (H : impl_with.f k l0 l1 = some r) : ACalls Tryz.prog G 73 [] [(sv_str l0), (sv_str l1)] [] ((sv_str r)) := by
  refine acalls_of tok hP Tryz.func73 rfl (by kernel_rfl) [.tmp 4] rfl (by kernel_rfl) (Nat.le_of_ble_eq_true rfl) (.l .n (.l .n (.l (.l .n (.l .n (.l .n (.l (.c .n .n) .n)))) (.c .n .n)))) rfl ?_
  unfold impl_with.f at H
  conv => whnf
  refine nd_ H (fun c H => ?_)
  conv => whnf
  refine impl_with.l0_lp (l0 := l0) (l1 := l1) (k := k) H [some 16] (fits_of ⟨mt_own lm_, ⟨.inl ⟨rfl, rfl⟩, trivial⟩⟩ ⟨fm_, trivial⟩ fi_ trivial rfl) ?_
  intro k x5 x12 hk H; rcases k with _ | k; exact none_elim H; rw [impl_with.l0] at H; conv => whnf
  refine br_d H (fun c H => ?_) (fun c H => ?_)
  conv => whnf
  refine nd_ H (fun c H => ?_)
  conv => whnf
  refine Nd.mk nf_ ?_
  conv => whnf
  refine El.mk (rdm_en_str _ _ nf_ nf_) ?_
  conv => whnf
  refine cut_ 89 [(5, .own 56 x5.length), (7, .str (rdOf ByteArray.empty l1 x12)), (10, (sv_str l1)), (11, .int .i64 (l1.length : Int)), (12, .int .i64 x12)] [(56, .arr 9 1 (x5.map en_str))] rfl ⟨.inl rfl, ⟨.inl rfl, ⟨.inl rfl, ⟨.inl rfl, ⟨.inl rfl, trivial⟩⟩⟩⟩⟩ ⟨rfl, trivial⟩ ?_
  conv => whnf
  revert H; refine bind_elim (fun t2255 A H => ?_)
  refine call_mk (impl_has.ac A) (avAL_cons (avA_own rfl rfl) (avAL_cons (avA_shut' rfl) (avAL_nil))) (Or.inr ⟨rfl, bo_nil⟩) rfl rfl (Nat.le_of_ble_eq_true rfl) ?_
  conv => whnf
  refine br_nt H (fun c H => ?_) (fun c H => ?_)
  conv => whnf
  exact ⟨(k, x5, wrap64 (x12 + 1)), [some 56], ⟨H, lt_⟩, lt_, (fits_of ⟨rfl, ⟨.inl ⟨rfl, rfl⟩, trivial⟩⟩ ⟨rfl, trivial⟩ fi_ trivial rfl)⟩
  conv => whnf
  refine nd_ H (fun c H => ?_)
  conv => whnf
  exact ⟨(k, (x5 ++ ([rdOf ByteArray.empty l1 x12] : List ByteArray)), wrap64 (x12 + 1)), [some 145], ⟨H, lt_⟩, lt_, (fits_of ⟨mt_own lm_, ⟨.inl ⟨rfl, rfl⟩, trivial⟩⟩ ⟨fm_, trivial⟩ fi_ trivial rfl)⟩
  conv => whnf
  revert H; refine bind_elim (fun t2257 A H => ?_)
  refine call_mk2 [56] (sort_Strings.ac A) ⟨rfl, trivial⟩ rfl rfl rfl rfl rfl rfl rfl rfl ?_
  have Lt2257 := sortS_len A
  conv => whnf
  refine cut_ 81 [(5, .own 56 x5.length)] [(56, .arr 9 1 (t2257.map en_str))] rfl ⟨.inl rfl, trivial⟩ ⟨rfl, trivial⟩ ?_
  conv => whnf
  injection H with H; subst H
  exact ret_fz [56] (rtA_fzD rfl lm_ lm_ rfl)
theorem impl_ClaimBook_code.l4_lp {F : (Exit → St → Prop) → St → Prop} {hv : List Tmp} {Q : Exit → St → Prop} {σ : St} {r : Int} {k : Nat} {a0_0 : List S_impl_ClaimFoe} {a0_1 : List S_impl_ClaimSpot} {a0_2 : List ByteArray} {a0_3 : List S_impl_ClaimPart} {a0_4 : Int} {a1_1 : Int} {a1_3 : List S_impl_ClaimUse} {x143 : Int} (H : impl_ClaimBook_code.l4 k a0_0 a0_1 a0_2 a0_3 a0_4 a1_1 a1_3 x143 = some r) (rn : List (Option Nat)) (h1 : Fits σ σ [] [(143, .int .i64 x143)] [] [] rn)
    (h2 : ∀ (k0 : Nat) (x143 : Int), k0 < k + 1 → impl_ClaimBook_code.l4 k0 a0_0 a0_1 a0_2 a0_3 a0_4 a1_1 a1_3 x143 = some r → headN σ hv [] [(143, .int .i64 x143)] [] [] (F (fun e σ' => match e with | .normal => ∃ (y : Nat × Int) (rn : List (Option Nat)), (impl_ClaimBook_code.l4 y.1 a0_0 a0_1 a0_2 a0_3 a0_4 a1_1 a1_3 y.2 = some r ∧ y.1 < k + 1) ∧ y.1 < k0 ∧ Fits σ σ' [] [(143, .int .i64 y.2)] [] [] rn | e => Q e σ'))) : Lp F hv Q σ := by
  unfold Lp
  refine ⟨Nat × Int, fun x => impl_ClaimBook_code.l4 x.1 a0_0 a0_1 a0_2 a0_3 a0_4 a1_1 a1_3 x.2 = some r ∧ x.1 < k + 1, fun x => x.1, [], fun x => [(143, .int .i64 x.2)], fun x => [], fun x => [], ⟨(k, x143), rn, ⟨H, Nat.lt_succ_self _⟩, h1⟩, ?_⟩
  rintro ⟨k, x143⟩ ⟨H, hk⟩
  exact h2 k x143 hk H
theorem impl_ClaimBook_code.l3_lp {F : (Exit → St → Prop) → St → Prop} {hv : List Tmp} {Q : Exit → St → Prop} {σ : St} {r : Int} {k : Nat} {a0_0 : List S_impl_ClaimFoe} {a0_1 : List S_impl_ClaimSpot} {a0_2 : List ByteArray} {a0_3 : List S_impl_ClaimPart} {a0_4 : Int} {a1_1 : Int} {a1_2 : List ByteArray} {a1_3 : List S_impl_ClaimUse} {x92 : Int} (H : impl_ClaimBook_code.l3 k a0_0 a0_1 a0_2 a0_3 a0_4 a1_1 a1_2 a1_3 x92 = some r) (rn : List (Option Nat)) (h1 : Fits σ σ [] [(92, .int .i64 x92)] [] [] rn)
    (h2 : ∀ (k0 : Nat) (x92 : Int), k0 < k + 1 → impl_ClaimBook_code.l3 k0 a0_0 a0_1 a0_2 a0_3 a0_4 a1_1 a1_2 a1_3 x92 = some r → headN σ hv [] [(92, .int .i64 x92)] [] [] (F (fun e σ' => match e with | .normal => ∃ (y : Nat × Int) (rn : List (Option Nat)), (impl_ClaimBook_code.l3 y.1 a0_0 a0_1 a0_2 a0_3 a0_4 a1_1 a1_2 a1_3 y.2 = some r ∧ y.1 < k + 1) ∧ y.1 < k0 ∧ Fits σ σ' [] [(92, .int .i64 y.2)] [] [] rn | e => Q e σ'))) : Lp F hv Q σ := by
  unfold Lp
  refine ⟨Nat × Int, fun x => impl_ClaimBook_code.l3 x.1 a0_0 a0_1 a0_2 a0_3 a0_4 a1_1 a1_2 a1_3 x.2 = some r ∧ x.1 < k + 1, fun x => x.1, [], fun x => [(92, .int .i64 x.2)], fun x => [], fun x => [], ⟨(k, x92), rn, ⟨H, Nat.lt_succ_self _⟩, h1⟩, ?_⟩
  rintro ⟨k, x92⟩ ⟨H, hk⟩
  exact h2 k x92 hk H
theorem impl_ClaimBook_code.l5_lp {F : (Exit → St → Prop) → St → Prop} {hv : List Tmp} {Q : Exit → St → Prop} {σ : St} {r : Int} {k : Nat} {a0_0 : List S_impl_ClaimFoe} {a0_1 : List S_impl_ClaimSpot} {a0_2 : List ByteArray} {a0_3 : List S_impl_ClaimPart} {a0_4 : Int} {a1_1 : Int} {a1_3 : List S_impl_ClaimUse} {x143_1 : Int} (H : impl_ClaimBook_code.l5 k a0_0 a0_1 a0_2 a0_3 a0_4 a1_1 a1_3 x143_1 = some r) (rn : List (Option Nat)) (h1 : Fits σ σ [] [(143, .int .i64 x143_1)] [] [] rn)
    (h2 : ∀ (k0 : Nat) (x143_1 : Int), k0 < k + 1 → impl_ClaimBook_code.l5 k0 a0_0 a0_1 a0_2 a0_3 a0_4 a1_1 a1_3 x143_1 = some r → headN σ hv [] [(143, .int .i64 x143_1)] [] [] (F (fun e σ' => match e with | .normal => ∃ (y : Nat × Int) (rn : List (Option Nat)), (impl_ClaimBook_code.l5 y.1 a0_0 a0_1 a0_2 a0_3 a0_4 a1_1 a1_3 y.2 = some r ∧ y.1 < k + 1) ∧ y.1 < k0 ∧ Fits σ σ' [] [(143, .int .i64 y.2)] [] [] rn | e => Q e σ'))) : Lp F hv Q σ := by
  unfold Lp
  refine ⟨Nat × Int, fun x => impl_ClaimBook_code.l5 x.1 a0_0 a0_1 a0_2 a0_3 a0_4 a1_1 a1_3 x.2 = some r ∧ x.1 < k + 1, fun x => x.1, [], fun x => [(143, .int .i64 x.2)], fun x => [], fun x => [], ⟨(k, x143_1), rn, ⟨H, Nat.lt_succ_self _⟩, h1⟩, ?_⟩
  rintro ⟨k, x143_1⟩ ⟨H, hk⟩
  exact h2 k x143_1 hk H
theorem impl_ClaimBook_code.l2_lp {F : (Exit → St → Prop) → St → Prop} {hv : List Tmp} {Q : Exit → St → Prop} {σ : St} {r : Int} {k : Nat} {a0_0 : List S_impl_ClaimFoe} {a0_1 : List S_impl_ClaimSpot} {a0_2 : List ByteArray} {a0_3 : List S_impl_ClaimPart} {a0_4 : Int} {a1_0 : Int} {a1_1 : Int} {a1_2 : List ByteArray} {a1_3 : List S_impl_ClaimUse} {a1_4 : List ByteArray} {a1_5 : List ByteArray} {x70 : Int} (H : impl_ClaimBook_code.l2 k a0_0 a0_1 a0_2 a0_3 a0_4 a1_0 a1_1 a1_2 a1_3 a1_4 a1_5 x70 = some r) (rn : List (Option Nat)) (h1 : Fits σ σ [] [(70, .int .i64 x70)] [] [] rn)
    (h2 : ∀ (k0 : Nat) (x70 : Int), k0 < k + 1 → impl_ClaimBook_code.l2 k0 a0_0 a0_1 a0_2 a0_3 a0_4 a1_0 a1_1 a1_2 a1_3 a1_4 a1_5 x70 = some r → headN σ hv [] [(70, .int .i64 x70)] [] [] (F (fun e σ' => match e with | .normal => ∃ (y : Nat × Int) (rn : List (Option Nat)), (impl_ClaimBook_code.l2 y.1 a0_0 a0_1 a0_2 a0_3 a0_4 a1_0 a1_1 a1_2 a1_3 a1_4 a1_5 y.2 = some r ∧ y.1 < k + 1) ∧ y.1 < k0 ∧ Fits σ σ' [] [(70, .int .i64 y.2)] [] [] rn | e => Q e σ'))) : Lp F hv Q σ := by
  unfold Lp
  refine ⟨Nat × Int, fun x => impl_ClaimBook_code.l2 x.1 a0_0 a0_1 a0_2 a0_3 a0_4 a1_0 a1_1 a1_2 a1_3 a1_4 a1_5 x.2 = some r ∧ x.1 < k + 1, fun x => x.1, [], fun x => [(70, .int .i64 x.2)], fun x => [], fun x => [], ⟨(k, x70), rn, ⟨H, Nat.lt_succ_self _⟩, h1⟩, ?_⟩
  rintro ⟨k, x70⟩ ⟨H, hk⟩
  exact h2 k x70 hk H
theorem impl_ClaimBook_code.l1_lp {F : (Exit → St → Prop) → St → Prop} {hv : List Tmp} {Q : Exit → St → Prop} {σ : St} {r : Int} {k : Nat} {a0_0 : List S_impl_ClaimFoe} {a0_1 : List S_impl_ClaimSpot} {a0_2 : List ByteArray} {a0_3 : List S_impl_ClaimPart} {a0_4 : Int} {a1_0 : Int} {a1_1 : Int} {a1_2 : List ByteArray} {a1_3 : List S_impl_ClaimUse} {a1_4 : List ByteArray} {a1_5 : List ByteArray} {x58 : Int} (H : impl_ClaimBook_code.l1 k a0_0 a0_1 a0_2 a0_3 a0_4 a1_0 a1_1 a1_2 a1_3 a1_4 a1_5 x58 = some r) (rn : List (Option Nat)) (h1 : Fits σ σ [] [(58, .int .i64 x58)] [] [] rn)
    (h2 : ∀ (k0 : Nat) (x58 : Int), k0 < k + 1 → impl_ClaimBook_code.l1 k0 a0_0 a0_1 a0_2 a0_3 a0_4 a1_0 a1_1 a1_2 a1_3 a1_4 a1_5 x58 = some r → headN σ hv [] [(58, .int .i64 x58)] [] [] (F (fun e σ' => match e with | .normal => ∃ (y : Nat × Int) (rn : List (Option Nat)), (impl_ClaimBook_code.l1 y.1 a0_0 a0_1 a0_2 a0_3 a0_4 a1_0 a1_1 a1_2 a1_3 a1_4 a1_5 y.2 = some r ∧ y.1 < k + 1) ∧ y.1 < k0 ∧ Fits σ σ' [] [(58, .int .i64 y.2)] [] [] rn | e => Q e σ'))) : Lp F hv Q σ := by
  unfold Lp
  refine ⟨Nat × Int, fun x => impl_ClaimBook_code.l1 x.1 a0_0 a0_1 a0_2 a0_3 a0_4 a1_0 a1_1 a1_2 a1_3 a1_4 a1_5 x.2 = some r ∧ x.1 < k + 1, fun x => x.1, [], fun x => [(58, .int .i64 x.2)], fun x => [], fun x => [], ⟨(k, x58), rn, ⟨H, Nat.lt_succ_self _⟩, h1⟩, ?_⟩
  rintro ⟨k, x58⟩ ⟨H, hk⟩
  exact h2 k x58 hk H
theorem impl_ClaimBook_code.l0_lp {F : (Exit → St → Prop) → St → Prop} {hv : List Tmp} {Q : Exit → St → Prop} {σ : St} {r : Int} {k : Nat} {a0_0 : List S_impl_ClaimFoe} {a0_1 : List S_impl_ClaimSpot} {a0_2 : List ByteArray} {a0_3 : List S_impl_ClaimPart} {a0_4 : Int} {a1_0 : Int} {a1_1 : Int} {a1_2 : List ByteArray} {a1_3 : List S_impl_ClaimUse} {a1_4 : List ByteArray} {a1_5 : List ByteArray} {x29 : Int} (H : impl_ClaimBook_code.l0 k a0_0 a0_1 a0_2 a0_3 a0_4 a1_0 a1_1 a1_2 a1_3 a1_4 a1_5 x29 = some r) (rn : List (Option Nat)) (h1 : Fits σ σ [] [(29, .int .i64 x29)] [] [] rn)
    (h2 : ∀ (k0 : Nat) (x29 : Int), k0 < k + 1 → impl_ClaimBook_code.l0 k0 a0_0 a0_1 a0_2 a0_3 a0_4 a1_0 a1_1 a1_2 a1_3 a1_4 a1_5 x29 = some r → headN σ hv [] [(29, .int .i64 x29)] [] [] (F (fun e σ' => match e with | .normal => ∃ (y : Nat × Int) (rn : List (Option Nat)), (impl_ClaimBook_code.l0 y.1 a0_0 a0_1 a0_2 a0_3 a0_4 a1_0 a1_1 a1_2 a1_3 a1_4 a1_5 y.2 = some r ∧ y.1 < k + 1) ∧ y.1 < k0 ∧ Fits σ σ' [] [(29, .int .i64 y.2)] [] [] rn | e => Q e σ'))) : Lp F hv Q σ := by
  unfold Lp
  refine ⟨Nat × Int, fun x => impl_ClaimBook_code.l0 x.1 a0_0 a0_1 a0_2 a0_3 a0_4 a1_0 a1_1 a1_2 a1_3 a1_4 a1_5 x.2 = some r ∧ x.1 < k + 1, fun x => x.1, [], fun x => [(29, .int .i64 x.2)], fun x => [], fun x => [], ⟨(k, x29), rn, ⟨H, Nat.lt_succ_self _⟩, h1⟩, ?_⟩
  rintro ⟨k, x29⟩ ⟨H, hk⟩
  exact h2 k x29 hk H

end Go.Proofs.YtamkmmkchdnkmaaGreat.CC

