import Derived.Test.YtamkmmkchdnkmaaGreatZFnExactClaimCode2
import Derived.Shelf.Lay
import Derived.Shelf.Sort.AssemblyIn
import Derived.Ground.SoProg
import Derived.Test.YtamkmmkchdnkmaaGreatProg
import Derived.KernelRfl
set_option linter.unusedVariables false
set_option linter.unusedSimpArgs false
namespace Go.Proofs.YtamkmmkchdnkmaaGreat.CC
open Go Go.Aw Go.RowKit Go.Proofs
set_option maxRecDepth 100000
set_option maxHeartbeats 40000000
variable {G : Nat → Option Obj}
attribute [local irreducible] callE Lp Sq Cut RetOk Fits
theorem impl_ClaimBook_code.ac {k : Nat} {a0_0 : List S_impl_ClaimFoe} {a0_1 : List S_impl_ClaimSpot} {a0_2 : List ByteArray} {a0_3 : List S_impl_ClaimPart} {a0_4 : Int} {a1_0 : Int} {a1_1 : Int} {a1_2 : List ByteArray} {a1_3 : List S_impl_ClaimUse} {a1_4 : List ByteArray} {a1_5 : List ByteArray} {r : Int} (H : impl_ClaimBook_code.f k a0_0 a0_1 a0_2 a0_3 a0_4 a1_0 a1_1 a1_2 a1_3 a1_4 a1_5 = some r) : ACalls Tryz.prog G 33 [] [.agg [(sv_S_impl_ClaimFoe a0_0), (sv_S_impl_ClaimSpot a0_1), (sv_str a0_2), (sv_S_impl_ClaimPart a0_3), .int .i64 a0_4], .agg [.int .i64 a1_0, .int .i64 a1_1, (sv_str a1_2), (sv_S_impl_ClaimUse a1_3), (sv_str a1_4), (sv_str a1_5)]] [] (.int .i64 r) := by
  refine acalls_of tok hP Tryz.func33 rfl (by kernel_rfl) [.tmp 4] rfl (by kernel_rfl) (Nat.le_of_ble_eq_true rfl) (.l .n (.l (.c .n (.l (.c .n .n) .n)) (.l (.c .n .n) (.l (.l .n (.l .n (.c .n .n))) (.l (.l .n (.c .n .n)) (.l (.l .n (.l .n (.l .n (.l (.l .n (.c .n .n)) .n)))) (.l (.c .n .n) (.l (.l .n (.l (.l .n (.l .n (.l .n (.l (.c .n (.l .n (.l (.c .n .n) (.l (.c .n .n) (.c .n .n))))) .n)))) .n)) (.l (.c .n (.l .n (.l .n (.l (.l .n (.c .n (.c .n (.l (.c .n .n) (.c .n (.l (.c .n .n) (.c .n (.l (.c .n .n) .n)))))))) .n)))) .n))))))))) rfl ?_
  unfold impl_ClaimBook_code.f at H
  conv => whnf
  revert H; refine bind_elim (fun t2315 A H => ?_)
  refine call_mk (impl_ClaimWantOk.ac A) (avAL_cons (avA_agg (avL_cons (av_shut' rfl) (avL_cons (av_shut' rfl) (avL_cons (av_shut' rfl) (avL_cons (av_shut' rfl) (avL_cons (av_shut' rfl) (avL_cons (av_shut' rfl) (avL_nil)))))))) (avAL_nil)) (Or.inl rfl) rfl rfl (Nat.le_of_ble_eq_true rfl) ?_
  conv => whnf
  refine br_nt H (fun c H => ?_) (fun c H => ?_)
  conv => whnf
  refine Br.f ff_ ?_
  conv => whnf
  refine Br.f ff_ ?_
  conv => whnf
  revert H; refine bind_elim (fun t2316 A H => ?_)
  refine call_mk (impl_ClaimBook_knows.ac A) (avAL_cons (avA_agg (avL_cons (av_shut' rfl) (avL_cons (av_shut' rfl) (avL_cons (av_shut' rfl) (avL_cons (av_shut' rfl) (avL_cons (av_shut' rfl) (avL_nil))))))) (avAL_cons (avA_agg (avL_cons (av_shut' rfl) (avL_cons (av_shut' rfl) (avL_cons (av_shut' rfl) (avL_cons (av_shut' rfl) (avL_cons (av_shut' rfl) (avL_cons (av_shut' rfl) (avL_nil)))))))) (avAL_nil))) (Or.inl rfl) rfl rfl (Nat.le_of_ble_eq_true rfl) ?_
  conv => whnf
  refine Br.f ff_ ?_
  conv => whnf
  refine Br.f ff_ ?_
  conv => whnf
  refine cut_ 96 [(2, .bp 0 0), (3, .bp 8 0), (25, .bool (!t2316))] [(0, .box [(sv_S_impl_ClaimFoe a0_0), (sv_S_impl_ClaimSpot a0_1), (sv_str a0_2), (sv_S_impl_ClaimPart a0_3), .int .i64 a0_4]), (8, .box [.int .i64 a1_0, .int .i64 a1_1, (sv_str a1_2), (sv_S_impl_ClaimUse a1_3), (sv_str a1_4), (sv_str a1_5)])] rfl ⟨.inl rfl, ⟨.inl rfl, ⟨.inl rfl, trivial⟩⟩⟩ ⟨rfl, ⟨rfl, trivial⟩⟩ ?_
  conv => whnf
  refine br_nt H (fun c H => ?_) (fun c H => ?_)
  conv => whnf
  refine cut_ 128 [(2, .bp 0 0), (3, .bp 8 0), (27, (sv_S_impl_ClaimPart a0_3)), (28, .int .i64 (a0_3.length : Int)), (29, .int .i64 0)] [(0, .box [(sv_S_impl_ClaimFoe a0_0), (sv_S_impl_ClaimSpot a0_1), (sv_str a0_2), (sv_S_impl_ClaimPart a0_3), .int .i64 a0_4]), (8, .box [.int .i64 a1_0, .int .i64 a1_1, (sv_str a1_2), (sv_S_impl_ClaimUse a1_3), (sv_str a1_4), (sv_str a1_5)])] rfl ⟨.inl rfl, ⟨.inl rfl, ⟨.inl rfl, ⟨.inl rfl, ⟨.inl rfl, trivial⟩⟩⟩⟩⟩ ⟨rfl, ⟨rfl, trivial⟩⟩ ?_
  conv => whnf
  refine impl_ClaimBook_code.l0_lp (a0_0 := a0_0) (a0_1 := a0_1) (a0_2 := a0_2) (a0_3 := a0_3) (a0_4 := a0_4) (a1_0 := a1_0) (a1_1 := a1_1) (a1_2 := a1_2) (a1_3 := a1_3) (a1_4 := a1_4) (a1_5 := a1_5) (k := k) H [] (fits_of ⟨.inl ⟨rfl, rfl⟩, trivial⟩ trivial fi_ trivial rfl) ?_
  intro k x29 hk H; rcases k with _ | k; exact none_elim H; rw [impl_ClaimBook_code.l0] at H; conv => whnf
  refine br_d H (fun c H => ?_) (fun c H => ?_)
  conv => whnf
  refine nd_ H (fun c H => ?_)
  conv => whnf
  refine Nd.mk nf_ ?_
  conv => whnf
  refine El.mk (rdm_en_S_impl_ClaimPart _ _ nf_ nf_) ?_
  conv => whnf
  revert H; refine bind_elim (fun t2317 A H => ?_)
  refine call_mk (impl_ClaimWant_is.ac A) (avAL_cons (avA_agg (avL_cons (av_shut' rfl) (avL_cons (av_shut' rfl) (avL_cons (av_shut' rfl) (avL_cons (av_shut' rfl) (avL_cons (av_shut' rfl) (avL_cons (av_shut' rfl) (avL_nil)))))))) (avAL_cons (avA_agg (avL_cons (av_shut' rfl) (avL_cons (av_shut' rfl) (avL_cons (av_shut' rfl) (avL_cons (av_shut' rfl) (avL_cons (av_shut' rfl) (avL_cons (av_shut' rfl) (avL_nil)))))))) (avAL_nil))) (Or.inl rfl) rfl rfl (Nat.le_of_ble_eq_true rfl) ?_
  conv => whnf
  refine br_t H (fun c H => ?_) (fun c H => ?_)
  conv => whnf
  injection H with H; subst H
  exact ret_fz [] (rtA_eq rfl)
  conv => whnf
  exact ⟨(k, wrap64 (x29 + 1)), [], ⟨H, lt_⟩, lt_, (fits_of ⟨.inl ⟨rfl, rfl⟩, trivial⟩ trivial fi_ trivial rfl)⟩
  conv => whnf
  revert H; refine bind_elim (fun t2318 A H => ?_)
  refine call_mk (impl_ClaimBook_part.ac A) (avAL_cons (avA_agg (avL_cons (av_shut' rfl) (avL_cons (av_shut' rfl) (avL_cons (av_shut' rfl) (avL_cons (av_shut' rfl) (avL_cons (av_shut' rfl) (avL_nil))))))) (avAL_cons (avA_shut' rfl) (avAL_nil))) (Or.inl rfl) rfl rfl (Nat.le_of_ble_eq_true rfl) ?_
  conv => whnf
  refine br_d H (fun c H => ?_) (fun c H => ?_)
  conv => whnf
  injection H with H; subst H
  exact ret_fz [] (rtA_eq rfl)
  conv => whnf
  refine cut_ 232 [(2, .bp 0 0), (3, .bp 8 0), (44, .bool (decide (a1_0 ≤ a0_4)))] [(0, .box [(sv_S_impl_ClaimFoe a0_0), (sv_S_impl_ClaimSpot a0_1), (sv_str a0_2), (sv_S_impl_ClaimPart a0_3), .int .i64 a0_4]), (8, .box [.int .i64 a1_0, .int .i64 a1_1, (sv_str a1_2), (sv_S_impl_ClaimUse a1_3), (sv_str a1_4), (sv_str a1_5)])] rfl ⟨.inl rfl, ⟨.inl rfl, ⟨.inl rfl, trivial⟩⟩⟩ ⟨rfl, ⟨rfl, trivial⟩⟩ ?_
  conv => whnf
  refine br_d H (fun c H => ?_) (fun c H => ?_)
  conv => whnf
  injection H with H; subst H
  exact ret_fz [] (rtA_eq rfl)
  conv => whnf
  refine br_d H (fun c H => ?_) (fun c H => ?_)
  conv => whnf
  injection H with H; subst H
  exact ret_fz [] (rtA_eq rfl)
  conv => whnf
  refine impl_ClaimBook_code.l1_lp (a0_0 := a0_0) (a0_1 := a0_1) (a0_2 := a0_2) (a0_3 := a0_3) (a0_4 := a0_4) (a1_0 := a1_0) (a1_1 := a1_1) (a1_2 := a1_2) (a1_3 := a1_3) (a1_4 := a1_4) (a1_5 := a1_5) (k := k) H [] (fits_of ⟨.inl ⟨rfl, rfl⟩, trivial⟩ trivial fi_ trivial rfl) ?_
  intro k x58 hk H; rcases k with _ | k; exact none_elim H; rw [impl_ClaimBook_code.l1] at H; conv => whnf
  refine cut_ 312 [(2, .bp 0 0), (3, .bp 8 0), (56, (sv_S_impl_ClaimPart a0_3)), (57, .int .i64 (a0_3.length : Int)), (58, .int .i64 x58), (59, .bool (decide (x58 < (a0_3.length : Int))))] [(0, .box [(sv_S_impl_ClaimFoe a0_0), (sv_S_impl_ClaimSpot a0_1), (sv_str a0_2), (sv_S_impl_ClaimPart a0_3), .int .i64 a0_4]), (8, .box [.int .i64 a1_0, .int .i64 a1_1, (sv_str a1_2), (sv_S_impl_ClaimUse a1_3), (sv_str a1_4), (sv_str a1_5)])] rfl ⟨.inl rfl, ⟨.inl rfl, ⟨.inl rfl, ⟨.inl rfl, ⟨.inl rfl, ⟨.inl rfl, trivial⟩⟩⟩⟩⟩⟩ ⟨rfl, ⟨rfl, trivial⟩⟩ ?_
  conv => whnf
  refine br_d H (fun c H => ?_) (fun c H => ?_)
  conv => whnf
  refine nd_ H (fun c H => ?_)
  conv => whnf
  refine Nd.mk nf_ ?_
  conv => whnf
  refine El.mk (rdm_en_S_impl_ClaimPart _ _ nf_ nf_) ?_
  conv => whnf
  revert H; refine bind_elim (fun t2319 A H => ?_)
  refine call_mk (impl_shareUse.ac A) (avAL_cons (avA_agg (avL_cons (av_shut' rfl) (avL_cons (av_shut' rfl) (avL_cons (av_shut' rfl) (avL_cons (av_shut' rfl) (avL_cons (av_shut' rfl) (avL_cons (av_shut' rfl) (avL_nil)))))))) (avAL_cons (avA_agg (avL_cons (av_shut' rfl) (avL_cons (av_shut' rfl) (avL_cons (av_shut' rfl) (avL_cons (av_shut' rfl) (avL_cons (av_shut' rfl) (avL_cons (av_shut' rfl) (avL_nil)))))))) (avAL_nil))) (Or.inl rfl) rfl rfl (Nat.le_of_ble_eq_true rfl) ?_
  conv => whnf
  refine br_t H (fun c H => ?_) (fun c H => ?_)
  conv => whnf
  injection H with H; subst H
  exact ret_fz [] (rtA_eq rfl)
  conv => whnf
  exact ⟨(k, wrap64 (x58 + 1)), [], ⟨H, lt_⟩, lt_, (fits_of ⟨.inl ⟨rfl, rfl⟩, trivial⟩ trivial fi_ trivial rfl)⟩
  conv => whnf
  refine impl_ClaimBook_code.l2_lp (a0_0 := a0_0) (a0_1 := a0_1) (a0_2 := a0_2) (a0_3 := a0_3) (a0_4 := a0_4) (a1_0 := a1_0) (a1_1 := a1_1) (a1_2 := a1_2) (a1_3 := a1_3) (a1_4 := a1_4) (a1_5 := a1_5) (k := k) H [] (fits_of ⟨.inl ⟨rfl, rfl⟩, trivial⟩ trivial fi_ trivial rfl) ?_
  intro k x70 hk H; rcases k with _ | k; exact none_elim H; rw [impl_ClaimBook_code.l2] at H; conv => whnf
  refine br_d H (fun c H => ?_) (fun c H => ?_)
  conv => whnf
  refine nd_ H (fun c H => ?_)
  conv => whnf
  refine Nd.mk nf_ ?_
  conv => whnf
  refine El.mk (rdm_en_S_impl_ClaimPart _ _ nf_ nf_) ?_
  conv => whnf
  revert H; refine bind_elim (fun t2320 A H => ?_)
  refine call_mk (impl_crosses.ac A) (avAL_cons (avA_agg (avL_cons (av_shut' rfl) (avL_cons (av_shut' rfl) (avL_cons (av_shut' rfl) (avL_cons (av_shut' rfl) (avL_cons (av_shut' rfl) (avL_cons (av_shut' rfl) (avL_nil)))))))) (avAL_cons (avA_agg (avL_cons (av_shut' rfl) (avL_cons (av_shut' rfl) (avL_cons (av_shut' rfl) (avL_cons (av_shut' rfl) (avL_cons (av_shut' rfl) (avL_cons (av_shut' rfl) (avL_nil)))))))) (avAL_nil))) (Or.inl rfl) rfl rfl (Nat.le_of_ble_eq_true rfl) ?_
  conv => whnf
  refine cut_ 416 [(2, .bp 0 0), (3, .bp 8 0), (68, (sv_S_impl_ClaimPart a0_3)), (69, .int .i64 (a0_3.length : Int)), (70, .int .i64 x70), (77, .bool t2320)] [(0, .box [(sv_S_impl_ClaimFoe a0_0), (sv_S_impl_ClaimSpot a0_1), (sv_str a0_2), (sv_S_impl_ClaimPart a0_3), .int .i64 a0_4]), (8, .box [.int .i64 a1_0, .int .i64 a1_1, (sv_str a1_2), (sv_S_impl_ClaimUse a1_3), (sv_str a1_4), (sv_str a1_5)])] rfl ⟨.inl rfl, ⟨.inl rfl, ⟨.inl rfl, ⟨.inl rfl, ⟨.inl rfl, ⟨.inl rfl, trivial⟩⟩⟩⟩⟩⟩ ⟨rfl, ⟨rfl, trivial⟩⟩ ?_
  conv => whnf
  refine br_t H (fun c H => ?_) (fun c H => ?_)
  conv => whnf
  injection H with H; subst H
  exact ret_fz [] (rtA_eq rfl)
  conv => whnf
  exact ⟨(k, wrap64 (x70 + 1)), [], ⟨H, lt_⟩, lt_, (fits_of ⟨.inl ⟨rfl, rfl⟩, trivial⟩ trivial fi_ trivial rfl)⟩
  conv => whnf
  revert H; refine bind_elim (fun t2321 A H => ?_)
  refine call_mk (impl_ClaimBook_pairs.ac A) (avAL_cons (avA_agg (avL_cons (av_shut' rfl) (avL_cons (av_shut' rfl) (avL_cons (av_shut' rfl) (avL_cons (av_shut' rfl) (avL_cons (av_shut' rfl) (avL_nil))))))) (avAL_nil)) (Or.inl rfl) rfl rfl (Nat.le_of_ble_eq_true rfl) ?_
  conv => whnf
  revert H; refine bind_elim (fun t2322 A H => ?_)
  refine call_mk (impl_anyFoes.ac A) (avAL_cons (avA_shut' rfl) (avAL_cons (avA_shut' rfl) (avAL_cons (avA_shut' rfl) (avAL_nil)))) (Or.inl rfl) rfl rfl (Nat.le_of_ble_eq_true rfl) ?_
  conv => whnf
  refine cut_ 408 [(2, .bp 0 0), (3, .bp 8 0), (85, .bool t2322)] [(0, .box [(sv_S_impl_ClaimFoe a0_0), (sv_S_impl_ClaimSpot a0_1), (sv_str a0_2), (sv_S_impl_ClaimPart a0_3), .int .i64 a0_4]), (8, .box [.int .i64 a1_0, .int .i64 a1_1, (sv_str a1_2), (sv_S_impl_ClaimUse a1_3), (sv_str a1_4), (sv_str a1_5)])] rfl ⟨.inl rfl, ⟨.inl rfl, ⟨.inl rfl, trivial⟩⟩⟩ ⟨rfl, ⟨rfl, trivial⟩⟩ ?_
  conv => whnf
  refine br_t H (fun c H => ?_) (fun c H => ?_)
  conv => whnf
  injection H with H; subst H
  exact ret_fz [] (rtA_eq rfl)
  conv => whnf
  refine br_d H (fun c H => ?_) (fun c H => ?_)
  conv => whnf
  refine impl_ClaimBook_code.l3_lp (a0_0 := a0_0) (a0_1 := a0_1) (a0_2 := a0_2) (a0_3 := a0_3) (a0_4 := a0_4) (a1_1 := a1_1) (a1_2 := a1_2) (a1_3 := a1_3) (k := k) H [] (fits_of ⟨.inl ⟨rfl, rfl⟩, trivial⟩ trivial fi_ trivial rfl) ?_
  intro k x92 hk H; rcases k with _ | k; exact none_elim H; rw [impl_ClaimBook_code.l3] at H; conv => whnf
  refine br_d H (fun c H => ?_) (fun c H => ?_)
  conv => whnf
  refine nd_ H (fun c H => ?_)
  conv => whnf
  refine Nd.mk nf_ ?_
  conv => whnf
  refine El.mk (rdm_en_S_impl_ClaimUse _ _ nf_ nf_) ?_
  conv => whnf
  refine cut_ 504 [(2, .bp 0 0), (3, .bp 8 0), (12, .bp 488 0), (90, (sv_S_impl_ClaimUse a1_3)), (91, .int .i64 (a1_3.length : Int)), (92, .int .i64 x92)] [(0, .box [(sv_S_impl_ClaimFoe a0_0), (sv_S_impl_ClaimSpot a0_1), (sv_str a0_2), (sv_S_impl_ClaimPart a0_3), .int .i64 a0_4]), (8, .box [.int .i64 a1_0, .int .i64 a1_1, (sv_str a1_2), (sv_S_impl_ClaimUse a1_3), (sv_str a1_4), (sv_str a1_5)]), (488, .box [.str ((rd_impl_ClaimUse a1_3 x92).f0), .int .i64 ((rd_impl_ClaimUse a1_3 x92).f1), .int .i64 ((rd_impl_ClaimUse a1_3 x92).f2)])] rfl ⟨.inl rfl, ⟨.inl rfl, ⟨.inl rfl, ⟨.inl rfl, ⟨.inl rfl, ⟨.inl rfl, trivial⟩⟩⟩⟩⟩⟩ ⟨rfl, ⟨rfl, ⟨rfl, trivial⟩⟩⟩ ?_
  conv => whnf
  revert H; refine bind_elim (fun t2323 A H => ?_)
  refine call_mk (impl_ClaimBook_spot.ac A) (avAL_cons (avA_agg (avL_cons (av_shut' rfl) (avL_cons (av_shut' rfl) (avL_cons (av_shut' rfl) (avL_cons (av_shut' rfl) (avL_cons (av_shut' rfl) (avL_nil))))))) (avAL_cons (avA_shut' rfl) (avAL_nil))) (Or.inl rfl) rfl rfl (Nat.le_of_ble_eq_true rfl) ?_
  conv => whnf
  refine nd_ H (fun c H => ?_)
  conv => whnf
  refine nd_ H (fun c H => ?_)
  conv => whnf
  refine El.mk (rdm_en_S_impl_ClaimSpot _ _ nf_ nf_) ?_
  conv => whnf
  refine br_nd H (fun c H => ?_) (fun c H => ?_)
  conv => whnf
  refine Br.f ff_ ?_
  conv => whnf
  refine Br.f ff_ ?_
  conv => whnf
  refine Br.f ff_ ?_
  conv => whnf
  refine Br.f ff_ ?_
  conv => whnf
  refine Br.f ff_ ?_
  conv => whnf
  refine Br.f ff_ ?_
  conv => whnf
  refine cut_ 672 [(2, .bp 0 0), (3, .bp 8 0), (12, .bp 488 0), (13, .bp 568 0), (90, (sv_S_impl_ClaimUse a1_3)), (91, .int .i64 (a1_3.length : Int)), (92, .int .i64 x92), (114, .bool false)] [(0, .box [(sv_S_impl_ClaimFoe a0_0), (sv_S_impl_ClaimSpot a0_1), (sv_str a0_2), (sv_S_impl_ClaimPart a0_3), .int .i64 a0_4]), (8, .box [.int .i64 a1_0, .int .i64 a1_1, (sv_str a1_2), (sv_S_impl_ClaimUse a1_3), (sv_str a1_4), (sv_str a1_5)]), (488, .box [.str ((rd_impl_ClaimUse a1_3 x92).f0), .int .i64 ((rd_impl_ClaimUse a1_3 x92).f1), .int .i64 ((rd_impl_ClaimUse a1_3 x92).f2)]), (568, .box [.str ((rd_impl_ClaimSpot a0_1 t2323).f0), .int .i64 ((rd_impl_ClaimSpot a0_1 t2323).f1), .int .i64 ((rd_impl_ClaimSpot a0_1 t2323).f2), .int .i64 ((rd_impl_ClaimSpot a0_1 t2323).f3), (sv_str ((rd_impl_ClaimSpot a0_1 t2323).f4))])] rfl ⟨.inl rfl, ⟨.inl rfl, ⟨.inl rfl, ⟨.inl rfl, ⟨.inl rfl, ⟨.inl rfl, ⟨.inl rfl, ⟨.inl rfl, trivial⟩⟩⟩⟩⟩⟩⟩⟩ ⟨rfl, ⟨rfl, ⟨rfl, ⟨rfl, trivial⟩⟩⟩⟩ ?_
  conv => whnf
  refine Br.f rfl ?_
  conv => whnf
  refine Br.t ft_ ?_
  conv => whnf
  refine Br.t ft_ ?_
  conv => whnf
  revert H; refine bind_elim (fun t2324 A H => ?_)
  refine call_mk (impl_ClaimBook_pairs.ac A) (avAL_cons (avA_agg (avL_cons (av_shut' rfl) (avL_cons (av_shut' rfl) (avL_cons (av_shut' rfl) (avL_cons (av_shut' rfl) (avL_cons (av_shut' rfl) (avL_nil))))))) (avAL_nil)) (Or.inl rfl) rfl rfl (Nat.le_of_ble_eq_true rfl) ?_
  conv => whnf
  refine Br.t ft_ ?_
  conv => whnf
  refine Br.t ft_ ?_
  conv => whnf
  refine Br.t ft_ ?_
  conv => whnf
  refine Br.t ft_ ?_
  conv => whnf
  refine Br.t ft_ ?_
  conv => whnf
  revert H; refine bind_elim (fun t2325 A H => ?_)
  refine call_mk (impl_anyFoes.ac A) (avAL_cons (avA_shut' rfl) (avAL_cons (avA_shut' rfl) (avAL_cons (avA_shut' rfl) (avAL_nil)))) (Or.inl rfl) rfl rfl (Nat.le_of_ble_eq_true rfl) ?_
  conv => whnf
  refine Br.t ft_ ?_
  conv => whnf
  refine cut_ 768 [(2, .bp 0 0), (3, .bp 8 0), (12, .bp 488 0), (13, .bp 568 0), (90, (sv_S_impl_ClaimUse a1_3)), (91, .int .i64 (a1_3.length : Int)), (92, .int .i64 x92), (126, .bool t2325)] [(0, .box [(sv_S_impl_ClaimFoe a0_0), (sv_S_impl_ClaimSpot a0_1), (sv_str a0_2), (sv_S_impl_ClaimPart a0_3), .int .i64 a0_4]), (8, .box [.int .i64 a1_0, .int .i64 a1_1, (sv_str a1_2), (sv_S_impl_ClaimUse a1_3), (sv_str a1_4), (sv_str a1_5)]), (488, .box [.str ((rd_impl_ClaimUse a1_3 x92).f0), .int .i64 ((rd_impl_ClaimUse a1_3 x92).f1), .int .i64 ((rd_impl_ClaimUse a1_3 x92).f2)]), (568, .box [.str ((rd_impl_ClaimSpot a0_1 t2323).f0), .int .i64 ((rd_impl_ClaimSpot a0_1 t2323).f1), .int .i64 ((rd_impl_ClaimSpot a0_1 t2323).f2), .int .i64 ((rd_impl_ClaimSpot a0_1 t2323).f3), (sv_str ((rd_impl_ClaimSpot a0_1 t2323).f4))])] rfl ⟨.inl rfl, ⟨.inl rfl, ⟨.inl rfl, ⟨.inl rfl, ⟨.inl rfl, ⟨.inl rfl, ⟨.inl rfl, ⟨.inl rfl, trivial⟩⟩⟩⟩⟩⟩⟩⟩ ⟨rfl, ⟨rfl, ⟨rfl, ⟨rfl, trivial⟩⟩⟩⟩ ?_
  conv => whnf
  refine br_t H (fun c H => ?_) (fun c H => ?_)
  conv => whnf
  injection H with H; subst H
  exact ret_fz [] (rtA_eq rfl)
  conv => whnf
  refine Br.t ft_ ?_
  conv => whnf
  refine Br.t ft_ ?_
  conv => whnf
  refine Br.t ft_ ?_
  conv => whnf
  refine Br.t ft_ ?_
  conv => whnf
  refine Br.t ft_ ?_
  conv => whnf
  revert H; refine bind_elim (fun t2326 A H => ?_)
  refine call_mk (impl_with.ac A) (avAL_cons (avA_shut' rfl) (avAL_cons (avA_shut' rfl) (avAL_nil))) (Or.inl rfl) rfl rfl (Nat.le_of_ble_eq_true rfl) ?_
  conv => whnf
  refine Br.t ft_ ?_
  conv => whnf
  refine Br.t ft_ ?_
  conv => whnf
  refine Br.t ft_ ?_
  conv => whnf
  refine cut_ 864 [(2, .bp 0 0), (3, .bp 8 0), (90, (sv_S_impl_ClaimUse a1_3)), (91, .int .i64 (a1_3.length : Int)), (92, .int .i64 x92), (138, .bool (decide ((t2326.length : Int) > 8)))] [(0, .box [(sv_S_impl_ClaimFoe a0_0), (sv_S_impl_ClaimSpot a0_1), (sv_str a0_2), (sv_S_impl_ClaimPart a0_3), .int .i64 a0_4]), (8, .box [.int .i64 a1_0, .int .i64 a1_1, (sv_str a1_2), (sv_S_impl_ClaimUse a1_3), (sv_str a1_4), (sv_str a1_5)])] rfl ⟨.inl rfl, ⟨.inl rfl, ⟨.inl rfl, ⟨.inl rfl, ⟨.inl rfl, ⟨.inl rfl, trivial⟩⟩⟩⟩⟩⟩ ⟨rfl, ⟨rfl, trivial⟩⟩ ?_
  conv => whnf
  refine br_d H (fun c H => ?_) (fun c H => ?_)
  conv => whnf
  injection H with H; subst H
  exact ret_fz [] (rtA_eq rfl)
  conv => whnf
  exact ⟨(k, wrap64 (x92 + 1)), [], ⟨H, lt_⟩, lt_, (fits_of ⟨.inl ⟨rfl, rfl⟩, trivial⟩ trivial fi_ trivial rfl)⟩
  conv => whnf
  refine Br.t ft_ ?_
  conv => whnf
  refine Br.t ft_ ?_
  conv => whnf
  refine Br.t ft_ ?_
  conv => whnf
  refine Br.t ft_ ?_
  conv => whnf
  revert H; refine bind_elim (fun t2327 A H => ?_)
  refine call_mk (impl_within.ac A) (avAL_cons (avA_shut' rfl) (avAL_cons (avA_shut' rfl) (avAL_nil))) (Or.inl rfl) rfl rfl (Nat.le_of_ble_eq_true rfl) ?_
  conv => whnf
  refine Br.t ft_ ?_
  conv => whnf
  refine Br.t ft_ ?_
  conv => whnf
  refine cut_ 672 [(2, .bp 0 0), (3, .bp 8 0), (12, .bp 488 0), (13, .bp 568 0), (90, (sv_S_impl_ClaimUse a1_3)), (91, .int .i64 (a1_3.length : Int)), (92, .int .i64 x92), (114, .bool (!t2327))] [(0, .box [(sv_S_impl_ClaimFoe a0_0), (sv_S_impl_ClaimSpot a0_1), (sv_str a0_2), (sv_S_impl_ClaimPart a0_3), .int .i64 a0_4]), (8, .box [.int .i64 a1_0, .int .i64 a1_1, (sv_str a1_2), (sv_S_impl_ClaimUse a1_3), (sv_str a1_4), (sv_str a1_5)]), (488, .box [.str ((rd_impl_ClaimUse a1_3 x92).f0), .int .i64 ((rd_impl_ClaimUse a1_3 x92).f1), .int .i64 ((rd_impl_ClaimUse a1_3 x92).f2)]), (568, .box [.str ((rd_impl_ClaimSpot a0_1 t2323).f0), .int .i64 ((rd_impl_ClaimSpot a0_1 t2323).f1), .int .i64 ((rd_impl_ClaimSpot a0_1 t2323).f2), .int .i64 ((rd_impl_ClaimSpot a0_1 t2323).f3), (sv_str ((rd_impl_ClaimSpot a0_1 t2323).f4))])] rfl ⟨.inl rfl, ⟨.inl rfl, ⟨.inl rfl, ⟨.inl rfl, ⟨.inl rfl, ⟨.inl rfl, ⟨.inl rfl, ⟨.inl rfl, trivial⟩⟩⟩⟩⟩⟩⟩⟩ ⟨rfl, ⟨rfl, ⟨rfl, ⟨rfl, trivial⟩⟩⟩⟩ ?_
  conv => whnf
  refine br_nt H (fun c H => ?_) (fun c H => ?_)
  conv => whnf
  refine Br.f ff_ ?_
  conv => whnf
  refine Br.f ff_ ?_
  conv => whnf
  refine Br.f ff_ ?_
  conv => whnf
  refine Br.f ff_ ?_
  conv => whnf
  refine Br.f ff_ ?_
  conv => whnf
  refine Br.f ff_ ?_
  conv => whnf
  refine Br.f ff_ ?_
  conv => whnf
  refine Br.f ff_ ?_
  conv => whnf
  refine cut_ 768 [(2, .bp 0 0), (3, .bp 8 0), (12, .bp 488 0), (13, .bp 568 0), (90, (sv_S_impl_ClaimUse a1_3)), (91, .int .i64 (a1_3.length : Int)), (92, .int .i64 x92), (126, .bool false)] [(0, .box [(sv_S_impl_ClaimFoe a0_0), (sv_S_impl_ClaimSpot a0_1), (sv_str a0_2), (sv_S_impl_ClaimPart a0_3), .int .i64 a0_4]), (8, .box [.int .i64 a1_0, .int .i64 a1_1, (sv_str a1_2), (sv_S_impl_ClaimUse a1_3), (sv_str a1_4), (sv_str a1_5)]), (488, .box [.str ((rd_impl_ClaimUse a1_3 x92).f0), .int .i64 ((rd_impl_ClaimUse a1_3 x92).f1), .int .i64 ((rd_impl_ClaimUse a1_3 x92).f2)]), (568, .box [.str ((rd_impl_ClaimSpot a0_1 t2323).f0), .int .i64 ((rd_impl_ClaimSpot a0_1 t2323).f1), .int .i64 ((rd_impl_ClaimSpot a0_1 t2323).f2), .int .i64 ((rd_impl_ClaimSpot a0_1 t2323).f3), (sv_str ((rd_impl_ClaimSpot a0_1 t2323).f4))])] rfl ⟨.inl rfl, ⟨.inl rfl, ⟨.inl rfl, ⟨.inl rfl, ⟨.inl rfl, ⟨.inl rfl, ⟨.inl rfl, ⟨.inl rfl, trivial⟩⟩⟩⟩⟩⟩⟩⟩ ⟨rfl, ⟨rfl, ⟨rfl, ⟨rfl, trivial⟩⟩⟩⟩ ?_
  conv => whnf
  refine Br.f rfl ?_
  conv => whnf
  refine Br.f ff_ ?_
  conv => whnf
  refine Br.f ff_ ?_
  conv => whnf
  refine Br.f ff_ ?_
  conv => whnf
  refine Br.f ff_ ?_
  conv => whnf
  refine Br.f ff_ ?_
  conv => whnf
  refine Br.f ff_ ?_
  conv => whnf
  refine Br.f ff_ ?_
  conv => whnf
  refine Br.f ff_ ?_
  conv => whnf
  refine cut_ 864 [(2, .bp 0 0), (3, .bp 8 0), (90, (sv_S_impl_ClaimUse a1_3)), (91, .int .i64 (a1_3.length : Int)), (92, .int .i64 x92), (138, .bool false)] [(0, .box [(sv_S_impl_ClaimFoe a0_0), (sv_S_impl_ClaimSpot a0_1), (sv_str a0_2), (sv_S_impl_ClaimPart a0_3), .int .i64 a0_4]), (8, .box [.int .i64 a1_0, .int .i64 a1_1, (sv_str a1_2), (sv_S_impl_ClaimUse a1_3), (sv_str a1_4), (sv_str a1_5)])] rfl ⟨.inl rfl, ⟨.inl rfl, ⟨.inl rfl, ⟨.inl rfl, ⟨.inl rfl, ⟨.inl rfl, trivial⟩⟩⟩⟩⟩⟩ ⟨rfl, ⟨rfl, trivial⟩⟩ ?_
  conv => whnf
  refine Br.f rfl ?_
  conv => whnf
  exact ⟨(k, wrap64 (x92 + 1)), [], ⟨H, lt_⟩, lt_, (fits_of ⟨.inl ⟨rfl, rfl⟩, trivial⟩ trivial fi_ trivial rfl)⟩
  conv => whnf
  injection H with H; subst H
  exact ret_fz [] (rtA_eq rfl)
  conv => whnf
  refine cut_ 504 [(2, .bp 0 0), (3, .bp 8 0), (141, (sv_S_impl_ClaimUse a1_3)), (142, .int .i64 (a1_3.length : Int)), (143, .int .i64 0)] [(0, .box [(sv_S_impl_ClaimFoe a0_0), (sv_S_impl_ClaimSpot a0_1), (sv_str a0_2), (sv_S_impl_ClaimPart a0_3), .int .i64 a0_4]), (8, .box [.int .i64 a1_0, .int .i64 a1_1, (sv_str a1_2), (sv_S_impl_ClaimUse a1_3), (sv_str a1_4), (sv_str a1_5)])] rfl ⟨.inl rfl, ⟨.inl rfl, ⟨.inl rfl, ⟨.inl rfl, ⟨.inl rfl, trivial⟩⟩⟩⟩⟩ ⟨rfl, ⟨rfl, trivial⟩⟩ ?_
  conv => whnf
  refine impl_ClaimBook_code.l4_lp (a0_0 := a0_0) (a0_1 := a0_1) (a0_2 := a0_2) (a0_3 := a0_3) (a0_4 := a0_4) (a1_1 := a1_1) (a1_3 := a1_3) (k := k) H [] (fits_of ⟨.inl ⟨rfl, rfl⟩, trivial⟩ trivial fi_ trivial rfl) ?_
  intro k x143 hk H; rcases k with _ | k; exact none_elim H; rw [impl_ClaimBook_code.l4] at H; conv => whnf
  refine br_d H (fun c H => ?_) (fun c H => ?_)
  conv => whnf
  refine nd_ H (fun c H => ?_)
  conv => whnf
  refine Nd.mk nf_ ?_
  conv => whnf
  refine El.mk (rdm_en_S_impl_ClaimUse _ _ nf_ nf_) ?_
  conv => whnf
  revert H; refine bind_elim (fun t2328 A H => ?_)
  refine call_mk (impl_ClaimBook_spot.ac A) (avAL_cons (avA_agg (avL_cons (av_shut' rfl) (avL_cons (av_shut' rfl) (avL_cons (av_shut' rfl) (avL_cons (av_shut' rfl) (avL_cons (av_shut' rfl) (avL_nil))))))) (avAL_cons (avA_shut' rfl) (avAL_nil))) (Or.inl rfl) rfl rfl (Nat.le_of_ble_eq_true rfl) ?_
  conv => whnf
  refine nd_ H (fun c H => ?_)
  conv => whnf
  refine nd_ H (fun c H => ?_)
  conv => whnf
  refine El.mk (rdm_en_S_impl_ClaimSpot _ _ nf_ nf_) ?_
  conv => whnf
  refine cut_ 624 [(2, .bp 0 0), (3, .bp 8 0), (15, .bp 528 0), (16, .bp 608 0), (141, (sv_S_impl_ClaimUse a1_3)), (142, .int .i64 (a1_3.length : Int)), (143, .int .i64 x143)] [(0, .box [(sv_S_impl_ClaimFoe a0_0), (sv_S_impl_ClaimSpot a0_1), (sv_str a0_2), (sv_S_impl_ClaimPart a0_3), .int .i64 a0_4]), (8, .box [.int .i64 a1_0, .int .i64 a1_1, (sv_str a1_2), (sv_S_impl_ClaimUse a1_3), (sv_str a1_4), (sv_str a1_5)]), (528, .box [.str ((rd_impl_ClaimUse a1_3 x143).f0), .int .i64 ((rd_impl_ClaimUse a1_3 x143).f1), .int .i64 ((rd_impl_ClaimUse a1_3 x143).f2)]), (608, .box [.str ((rd_impl_ClaimSpot a0_1 t2328).f0), .int .i64 ((rd_impl_ClaimSpot a0_1 t2328).f1), .int .i64 ((rd_impl_ClaimSpot a0_1 t2328).f2), .int .i64 ((rd_impl_ClaimSpot a0_1 t2328).f3), (sv_str ((rd_impl_ClaimSpot a0_1 t2328).f4))])] rfl ⟨.inl rfl, ⟨.inl rfl, ⟨.inl rfl, ⟨.inl rfl, ⟨.inl rfl, ⟨.inl rfl, ⟨.inl rfl, trivial⟩⟩⟩⟩⟩⟩⟩ ⟨rfl, ⟨rfl, ⟨rfl, ⟨rfl, trivial⟩⟩⟩⟩ ?_
  conv => whnf
  refine br_d H (fun c H => ?_) (fun c H => ?_)
  conv => whnf
  refine Br.t ft_ ?_
  conv => whnf
  refine Br.t ft_ ?_
  conv => whnf
  refine Br.t ft_ ?_
  conv => whnf
  refine Br.t ft_ ?_
  conv => whnf
  refine Br.t ft_ ?_
  conv => whnf
  refine cut_ 712 [(2, .bp 0 0), (3, .bp 8 0), (15, .bp 528 0), (16, .bp 608 0), (141, (sv_S_impl_ClaimUse a1_3)), (142, .int .i64 (a1_3.length : Int)), (143, .int .i64 x143), (155, .bool (decide (((rd_impl_ClaimSpot a0_1 t2328).f2) < ((rd_impl_ClaimUse a1_3 x143).f2))))] [(0, .box [(sv_S_impl_ClaimFoe a0_0), (sv_S_impl_ClaimSpot a0_1), (sv_str a0_2), (sv_S_impl_ClaimPart a0_3), .int .i64 a0_4]), (8, .box [.int .i64 a1_0, .int .i64 a1_1, (sv_str a1_2), (sv_S_impl_ClaimUse a1_3), (sv_str a1_4), (sv_str a1_5)]), (528, .box [.str ((rd_impl_ClaimUse a1_3 x143).f0), .int .i64 ((rd_impl_ClaimUse a1_3 x143).f1), .int .i64 ((rd_impl_ClaimUse a1_3 x143).f2)]), (608, .box [.str ((rd_impl_ClaimSpot a0_1 t2328).f0), .int .i64 ((rd_impl_ClaimSpot a0_1 t2328).f1), .int .i64 ((rd_impl_ClaimSpot a0_1 t2328).f2), .int .i64 ((rd_impl_ClaimSpot a0_1 t2328).f3), (sv_str ((rd_impl_ClaimSpot a0_1 t2328).f4))])] rfl ⟨.inl rfl, ⟨.inl rfl, ⟨.inl rfl, ⟨.inl rfl, ⟨.inl rfl, ⟨.inl rfl, ⟨.inl rfl, ⟨.inl rfl, trivial⟩⟩⟩⟩⟩⟩⟩⟩ ⟨rfl, ⟨rfl, ⟨rfl, ⟨rfl, trivial⟩⟩⟩⟩ ?_
  conv => whnf
  refine br_d H (fun c H => ?_) (fun c H => ?_)
  conv => whnf
  refine cut_ 720 [(4, .int .i64 9)] [] rfl ⟨.inl rfl, trivial⟩ trivial ?_
  conv => whnf
  injection H with H; subst H
  exact ret_fz [] (rtA_eq rfl)
  conv => whnf
  refine br_d H (fun c H => ?_) (fun c H => ?_)
  conv => whnf
  refine Br.t ft_ ?_
  conv => whnf
  refine Br.t ft_ ?_
  conv => whnf
  refine Br.t ft_ ?_
  conv => whnf
  refine Br.t ft_ ?_
  conv => whnf
  refine Br.t ft_ ?_
  conv => whnf
  refine Br.t ft_ ?_
  conv => whnf
  refine Br.t ft_ ?_
  conv => whnf
  refine Br.t ft_ ?_
  conv => whnf
  refine cut_ 824 [(2, .bp 0 0), (3, .bp 8 0), (16, .bp 608 0), (141, (sv_S_impl_ClaimUse a1_3)), (142, .int .i64 (a1_3.length : Int)), (143, .int .i64 x143), (166, .bool (decide ((wrap64 (((rd_impl_ClaimSpot a0_1 t2328).f3) + ((rd_impl_ClaimUse a1_3 x143).f2))) > ((rd_impl_ClaimSpot a0_1 t2328).f1))))] [(0, .box [(sv_S_impl_ClaimFoe a0_0), (sv_S_impl_ClaimSpot a0_1), (sv_str a0_2), (sv_S_impl_ClaimPart a0_3), .int .i64 a0_4]), (8, .box [.int .i64 a1_0, .int .i64 a1_1, (sv_str a1_2), (sv_S_impl_ClaimUse a1_3), (sv_str a1_4), (sv_str a1_5)]), (608, .box [.str ((rd_impl_ClaimSpot a0_1 t2328).f0), .int .i64 ((rd_impl_ClaimSpot a0_1 t2328).f1), .int .i64 ((rd_impl_ClaimSpot a0_1 t2328).f2), .int .i64 ((rd_impl_ClaimSpot a0_1 t2328).f3), (sv_str ((rd_impl_ClaimSpot a0_1 t2328).f4))])] rfl ⟨.inl rfl, ⟨.inl rfl, ⟨.inl rfl, ⟨.inl rfl, ⟨.inl rfl, ⟨.inl rfl, ⟨.inl rfl, trivial⟩⟩⟩⟩⟩⟩⟩ ⟨rfl, ⟨rfl, ⟨rfl, trivial⟩⟩⟩ ?_
  conv => whnf
  refine br_d H (fun c H => ?_) (fun c H => ?_)
  conv => whnf
  refine cut_ 832 [(4, .int .i64 10)] [] rfl ⟨.inl rfl, trivial⟩ trivial ?_
  conv => whnf
  injection H with H; subst H
  exact ret_fz [] (rtA_eq rfl)
  conv => whnf
  refine br_d H (fun c H => ?_) (fun c H => ?_)
  conv => whnf
  refine Br.t ft_ ?_
  conv => whnf
  refine Br.t ft_ ?_
  conv => whnf
  refine Br.t ft_ ?_
  conv => whnf
  refine cut_ 896 [(2, .bp 0 0), (3, .bp 8 0), (141, (sv_S_impl_ClaimUse a1_3)), (142, .int .i64 (a1_3.length : Int)), (143, .int .i64 x143), (180, .bool (decide (((rd_impl_ClaimSpot a0_1 t2328).f3) > 0)))] [(0, .box [(sv_S_impl_ClaimFoe a0_0), (sv_S_impl_ClaimSpot a0_1), (sv_str a0_2), (sv_S_impl_ClaimPart a0_3), .int .i64 a0_4]), (8, .box [.int .i64 a1_0, .int .i64 a1_1, (sv_str a1_2), (sv_S_impl_ClaimUse a1_3), (sv_str a1_4), (sv_str a1_5)])] rfl ⟨.inl rfl, ⟨.inl rfl, ⟨.inl rfl, ⟨.inl rfl, ⟨.inl rfl, ⟨.inl rfl, trivial⟩⟩⟩⟩⟩⟩ ⟨rfl, ⟨rfl, trivial⟩⟩ ?_
  conv => whnf
  refine br_d H (fun c H => ?_) (fun c H => ?_)
  conv => whnf
  refine cut_ 904 [(4, .int .i64 11)] [] rfl ⟨.inl rfl, trivial⟩ trivial ?_
  conv => whnf
  injection H with H; subst H
  exact ret_fz [] (rtA_eq rfl)
  conv => whnf
  exact ⟨(k, wrap64 (x143 + 1)), [], ⟨H, lt_⟩, lt_, (fits_of ⟨.inl ⟨rfl, rfl⟩, trivial⟩ trivial fi_ trivial rfl)⟩
  conv => whnf
  refine Br.f ff_ ?_
  conv => whnf
  refine Br.f ff_ ?_
  conv => whnf
  refine Br.f ff_ ?_
  conv => whnf
  refine cut_ 896 [(2, .bp 0 0), (3, .bp 8 0), (141, (sv_S_impl_ClaimUse a1_3)), (142, .int .i64 (a1_3.length : Int)), (143, .int .i64 x143), (180, .bool false)] [(0, .box [(sv_S_impl_ClaimFoe a0_0), (sv_S_impl_ClaimSpot a0_1), (sv_str a0_2), (sv_S_impl_ClaimPart a0_3), .int .i64 a0_4]), (8, .box [.int .i64 a1_0, .int .i64 a1_1, (sv_str a1_2), (sv_S_impl_ClaimUse a1_3), (sv_str a1_4), (sv_str a1_5)])] rfl ⟨.inl rfl, ⟨.inl rfl, ⟨.inl rfl, ⟨.inl rfl, ⟨.inl rfl, ⟨.inl rfl, trivial⟩⟩⟩⟩⟩⟩ ⟨rfl, ⟨rfl, trivial⟩⟩ ?_
  conv => whnf
  refine Br.f rfl ?_
  conv => whnf
  exact ⟨(k, wrap64 (x143 + 1)), [], ⟨H, lt_⟩, lt_, (fits_of ⟨.inl ⟨rfl, rfl⟩, trivial⟩ trivial fi_ trivial rfl)⟩
  conv => whnf
  refine Br.f ff_ ?_
  conv => whnf
  refine Br.f ff_ ?_
  conv => whnf
  refine Br.f ff_ ?_
  conv => whnf
  refine Br.f ff_ ?_
  conv => whnf
  refine Br.f ff_ ?_
  conv => whnf
  refine Br.f ff_ ?_
  conv => whnf
  refine Br.f ff_ ?_
  conv => whnf
  refine Br.f ff_ ?_
  conv => whnf
  refine cut_ 824 [(2, .bp 0 0), (3, .bp 8 0), (16, .bp 608 0), (141, (sv_S_impl_ClaimUse a1_3)), (142, .int .i64 (a1_3.length : Int)), (143, .int .i64 x143), (166, .bool false)] [(0, .box [(sv_S_impl_ClaimFoe a0_0), (sv_S_impl_ClaimSpot a0_1), (sv_str a0_2), (sv_S_impl_ClaimPart a0_3), .int .i64 a0_4]), (8, .box [.int .i64 a1_0, .int .i64 a1_1, (sv_str a1_2), (sv_S_impl_ClaimUse a1_3), (sv_str a1_4), (sv_str a1_5)]), (608, .box [.str ((rd_impl_ClaimSpot a0_1 t2328).f0), .int .i64 ((rd_impl_ClaimSpot a0_1 t2328).f1), .int .i64 ((rd_impl_ClaimSpot a0_1 t2328).f2), .int .i64 ((rd_impl_ClaimSpot a0_1 t2328).f3), (sv_str ((rd_impl_ClaimSpot a0_1 t2328).f4))])] rfl ⟨.inl rfl, ⟨.inl rfl, ⟨.inl rfl, ⟨.inl rfl, ⟨.inl rfl, ⟨.inl rfl, ⟨.inl rfl, trivial⟩⟩⟩⟩⟩⟩⟩ ⟨rfl, ⟨rfl, ⟨rfl, trivial⟩⟩⟩ ?_
  conv => whnf
  refine Br.f rfl ?_
  conv => whnf
  refine br_d H (fun c H => ?_) (fun c H => ?_)
  conv => whnf
  refine Br.t ft_ ?_
  conv => whnf
  refine Br.t ft_ ?_
  conv => whnf
  refine Br.t ft_ ?_
  conv => whnf
  refine cut_ 896 [(2, .bp 0 0), (3, .bp 8 0), (141, (sv_S_impl_ClaimUse a1_3)), (142, .int .i64 (a1_3.length : Int)), (143, .int .i64 x143), (180, .bool (decide (((rd_impl_ClaimSpot a0_1 t2328).f3) > 0)))] [(0, .box [(sv_S_impl_ClaimFoe a0_0), (sv_S_impl_ClaimSpot a0_1), (sv_str a0_2), (sv_S_impl_ClaimPart a0_3), .int .i64 a0_4]), (8, .box [.int .i64 a1_0, .int .i64 a1_1, (sv_str a1_2), (sv_S_impl_ClaimUse a1_3), (sv_str a1_4), (sv_str a1_5)])] rfl ⟨.inl rfl, ⟨.inl rfl, ⟨.inl rfl, ⟨.inl rfl, ⟨.inl rfl, ⟨.inl rfl, trivial⟩⟩⟩⟩⟩⟩ ⟨rfl, ⟨rfl, trivial⟩⟩ ?_
  conv => whnf
  refine br_d H (fun c H => ?_) (fun c H => ?_)
  conv => whnf
  refine cut_ 904 [(4, .int .i64 11)] [] rfl ⟨.inl rfl, trivial⟩ trivial ?_
  conv => whnf
  injection H with H; subst H
  exact ret_fz [] (rtA_eq rfl)
  conv => whnf
  exact ⟨(k, wrap64 (x143 + 1)), [], ⟨H, lt_⟩, lt_, (fits_of ⟨.inl ⟨rfl, rfl⟩, trivial⟩ trivial fi_ trivial rfl)⟩
  conv => whnf
  refine Br.f ff_ ?_
  conv => whnf
  refine Br.f ff_ ?_
  conv => whnf
  refine Br.f ff_ ?_
  conv => whnf
  refine cut_ 896 [(2, .bp 0 0), (3, .bp 8 0), (141, (sv_S_impl_ClaimUse a1_3)), (142, .int .i64 (a1_3.length : Int)), (143, .int .i64 x143), (180, .bool false)] [(0, .box [(sv_S_impl_ClaimFoe a0_0), (sv_S_impl_ClaimSpot a0_1), (sv_str a0_2), (sv_S_impl_ClaimPart a0_3), .int .i64 a0_4]), (8, .box [.int .i64 a1_0, .int .i64 a1_1, (sv_str a1_2), (sv_S_impl_ClaimUse a1_3), (sv_str a1_4), (sv_str a1_5)])] rfl ⟨.inl rfl, ⟨.inl rfl, ⟨.inl rfl, ⟨.inl rfl, ⟨.inl rfl, ⟨.inl rfl, trivial⟩⟩⟩⟩⟩⟩ ⟨rfl, ⟨rfl, trivial⟩⟩ ?_
  conv => whnf
  refine Br.f rfl ?_
  conv => whnf
  exact ⟨(k, wrap64 (x143 + 1)), [], ⟨H, lt_⟩, lt_, (fits_of ⟨.inl ⟨rfl, rfl⟩, trivial⟩ trivial fi_ trivial rfl)⟩
  conv => whnf
  refine Br.f ff_ ?_
  conv => whnf
  refine Br.f ff_ ?_
  conv => whnf
  refine Br.f ff_ ?_
  conv => whnf
  refine Br.f ff_ ?_
  conv => whnf
  refine Br.f ff_ ?_
  conv => whnf
  refine cut_ 712 [(2, .bp 0 0), (3, .bp 8 0), (15, .bp 528 0), (16, .bp 608 0), (141, (sv_S_impl_ClaimUse a1_3)), (142, .int .i64 (a1_3.length : Int)), (143, .int .i64 x143), (155, .bool false)] [(0, .box [(sv_S_impl_ClaimFoe a0_0), (sv_S_impl_ClaimSpot a0_1), (sv_str a0_2), (sv_S_impl_ClaimPart a0_3), .int .i64 a0_4]), (8, .box [.int .i64 a1_0, .int .i64 a1_1, (sv_str a1_2), (sv_S_impl_ClaimUse a1_3), (sv_str a1_4), (sv_str a1_5)]), (528, .box [.str ((rd_impl_ClaimUse a1_3 x143).f0), .int .i64 ((rd_impl_ClaimUse a1_3 x143).f1), .int .i64 ((rd_impl_ClaimUse a1_3 x143).f2)]), (608, .box [.str ((rd_impl_ClaimSpot a0_1 t2328).f0), .int .i64 ((rd_impl_ClaimSpot a0_1 t2328).f1), .int .i64 ((rd_impl_ClaimSpot a0_1 t2328).f2), .int .i64 ((rd_impl_ClaimSpot a0_1 t2328).f3), (sv_str ((rd_impl_ClaimSpot a0_1 t2328).f4))])] rfl ⟨.inl rfl, ⟨.inl rfl, ⟨.inl rfl, ⟨.inl rfl, ⟨.inl rfl, ⟨.inl rfl, ⟨.inl rfl, ⟨.inl rfl, trivial⟩⟩⟩⟩⟩⟩⟩⟩ ⟨rfl, ⟨rfl, ⟨rfl, ⟨rfl, trivial⟩⟩⟩⟩ ?_
  conv => whnf
  refine Br.f rfl ?_
  conv => whnf
  refine br_d H (fun c H => ?_) (fun c H => ?_)
  conv => whnf
  refine Br.t ft_ ?_
  conv => whnf
  refine Br.t ft_ ?_
  conv => whnf
  refine Br.t ft_ ?_
  conv => whnf
  refine Br.t ft_ ?_
  conv => whnf
  refine Br.t ft_ ?_
  conv => whnf
  refine Br.t ft_ ?_
  conv => whnf
  refine Br.t ft_ ?_
  conv => whnf
  refine Br.t ft_ ?_
  conv => whnf
  refine cut_ 824 [(2, .bp 0 0), (3, .bp 8 0), (16, .bp 608 0), (141, (sv_S_impl_ClaimUse a1_3)), (142, .int .i64 (a1_3.length : Int)), (143, .int .i64 x143), (166, .bool (decide ((wrap64 (((rd_impl_ClaimSpot a0_1 t2328).f3) + ((rd_impl_ClaimUse a1_3 x143).f2))) > ((rd_impl_ClaimSpot a0_1 t2328).f1))))] [(0, .box [(sv_S_impl_ClaimFoe a0_0), (sv_S_impl_ClaimSpot a0_1), (sv_str a0_2), (sv_S_impl_ClaimPart a0_3), .int .i64 a0_4]), (8, .box [.int .i64 a1_0, .int .i64 a1_1, (sv_str a1_2), (sv_S_impl_ClaimUse a1_3), (sv_str a1_4), (sv_str a1_5)]), (608, .box [.str ((rd_impl_ClaimSpot a0_1 t2328).f0), .int .i64 ((rd_impl_ClaimSpot a0_1 t2328).f1), .int .i64 ((rd_impl_ClaimSpot a0_1 t2328).f2), .int .i64 ((rd_impl_ClaimSpot a0_1 t2328).f3), (sv_str ((rd_impl_ClaimSpot a0_1 t2328).f4))])] rfl ⟨.inl rfl, ⟨.inl rfl, ⟨.inl rfl, ⟨.inl rfl, ⟨.inl rfl, ⟨.inl rfl, ⟨.inl rfl, trivial⟩⟩⟩⟩⟩⟩⟩ ⟨rfl, ⟨rfl, ⟨rfl, trivial⟩⟩⟩ ?_
  conv => whnf
  refine br_d H (fun c H => ?_) (fun c H => ?_)
  conv => whnf
  refine cut_ 832 [(4, .int .i64 10)] [] rfl ⟨.inl rfl, trivial⟩ trivial ?_
  conv => whnf
  injection H with H; subst H
  exact ret_fz [] (rtA_eq rfl)
  conv => whnf
  refine br_d H (fun c H => ?_) (fun c H => ?_)
  conv => whnf
  refine Br.t ft_ ?_
  conv => whnf
  refine Br.t ft_ ?_
  conv => whnf
  refine Br.t ft_ ?_
  conv => whnf
  refine cut_ 896 [(2, .bp 0 0), (3, .bp 8 0), (141, (sv_S_impl_ClaimUse a1_3)), (142, .int .i64 (a1_3.length : Int)), (143, .int .i64 x143), (180, .bool (decide (((rd_impl_ClaimSpot a0_1 t2328).f3) > 0)))] [(0, .box [(sv_S_impl_ClaimFoe a0_0), (sv_S_impl_ClaimSpot a0_1), (sv_str a0_2), (sv_S_impl_ClaimPart a0_3), .int .i64 a0_4]), (8, .box [.int .i64 a1_0, .int .i64 a1_1, (sv_str a1_2), (sv_S_impl_ClaimUse a1_3), (sv_str a1_4), (sv_str a1_5)])] rfl ⟨.inl rfl, ⟨.inl rfl, ⟨.inl rfl, ⟨.inl rfl, ⟨.inl rfl, ⟨.inl rfl, trivial⟩⟩⟩⟩⟩⟩ ⟨rfl, ⟨rfl, trivial⟩⟩ ?_
  conv => whnf
  refine br_d H (fun c H => ?_) (fun c H => ?_)
  conv => whnf
  refine cut_ 904 [(4, .int .i64 11)] [] rfl ⟨.inl rfl, trivial⟩ trivial ?_
  conv => whnf
  injection H with H; subst H
  exact ret_fz [] (rtA_eq rfl)
  conv => whnf
  exact ⟨(k, wrap64 (x143 + 1)), [], ⟨H, lt_⟩, lt_, (fits_of ⟨.inl ⟨rfl, rfl⟩, trivial⟩ trivial fi_ trivial rfl)⟩
  conv => whnf
  refine Br.f ff_ ?_
  conv => whnf
  refine Br.f ff_ ?_
  conv => whnf
  refine Br.f ff_ ?_
  conv => whnf
  refine cut_ 896 [(2, .bp 0 0), (3, .bp 8 0), (141, (sv_S_impl_ClaimUse a1_3)), (142, .int .i64 (a1_3.length : Int)), (143, .int .i64 x143), (180, .bool false)] [(0, .box [(sv_S_impl_ClaimFoe a0_0), (sv_S_impl_ClaimSpot a0_1), (sv_str a0_2), (sv_S_impl_ClaimPart a0_3), .int .i64 a0_4]), (8, .box [.int .i64 a1_0, .int .i64 a1_1, (sv_str a1_2), (sv_S_impl_ClaimUse a1_3), (sv_str a1_4), (sv_str a1_5)])] rfl ⟨.inl rfl, ⟨.inl rfl, ⟨.inl rfl, ⟨.inl rfl, ⟨.inl rfl, ⟨.inl rfl, trivial⟩⟩⟩⟩⟩⟩ ⟨rfl, ⟨rfl, trivial⟩⟩ ?_
  conv => whnf
  refine Br.f rfl ?_
  conv => whnf
  exact ⟨(k, wrap64 (x143 + 1)), [], ⟨H, lt_⟩, lt_, (fits_of ⟨.inl ⟨rfl, rfl⟩, trivial⟩ trivial fi_ trivial rfl)⟩
  conv => whnf
  refine Br.f ff_ ?_
  conv => whnf
  refine Br.f ff_ ?_
  conv => whnf
  refine Br.f ff_ ?_
  conv => whnf
  refine Br.f ff_ ?_
  conv => whnf
  refine Br.f ff_ ?_
  conv => whnf
  refine Br.f ff_ ?_
  conv => whnf
  refine Br.f ff_ ?_
  conv => whnf
  refine Br.f ff_ ?_
  conv => whnf
  refine cut_ 824 [(2, .bp 0 0), (3, .bp 8 0), (16, .bp 608 0), (141, (sv_S_impl_ClaimUse a1_3)), (142, .int .i64 (a1_3.length : Int)), (143, .int .i64 x143), (166, .bool false)] [(0, .box [(sv_S_impl_ClaimFoe a0_0), (sv_S_impl_ClaimSpot a0_1), (sv_str a0_2), (sv_S_impl_ClaimPart a0_3), .int .i64 a0_4]), (8, .box [.int .i64 a1_0, .int .i64 a1_1, (sv_str a1_2), (sv_S_impl_ClaimUse a1_3), (sv_str a1_4), (sv_str a1_5)]), (608, .box [.str ((rd_impl_ClaimSpot a0_1 t2328).f0), .int .i64 ((rd_impl_ClaimSpot a0_1 t2328).f1), .int .i64 ((rd_impl_ClaimSpot a0_1 t2328).f2), .int .i64 ((rd_impl_ClaimSpot a0_1 t2328).f3), (sv_str ((rd_impl_ClaimSpot a0_1 t2328).f4))])] rfl ⟨.inl rfl, ⟨.inl rfl, ⟨.inl rfl, ⟨.inl rfl, ⟨.inl rfl, ⟨.inl rfl, ⟨.inl rfl, trivial⟩⟩⟩⟩⟩⟩⟩ ⟨rfl, ⟨rfl, ⟨rfl, trivial⟩⟩⟩ ?_
  conv => whnf
  refine Br.f rfl ?_
  conv => whnf
  refine br_d H (fun c H => ?_) (fun c H => ?_)
  conv => whnf
  refine Br.t ft_ ?_
  conv => whnf
  refine Br.t ft_ ?_
  conv => whnf
  refine Br.t ft_ ?_
  conv => whnf
  refine cut_ 896 [(2, .bp 0 0), (3, .bp 8 0), (141, (sv_S_impl_ClaimUse a1_3)), (142, .int .i64 (a1_3.length : Int)), (143, .int .i64 x143), (180, .bool (decide (((rd_impl_ClaimSpot a0_1 t2328).f3) > 0)))] [(0, .box [(sv_S_impl_ClaimFoe a0_0), (sv_S_impl_ClaimSpot a0_1), (sv_str a0_2), (sv_S_impl_ClaimPart a0_3), .int .i64 a0_4]), (8, .box [.int .i64 a1_0, .int .i64 a1_1, (sv_str a1_2), (sv_S_impl_ClaimUse a1_3), (sv_str a1_4), (sv_str a1_5)])] rfl ⟨.inl rfl, ⟨.inl rfl, ⟨.inl rfl, ⟨.inl rfl, ⟨.inl rfl, ⟨.inl rfl, trivial⟩⟩⟩⟩⟩⟩ ⟨rfl, ⟨rfl, trivial⟩⟩ ?_
  conv => whnf
  refine br_d H (fun c H => ?_) (fun c H => ?_)
  conv => whnf
  refine cut_ 904 [(4, .int .i64 11)] [] rfl ⟨.inl rfl, trivial⟩ trivial ?_
  conv => whnf
  injection H with H; subst H
  exact ret_fz [] (rtA_eq rfl)
  conv => whnf
  exact ⟨(k, wrap64 (x143 + 1)), [], ⟨H, lt_⟩, lt_, (fits_of ⟨.inl ⟨rfl, rfl⟩, trivial⟩ trivial fi_ trivial rfl)⟩
  conv => whnf
  refine Br.f ff_ ?_
  conv => whnf
  refine Br.f ff_ ?_
  conv => whnf
  refine Br.f ff_ ?_
  conv => whnf
  refine cut_ 896 [(2, .bp 0 0), (3, .bp 8 0), (141, (sv_S_impl_ClaimUse a1_3)), (142, .int .i64 (a1_3.length : Int)), (143, .int .i64 x143), (180, .bool false)] [(0, .box [(sv_S_impl_ClaimFoe a0_0), (sv_S_impl_ClaimSpot a0_1), (sv_str a0_2), (sv_S_impl_ClaimPart a0_3), .int .i64 a0_4]), (8, .box [.int .i64 a1_0, .int .i64 a1_1, (sv_str a1_2), (sv_S_impl_ClaimUse a1_3), (sv_str a1_4), (sv_str a1_5)])] rfl ⟨.inl rfl, ⟨.inl rfl, ⟨.inl rfl, ⟨.inl rfl, ⟨.inl rfl, ⟨.inl rfl, trivial⟩⟩⟩⟩⟩⟩ ⟨rfl, ⟨rfl, trivial⟩⟩ ?_
  conv => whnf
  refine Br.f rfl ?_
  conv => whnf
  exact ⟨(k, wrap64 (x143 + 1)), [], ⟨H, lt_⟩, lt_, (fits_of ⟨.inl ⟨rfl, rfl⟩, trivial⟩ trivial fi_ trivial rfl)⟩
  conv => whnf
  injection H with H; subst H
  exact ret_fz [] (rtA_eq rfl)
  conv => whnf
  refine cut_ 464 [(2, .bp 0 0), (3, .bp 8 0), (141, (sv_S_impl_ClaimUse a1_3)), (142, .int .i64 (a1_3.length : Int)), (143, .int .i64 0)] [(0, .box [(sv_S_impl_ClaimFoe a0_0), (sv_S_impl_ClaimSpot a0_1), (sv_str a0_2), (sv_S_impl_ClaimPart a0_3), .int .i64 a0_4]), (8, .box [.int .i64 a1_0, .int .i64 a1_1, (sv_str a1_2), (sv_S_impl_ClaimUse a1_3), (sv_str a1_4), (sv_str a1_5)])] rfl ⟨.inl rfl, ⟨.inl rfl, ⟨.inl rfl, ⟨.inl rfl, ⟨.inl rfl, trivial⟩⟩⟩⟩⟩ ⟨rfl, ⟨rfl, trivial⟩⟩ ?_
  conv => whnf
  refine impl_ClaimBook_code.l5_lp (a0_0 := a0_0) (a0_1 := a0_1) (a0_2 := a0_2) (a0_3 := a0_3) (a0_4 := a0_4) (a1_1 := a1_1) (a1_3 := a1_3) (k := k) H [] (fits_of ⟨.inl ⟨rfl, rfl⟩, trivial⟩ trivial fi_ trivial rfl) ?_
  intro k x143_1 hk H; rcases k with _ | k; exact none_elim H; rw [impl_ClaimBook_code.l5] at H; conv => whnf
  refine br_d H (fun c H => ?_) (fun c H => ?_)
  conv => whnf
  refine nd_ H (fun c H => ?_)
  conv => whnf
  refine Nd.mk nf_ ?_
  conv => whnf
  refine El.mk (rdm_en_S_impl_ClaimUse _ _ nf_ nf_) ?_
  conv => whnf
  revert H; refine bind_elim (fun t2329 A H => ?_)
  refine call_mk (impl_ClaimBook_spot.ac A) (avAL_cons (avA_agg (avL_cons (av_shut' rfl) (avL_cons (av_shut' rfl) (avL_cons (av_shut' rfl) (avL_cons (av_shut' rfl) (avL_cons (av_shut' rfl) (avL_nil))))))) (avAL_cons (avA_shut' rfl) (avAL_nil))) (Or.inl rfl) rfl rfl (Nat.le_of_ble_eq_true rfl) ?_
  conv => whnf
  refine nd_ H (fun c H => ?_)
  conv => whnf
  refine nd_ H (fun c H => ?_)
  conv => whnf
  refine El.mk (rdm_en_S_impl_ClaimSpot _ _ nf_ nf_) ?_
  conv => whnf
  refine cut_ 584 [(2, .bp 0 0), (3, .bp 8 0), (15, .bp 488 0), (16, .bp 568 0), (141, (sv_S_impl_ClaimUse a1_3)), (142, .int .i64 (a1_3.length : Int)), (143, .int .i64 x143_1)] [(0, .box [(sv_S_impl_ClaimFoe a0_0), (sv_S_impl_ClaimSpot a0_1), (sv_str a0_2), (sv_S_impl_ClaimPart a0_3), .int .i64 a0_4]), (8, .box [.int .i64 a1_0, .int .i64 a1_1, (sv_str a1_2), (sv_S_impl_ClaimUse a1_3), (sv_str a1_4), (sv_str a1_5)]), (488, .box [.str ((rd_impl_ClaimUse a1_3 x143_1).f0), .int .i64 ((rd_impl_ClaimUse a1_3 x143_1).f1), .int .i64 ((rd_impl_ClaimUse a1_3 x143_1).f2)]), (568, .box [.str ((rd_impl_ClaimSpot a0_1 t2329).f0), .int .i64 ((rd_impl_ClaimSpot a0_1 t2329).f1), .int .i64 ((rd_impl_ClaimSpot a0_1 t2329).f2), .int .i64 ((rd_impl_ClaimSpot a0_1 t2329).f3), (sv_str ((rd_impl_ClaimSpot a0_1 t2329).f4))])] rfl ⟨.inl rfl, ⟨.inl rfl, ⟨.inl rfl, ⟨.inl rfl, ⟨.inl rfl, ⟨.inl rfl, ⟨.inl rfl, trivial⟩⟩⟩⟩⟩⟩⟩ ⟨rfl, ⟨rfl, ⟨rfl, ⟨rfl, trivial⟩⟩⟩⟩ ?_
  conv => whnf
  refine br_d H (fun c H => ?_) (fun c H => ?_)
  conv => whnf
  refine Br.t ft_ ?_
  conv => whnf
  refine Br.t ft_ ?_
  conv => whnf
  refine Br.t ft_ ?_
  conv => whnf
  refine Br.t ft_ ?_
  conv => whnf
  refine Br.t ft_ ?_
  conv => whnf
  refine cut_ 672 [(2, .bp 0 0), (3, .bp 8 0), (15, .bp 488 0), (16, .bp 568 0), (141, (sv_S_impl_ClaimUse a1_3)), (142, .int .i64 (a1_3.length : Int)), (143, .int .i64 x143_1), (155, .bool (decide (((rd_impl_ClaimSpot a0_1 t2329).f2) < ((rd_impl_ClaimUse a1_3 x143_1).f2))))] [(0, .box [(sv_S_impl_ClaimFoe a0_0), (sv_S_impl_ClaimSpot a0_1), (sv_str a0_2), (sv_S_impl_ClaimPart a0_3), .int .i64 a0_4]), (8, .box [.int .i64 a1_0, .int .i64 a1_1, (sv_str a1_2), (sv_S_impl_ClaimUse a1_3), (sv_str a1_4), (sv_str a1_5)]), (488, .box [.str ((rd_impl_ClaimUse a1_3 x143_1).f0), .int .i64 ((rd_impl_ClaimUse a1_3 x143_1).f1), .int .i64 ((rd_impl_ClaimUse a1_3 x143_1).f2)]), (568, .box [.str ((rd_impl_ClaimSpot a0_1 t2329).f0), .int .i64 ((rd_impl_ClaimSpot a0_1 t2329).f1), .int .i64 ((rd_impl_ClaimSpot a0_1 t2329).f2), .int .i64 ((rd_impl_ClaimSpot a0_1 t2329).f3), (sv_str ((rd_impl_ClaimSpot a0_1 t2329).f4))])] rfl ⟨.inl rfl, ⟨.inl rfl, ⟨.inl rfl, ⟨.inl rfl, ⟨.inl rfl, ⟨.inl rfl, ⟨.inl rfl, ⟨.inl rfl, trivial⟩⟩⟩⟩⟩⟩⟩⟩ ⟨rfl, ⟨rfl, ⟨rfl, ⟨rfl, trivial⟩⟩⟩⟩ ?_
  conv => whnf
  refine br_d H (fun c H => ?_) (fun c H => ?_)
  conv => whnf
  refine cut_ 680 [(4, .int .i64 9)] [] rfl ⟨.inl rfl, trivial⟩ trivial ?_
  conv => whnf
  injection H with H; subst H
  exact ret_fz [] (rtA_eq rfl)
  conv => whnf
  refine br_d H (fun c H => ?_) (fun c H => ?_)
  conv => whnf
  refine Br.t ft_ ?_
  conv => whnf
  refine Br.t ft_ ?_
  conv => whnf
  refine Br.t ft_ ?_
  conv => whnf
  refine Br.t ft_ ?_
  conv => whnf
  refine Br.t ft_ ?_
  conv => whnf
  refine Br.t ft_ ?_
  conv => whnf
  refine Br.t ft_ ?_
  conv => whnf
  refine Br.t ft_ ?_
  conv => whnf
  refine cut_ 784 [(2, .bp 0 0), (3, .bp 8 0), (16, .bp 568 0), (141, (sv_S_impl_ClaimUse a1_3)), (142, .int .i64 (a1_3.length : Int)), (143, .int .i64 x143_1), (166, .bool (decide ((wrap64 (((rd_impl_ClaimSpot a0_1 t2329).f3) + ((rd_impl_ClaimUse a1_3 x143_1).f2))) > ((rd_impl_ClaimSpot a0_1 t2329).f1))))] [(0, .box [(sv_S_impl_ClaimFoe a0_0), (sv_S_impl_ClaimSpot a0_1), (sv_str a0_2), (sv_S_impl_ClaimPart a0_3), .int .i64 a0_4]), (8, .box [.int .i64 a1_0, .int .i64 a1_1, (sv_str a1_2), (sv_S_impl_ClaimUse a1_3), (sv_str a1_4), (sv_str a1_5)]), (568, .box [.str ((rd_impl_ClaimSpot a0_1 t2329).f0), .int .i64 ((rd_impl_ClaimSpot a0_1 t2329).f1), .int .i64 ((rd_impl_ClaimSpot a0_1 t2329).f2), .int .i64 ((rd_impl_ClaimSpot a0_1 t2329).f3), (sv_str ((rd_impl_ClaimSpot a0_1 t2329).f4))])] rfl ⟨.inl rfl, ⟨.inl rfl, ⟨.inl rfl, ⟨.inl rfl, ⟨.inl rfl, ⟨.inl rfl, ⟨.inl rfl, trivial⟩⟩⟩⟩⟩⟩⟩ ⟨rfl, ⟨rfl, ⟨rfl, trivial⟩⟩⟩ ?_
  conv => whnf
  refine br_d H (fun c H => ?_) (fun c H => ?_)
  conv => whnf
  refine cut_ 792 [(4, .int .i64 10)] [] rfl ⟨.inl rfl, trivial⟩ trivial ?_
  conv => whnf
  injection H with H; subst H
  exact ret_fz [] (rtA_eq rfl)
  conv => whnf
  refine br_d H (fun c H => ?_) (fun c H => ?_)
  conv => whnf
  refine Br.t ft_ ?_
  conv => whnf
  refine Br.t ft_ ?_
  conv => whnf
  refine Br.t ft_ ?_
  conv => whnf
  refine cut_ 856 [(2, .bp 0 0), (3, .bp 8 0), (141, (sv_S_impl_ClaimUse a1_3)), (142, .int .i64 (a1_3.length : Int)), (143, .int .i64 x143_1), (180, .bool (decide (((rd_impl_ClaimSpot a0_1 t2329).f3) > 0)))] [(0, .box [(sv_S_impl_ClaimFoe a0_0), (sv_S_impl_ClaimSpot a0_1), (sv_str a0_2), (sv_S_impl_ClaimPart a0_3), .int .i64 a0_4]), (8, .box [.int .i64 a1_0, .int .i64 a1_1, (sv_str a1_2), (sv_S_impl_ClaimUse a1_3), (sv_str a1_4), (sv_str a1_5)])] rfl ⟨.inl rfl, ⟨.inl rfl, ⟨.inl rfl, ⟨.inl rfl, ⟨.inl rfl, ⟨.inl rfl, trivial⟩⟩⟩⟩⟩⟩ ⟨rfl, ⟨rfl, trivial⟩⟩ ?_
  conv => whnf
  refine br_d H (fun c H => ?_) (fun c H => ?_)
  conv => whnf
  refine cut_ 864 [(4, .int .i64 11)] [] rfl ⟨.inl rfl, trivial⟩ trivial ?_
  conv => whnf
  injection H with H; subst H
  exact ret_fz [] (rtA_eq rfl)
  conv => whnf
  exact ⟨(k, wrap64 (x143_1 + 1)), [], ⟨H, lt_⟩, lt_, (fits_of ⟨.inl ⟨rfl, rfl⟩, trivial⟩ trivial fi_ trivial rfl)⟩
  conv => whnf
  refine Br.f ff_ ?_
  conv => whnf
  refine Br.f ff_ ?_
  conv => whnf
  refine Br.f ff_ ?_
  conv => whnf
  refine cut_ 856 [(2, .bp 0 0), (3, .bp 8 0), (141, (sv_S_impl_ClaimUse a1_3)), (142, .int .i64 (a1_3.length : Int)), (143, .int .i64 x143_1), (180, .bool false)] [(0, .box [(sv_S_impl_ClaimFoe a0_0), (sv_S_impl_ClaimSpot a0_1), (sv_str a0_2), (sv_S_impl_ClaimPart a0_3), .int .i64 a0_4]), (8, .box [.int .i64 a1_0, .int .i64 a1_1, (sv_str a1_2), (sv_S_impl_ClaimUse a1_3), (sv_str a1_4), (sv_str a1_5)])] rfl ⟨.inl rfl, ⟨.inl rfl, ⟨.inl rfl, ⟨.inl rfl, ⟨.inl rfl, ⟨.inl rfl, trivial⟩⟩⟩⟩⟩⟩ ⟨rfl, ⟨rfl, trivial⟩⟩ ?_
  conv => whnf
  refine Br.f rfl ?_
  conv => whnf
  exact ⟨(k, wrap64 (x143_1 + 1)), [], ⟨H, lt_⟩, lt_, (fits_of ⟨.inl ⟨rfl, rfl⟩, trivial⟩ trivial fi_ trivial rfl)⟩
  conv => whnf
  refine Br.f ff_ ?_
  conv => whnf
  refine Br.f ff_ ?_
  conv => whnf
  refine Br.f ff_ ?_
  conv => whnf
  refine Br.f ff_ ?_
  conv => whnf
  refine Br.f ff_ ?_
  conv => whnf
  refine Br.f ff_ ?_
  conv => whnf
  refine Br.f ff_ ?_
  conv => whnf
  refine Br.f ff_ ?_
  conv => whnf
  refine cut_ 784 [(2, .bp 0 0), (3, .bp 8 0), (16, .bp 568 0), (141, (sv_S_impl_ClaimUse a1_3)), (142, .int .i64 (a1_3.length : Int)), (143, .int .i64 x143_1), (166, .bool false)] [(0, .box [(sv_S_impl_ClaimFoe a0_0), (sv_S_impl_ClaimSpot a0_1), (sv_str a0_2), (sv_S_impl_ClaimPart a0_3), .int .i64 a0_4]), (8, .box [.int .i64 a1_0, .int .i64 a1_1, (sv_str a1_2), (sv_S_impl_ClaimUse a1_3), (sv_str a1_4), (sv_str a1_5)]), (568, .box [.str ((rd_impl_ClaimSpot a0_1 t2329).f0), .int .i64 ((rd_impl_ClaimSpot a0_1 t2329).f1), .int .i64 ((rd_impl_ClaimSpot a0_1 t2329).f2), .int .i64 ((rd_impl_ClaimSpot a0_1 t2329).f3), (sv_str ((rd_impl_ClaimSpot a0_1 t2329).f4))])] rfl ⟨.inl rfl, ⟨.inl rfl, ⟨.inl rfl, ⟨.inl rfl, ⟨.inl rfl, ⟨.inl rfl, ⟨.inl rfl, trivial⟩⟩⟩⟩⟩⟩⟩ ⟨rfl, ⟨rfl, ⟨rfl, trivial⟩⟩⟩ ?_
  conv => whnf
  refine Br.f rfl ?_
  conv => whnf
  refine br_d H (fun c H => ?_) (fun c H => ?_)
  conv => whnf
  refine Br.t ft_ ?_
  conv => whnf
  refine Br.t ft_ ?_
  conv => whnf
  refine Br.t ft_ ?_
  conv => whnf
  refine cut_ 856 [(2, .bp 0 0), (3, .bp 8 0), (141, (sv_S_impl_ClaimUse a1_3)), (142, .int .i64 (a1_3.length : Int)), (143, .int .i64 x143_1), (180, .bool (decide (((rd_impl_ClaimSpot a0_1 t2329).f3) > 0)))] [(0, .box [(sv_S_impl_ClaimFoe a0_0), (sv_S_impl_ClaimSpot a0_1), (sv_str a0_2), (sv_S_impl_ClaimPart a0_3), .int .i64 a0_4]), (8, .box [.int .i64 a1_0, .int .i64 a1_1, (sv_str a1_2), (sv_S_impl_ClaimUse a1_3), (sv_str a1_4), (sv_str a1_5)])] rfl ⟨.inl rfl, ⟨.inl rfl, ⟨.inl rfl, ⟨.inl rfl, ⟨.inl rfl, ⟨.inl rfl, trivial⟩⟩⟩⟩⟩⟩ ⟨rfl, ⟨rfl, trivial⟩⟩ ?_
  conv => whnf
  refine br_d H (fun c H => ?_) (fun c H => ?_)
  conv => whnf
  refine cut_ 864 [(4, .int .i64 11)] [] rfl ⟨.inl rfl, trivial⟩ trivial ?_
  conv => whnf
  injection H with H; subst H
  exact ret_fz [] (rtA_eq rfl)
  conv => whnf
  exact ⟨(k, wrap64 (x143_1 + 1)), [], ⟨H, lt_⟩, lt_, (fits_of ⟨.inl ⟨rfl, rfl⟩, trivial⟩ trivial fi_ trivial rfl)⟩
  conv => whnf
  refine Br.f ff_ ?_
  conv => whnf
  refine Br.f ff_ ?_
  conv => whnf
  refine Br.f ff_ ?_
  conv => whnf
  refine cut_ 856 [(2, .bp 0 0), (3, .bp 8 0), (141, (sv_S_impl_ClaimUse a1_3)), (142, .int .i64 (a1_3.length : Int)), (143, .int .i64 x143_1), (180, .bool false)] [(0, .box [(sv_S_impl_ClaimFoe a0_0), (sv_S_impl_ClaimSpot a0_1), (sv_str a0_2), (sv_S_impl_ClaimPart a0_3), .int .i64 a0_4]), (8, .box [.int .i64 a1_0, .int .i64 a1_1, (sv_str a1_2), (sv_S_impl_ClaimUse a1_3), (sv_str a1_4), (sv_str a1_5)])] rfl ⟨.inl rfl, ⟨.inl rfl, ⟨.inl rfl, ⟨.inl rfl, ⟨.inl rfl, ⟨.inl rfl, trivial⟩⟩⟩⟩⟩⟩ ⟨rfl, ⟨rfl, trivial⟩⟩ ?_
  conv => whnf
  refine Br.f rfl ?_
  conv => whnf
  exact ⟨(k, wrap64 (x143_1 + 1)), [], ⟨H, lt_⟩, lt_, (fits_of ⟨.inl ⟨rfl, rfl⟩, trivial⟩ trivial fi_ trivial rfl)⟩
  conv => whnf
  refine Br.f ff_ ?_
  conv => whnf
  refine Br.f ff_ ?_
  conv => whnf
  refine Br.f ff_ ?_
  conv => whnf
  refine Br.f ff_ ?_
  conv => whnf
  refine Br.f ff_ ?_
  conv => whnf
  refine cut_ 672 [(2, .bp 0 0), (3, .bp 8 0), (15, .bp 488 0), (16, .bp 568 0), (141, (sv_S_impl_ClaimUse a1_3)), (142, .int .i64 (a1_3.length : Int)), (143, .int .i64 x143_1), (155, .bool false)] [(0, .box [(sv_S_impl_ClaimFoe a0_0), (sv_S_impl_ClaimSpot a0_1), (sv_str a0_2), (sv_S_impl_ClaimPart a0_3), .int .i64 a0_4]), (8, .box [.int .i64 a1_0, .int .i64 a1_1, (sv_str a1_2), (sv_S_impl_ClaimUse a1_3), (sv_str a1_4), (sv_str a1_5)]), (488, .box [.str ((rd_impl_ClaimUse a1_3 x143_1).f0), .int .i64 ((rd_impl_ClaimUse a1_3 x143_1).f1), .int .i64 ((rd_impl_ClaimUse a1_3 x143_1).f2)]), (568, .box [.str ((rd_impl_ClaimSpot a0_1 t2329).f0), .int .i64 ((rd_impl_ClaimSpot a0_1 t2329).f1), .int .i64 ((rd_impl_ClaimSpot a0_1 t2329).f2), .int .i64 ((rd_impl_ClaimSpot a0_1 t2329).f3), (sv_str ((rd_impl_ClaimSpot a0_1 t2329).f4))])] rfl ⟨.inl rfl, ⟨.inl rfl, ⟨.inl rfl, ⟨.inl rfl, ⟨.inl rfl, ⟨.inl rfl, ⟨.inl rfl, ⟨.inl rfl, trivial⟩⟩⟩⟩⟩⟩⟩⟩ ⟨rfl, ⟨rfl, ⟨rfl, ⟨rfl, trivial⟩⟩⟩⟩ ?_
  conv => whnf
  refine Br.f rfl ?_
  conv => whnf
  refine br_d H (fun c H => ?_) (fun c H => ?_)
  conv => whnf
  refine Br.t ft_ ?_
  conv => whnf
  refine Br.t ft_ ?_
  conv => whnf
  refine Br.t ft_ ?_
  conv => whnf
  refine Br.t ft_ ?_
  conv => whnf
  refine Br.t ft_ ?_
  conv => whnf
  refine Br.t ft_ ?_
  conv => whnf
  refine Br.t ft_ ?_
  conv => whnf
  refine Br.t ft_ ?_
  conv => whnf
  refine cut_ 784 [(2, .bp 0 0), (3, .bp 8 0), (16, .bp 568 0), (141, (sv_S_impl_ClaimUse a1_3)), (142, .int .i64 (a1_3.length : Int)), (143, .int .i64 x143_1), (166, .bool (decide ((wrap64 (((rd_impl_ClaimSpot a0_1 t2329).f3) + ((rd_impl_ClaimUse a1_3 x143_1).f2))) > ((rd_impl_ClaimSpot a0_1 t2329).f1))))] [(0, .box [(sv_S_impl_ClaimFoe a0_0), (sv_S_impl_ClaimSpot a0_1), (sv_str a0_2), (sv_S_impl_ClaimPart a0_3), .int .i64 a0_4]), (8, .box [.int .i64 a1_0, .int .i64 a1_1, (sv_str a1_2), (sv_S_impl_ClaimUse a1_3), (sv_str a1_4), (sv_str a1_5)]), (568, .box [.str ((rd_impl_ClaimSpot a0_1 t2329).f0), .int .i64 ((rd_impl_ClaimSpot a0_1 t2329).f1), .int .i64 ((rd_impl_ClaimSpot a0_1 t2329).f2), .int .i64 ((rd_impl_ClaimSpot a0_1 t2329).f3), (sv_str ((rd_impl_ClaimSpot a0_1 t2329).f4))])] rfl ⟨.inl rfl, ⟨.inl rfl, ⟨.inl rfl, ⟨.inl rfl, ⟨.inl rfl, ⟨.inl rfl, ⟨.inl rfl, trivial⟩⟩⟩⟩⟩⟩⟩ ⟨rfl, ⟨rfl, ⟨rfl, trivial⟩⟩⟩ ?_
  conv => whnf
  refine br_d H (fun c H => ?_) (fun c H => ?_)
  conv => whnf
  refine cut_ 792 [(4, .int .i64 10)] [] rfl ⟨.inl rfl, trivial⟩ trivial ?_
  conv => whnf
  injection H with H; subst H
  exact ret_fz [] (rtA_eq rfl)
  conv => whnf
  refine br_d H (fun c H => ?_) (fun c H => ?_)
  conv => whnf
  refine Br.t ft_ ?_
  conv => whnf
  refine Br.t ft_ ?_
  conv => whnf
  refine Br.t ft_ ?_
  conv => whnf
  refine cut_ 856 [(2, .bp 0 0), (3, .bp 8 0), (141, (sv_S_impl_ClaimUse a1_3)), (142, .int .i64 (a1_3.length : Int)), (143, .int .i64 x143_1), (180, .bool (decide (((rd_impl_ClaimSpot a0_1 t2329).f3) > 0)))] [(0, .box [(sv_S_impl_ClaimFoe a0_0), (sv_S_impl_ClaimSpot a0_1), (sv_str a0_2), (sv_S_impl_ClaimPart a0_3), .int .i64 a0_4]), (8, .box [.int .i64 a1_0, .int .i64 a1_1, (sv_str a1_2), (sv_S_impl_ClaimUse a1_3), (sv_str a1_4), (sv_str a1_5)])] rfl ⟨.inl rfl, ⟨.inl rfl, ⟨.inl rfl, ⟨.inl rfl, ⟨.inl rfl, ⟨.inl rfl, trivial⟩⟩⟩⟩⟩⟩ ⟨rfl, ⟨rfl, trivial⟩⟩ ?_
  conv => whnf
  refine br_d H (fun c H => ?_) (fun c H => ?_)
  conv => whnf
  refine cut_ 864 [(4, .int .i64 11)] [] rfl ⟨.inl rfl, trivial⟩ trivial ?_
  conv => whnf
  injection H with H; subst H
  exact ret_fz [] (rtA_eq rfl)
  conv => whnf
  exact ⟨(k, wrap64 (x143_1 + 1)), [], ⟨H, lt_⟩, lt_, (fits_of ⟨.inl ⟨rfl, rfl⟩, trivial⟩ trivial fi_ trivial rfl)⟩
  conv => whnf
  refine Br.f ff_ ?_
  conv => whnf
  refine Br.f ff_ ?_
  conv => whnf
  refine Br.f ff_ ?_
  conv => whnf
  refine cut_ 856 [(2, .bp 0 0), (3, .bp 8 0), (141, (sv_S_impl_ClaimUse a1_3)), (142, .int .i64 (a1_3.length : Int)), (143, .int .i64 x143_1), (180, .bool false)] [(0, .box [(sv_S_impl_ClaimFoe a0_0), (sv_S_impl_ClaimSpot a0_1), (sv_str a0_2), (sv_S_impl_ClaimPart a0_3), .int .i64 a0_4]), (8, .box [.int .i64 a1_0, .int .i64 a1_1, (sv_str a1_2), (sv_S_impl_ClaimUse a1_3), (sv_str a1_4), (sv_str a1_5)])] rfl ⟨.inl rfl, ⟨.inl rfl, ⟨.inl rfl, ⟨.inl rfl, ⟨.inl rfl, ⟨.inl rfl, trivial⟩⟩⟩⟩⟩⟩ ⟨rfl, ⟨rfl, trivial⟩⟩ ?_
  conv => whnf
  refine Br.f rfl ?_
  conv => whnf
  exact ⟨(k, wrap64 (x143_1 + 1)), [], ⟨H, lt_⟩, lt_, (fits_of ⟨.inl ⟨rfl, rfl⟩, trivial⟩ trivial fi_ trivial rfl)⟩
  conv => whnf
  refine Br.f ff_ ?_
  conv => whnf
  refine Br.f ff_ ?_
  conv => whnf
  refine Br.f ff_ ?_
  conv => whnf
  refine Br.f ff_ ?_
  conv => whnf
  refine Br.f ff_ ?_
  conv => whnf
  refine Br.f ff_ ?_
  conv => whnf
  refine Br.f ff_ ?_
  conv => whnf
  refine Br.f ff_ ?_
  conv => whnf
  refine cut_ 784 [(2, .bp 0 0), (3, .bp 8 0), (16, .bp 568 0), (141, (sv_S_impl_ClaimUse a1_3)), (142, .int .i64 (a1_3.length : Int)), (143, .int .i64 x143_1), (166, .bool false)] [(0, .box [(sv_S_impl_ClaimFoe a0_0), (sv_S_impl_ClaimSpot a0_1), (sv_str a0_2), (sv_S_impl_ClaimPart a0_3), .int .i64 a0_4]), (8, .box [.int .i64 a1_0, .int .i64 a1_1, (sv_str a1_2), (sv_S_impl_ClaimUse a1_3), (sv_str a1_4), (sv_str a1_5)]), (568, .box [.str ((rd_impl_ClaimSpot a0_1 t2329).f0), .int .i64 ((rd_impl_ClaimSpot a0_1 t2329).f1), .int .i64 ((rd_impl_ClaimSpot a0_1 t2329).f2), .int .i64 ((rd_impl_ClaimSpot a0_1 t2329).f3), (sv_str ((rd_impl_ClaimSpot a0_1 t2329).f4))])] rfl ⟨.inl rfl, ⟨.inl rfl, ⟨.inl rfl, ⟨.inl rfl, ⟨.inl rfl, ⟨.inl rfl, ⟨.inl rfl, trivial⟩⟩⟩⟩⟩⟩⟩ ⟨rfl, ⟨rfl, ⟨rfl, trivial⟩⟩⟩ ?_
  conv => whnf
  refine Br.f rfl ?_
  conv => whnf
  refine br_d H (fun c H => ?_) (fun c H => ?_)
  conv => whnf
  refine Br.t ft_ ?_
  conv => whnf
  refine Br.t ft_ ?_
  conv => whnf
  refine Br.t ft_ ?_
  conv => whnf
  refine cut_ 856 [(2, .bp 0 0), (3, .bp 8 0), (141, (sv_S_impl_ClaimUse a1_3)), (142, .int .i64 (a1_3.length : Int)), (143, .int .i64 x143_1), (180, .bool (decide (((rd_impl_ClaimSpot a0_1 t2329).f3) > 0)))] [(0, .box [(sv_S_impl_ClaimFoe a0_0), (sv_S_impl_ClaimSpot a0_1), (sv_str a0_2), (sv_S_impl_ClaimPart a0_3), .int .i64 a0_4]), (8, .box [.int .i64 a1_0, .int .i64 a1_1, (sv_str a1_2), (sv_S_impl_ClaimUse a1_3), (sv_str a1_4), (sv_str a1_5)])] rfl ⟨.inl rfl, ⟨.inl rfl, ⟨.inl rfl, ⟨.inl rfl, ⟨.inl rfl, ⟨.inl rfl, trivial⟩⟩⟩⟩⟩⟩ ⟨rfl, ⟨rfl, trivial⟩⟩ ?_
  conv => whnf
  refine br_d H (fun c H => ?_) (fun c H => ?_)
  conv => whnf
  refine cut_ 864 [(4, .int .i64 11)] [] rfl ⟨.inl rfl, trivial⟩ trivial ?_
  conv => whnf
  injection H with H; subst H
  exact ret_fz [] (rtA_eq rfl)
  conv => whnf
  exact ⟨(k, wrap64 (x143_1 + 1)), [], ⟨H, lt_⟩, lt_, (fits_of ⟨.inl ⟨rfl, rfl⟩, trivial⟩ trivial fi_ trivial rfl)⟩
  conv => whnf
  refine Br.f ff_ ?_
  conv => whnf
  refine Br.f ff_ ?_
  conv => whnf
  refine Br.f ff_ ?_
  conv => whnf
  refine cut_ 856 [(2, .bp 0 0), (3, .bp 8 0), (141, (sv_S_impl_ClaimUse a1_3)), (142, .int .i64 (a1_3.length : Int)), (143, .int .i64 x143_1), (180, .bool false)] [(0, .box [(sv_S_impl_ClaimFoe a0_0), (sv_S_impl_ClaimSpot a0_1), (sv_str a0_2), (sv_S_impl_ClaimPart a0_3), .int .i64 a0_4]), (8, .box [.int .i64 a1_0, .int .i64 a1_1, (sv_str a1_2), (sv_S_impl_ClaimUse a1_3), (sv_str a1_4), (sv_str a1_5)])] rfl ⟨.inl rfl, ⟨.inl rfl, ⟨.inl rfl, ⟨.inl rfl, ⟨.inl rfl, ⟨.inl rfl, trivial⟩⟩⟩⟩⟩⟩ ⟨rfl, ⟨rfl, trivial⟩⟩ ?_
  conv => whnf
  refine Br.f rfl ?_
  conv => whnf
  exact ⟨(k, wrap64 (x143_1 + 1)), [], ⟨H, lt_⟩, lt_, (fits_of ⟨.inl ⟨rfl, rfl⟩, trivial⟩ trivial fi_ trivial rfl)⟩
  conv => whnf
  injection H with H; subst H
  exact ret_fz [] (rtA_eq rfl)
  conv => whnf
  refine cut_ 104 [(4, .int .i64 2)] [] rfl ⟨.inl rfl, trivial⟩ trivial ?_
  conv => whnf
  injection H with H; subst H
  exact ret_fz [] (rtA_eq rfl)
  conv => whnf
  refine Br.t ft_ ?_
  conv => whnf
  refine Br.t ft_ ?_
  conv => whnf
  refine Br.t ft_ ?_
  conv => whnf
  refine Br.t ft_ ?_
  conv => whnf
  refine cut_ 96 [(2, .bp 0 0), (3, .bp 8 0), (25, .bool true)] [(0, .box [(sv_S_impl_ClaimFoe a0_0), (sv_S_impl_ClaimSpot a0_1), (sv_str a0_2), (sv_S_impl_ClaimPart a0_3), .int .i64 a0_4]), (8, .box [.int .i64 a1_0, .int .i64 a1_1, (sv_str a1_2), (sv_S_impl_ClaimUse a1_3), (sv_str a1_4), (sv_str a1_5)])] rfl ⟨.inl rfl, ⟨.inl rfl, ⟨.inl rfl, trivial⟩⟩⟩ ⟨rfl, ⟨rfl, trivial⟩⟩ ?_
  conv => whnf
  refine Br.t rfl ?_
  conv => whnf
  refine cut_ 104 [(4, .int .i64 2)] [] rfl ⟨.inl rfl, trivial⟩ trivial ?_
  conv => whnf
  injection H with H; subst H
  exact ret_fz [] (rtA_eq rfl)
theorem impl_ClaimCode.ac {k : Nat} {a0_0 : List S_impl_ClaimFoe} {a0_1 : List S_impl_ClaimSpot} {a0_2 : List ByteArray} {a0_3 : List S_impl_ClaimPart} {a0_4 : Int} {a1_0 : Int} {a1_1 : Int} {a1_2 : List ByteArray} {a1_3 : List S_impl_ClaimUse} {a1_4 : List ByteArray} {a1_5 : List ByteArray} {r : Int} (H : impl_ClaimCode.f k a0_0 a0_1 a0_2 a0_3 a0_4 a1_0 a1_1 a1_2 a1_3 a1_4 a1_5 = some r) : ACalls Tryz.prog G 9 [] [.agg [(sv_S_impl_ClaimFoe a0_0), (sv_S_impl_ClaimSpot a0_1), (sv_str a0_2), (sv_S_impl_ClaimPart a0_3), .int .i64 a0_4], .agg [.int .i64 a1_0, .int .i64 a1_1, (sv_str a1_2), (sv_S_impl_ClaimUse a1_3), (sv_str a1_4), (sv_str a1_5)]] [] (.int .i64 r) := by
  refine acalls_of tok hP Tryz.func9 rfl (by kernel_rfl) [.tmp 4] rfl (by kernel_rfl) (Nat.le_of_ble_eq_true rfl) (.l .n (.l .n (.c .n .n))) rfl ?_
  unfold impl_ClaimCode.f at H
  conv => whnf
  revert H; refine bind_elim (fun t2332 A H => ?_)
  refine call_mk (impl_ClaimBookOk.ac A) (avAL_cons (avA_agg (avL_cons (av_shut' rfl) (avL_cons (av_shut' rfl) (avL_cons (av_shut' rfl) (avL_cons (av_shut' rfl) (avL_cons (av_shut' rfl) (avL_nil))))))) (avAL_nil)) (Or.inl rfl) rfl rfl (Nat.le_of_ble_eq_true rfl) ?_
  conv => whnf
  refine br_nt H (fun c H => ?_) (fun c H => ?_)
  conv => whnf
  revert H; refine bind_elim (fun t2334 A H => ?_)
  refine call_mk (impl_ClaimBook_code.ac A) (avAL_cons (avA_agg (avL_cons (av_shut' rfl) (avL_cons (av_shut' rfl) (avL_cons (av_shut' rfl) (avL_cons (av_shut' rfl) (avL_cons (av_shut' rfl) (avL_nil))))))) (avAL_cons (avA_agg (avL_cons (av_shut' rfl) (avL_cons (av_shut' rfl) (avL_cons (av_shut' rfl) (avL_cons (av_shut' rfl) (avL_cons (av_shut' rfl) (avL_cons (av_shut' rfl) (avL_nil)))))))) (avAL_nil))) (Or.inl rfl) rfl rfl (Nat.le_of_ble_eq_true rfl) ?_
  conv => whnf
  refine cut_ 80 [(4, .int .i64 t2334)] [] rfl ⟨.inl rfl, trivial⟩ trivial ?_
  conv => whnf
  injection H with H; subst H
  exact ret_fz [] (rtA_eq rfl)
  conv => whnf
  injection H with H; subst H
  exact ret_fz [] (rtA_eq rfl)
theorem laws_eqClaimFoe.ac {a0_0 : ByteArray} {a0_1 : ByteArray} {a1_0 : ByteArray} {a1_1 : ByteArray} {r : Bool} (H : laws_eqClaimFoe.f a0_0 a0_1 a1_0 a1_1 = some r) : ACalls Tryz.prog G 74 [] [.agg [.str a0_0, .str a0_1], .agg [.str a1_0, .str a1_1]] [] (.bool r) := by
  refine acalls_of tok hP Tryz.func74 rfl (by kernel_rfl) [.tmp 4] rfl (by kernel_rfl) (Nat.le_of_ble_eq_true rfl) (.l .n (.l .n (.l (.c .n .n) .n))) rfl ?_
  unfold laws_eqClaimFoe.f at H
  conv => whnf
  refine br_nd H (fun c H => ?_) (fun c H => ?_)
  conv => whnf
  refine cut_ 104 [(14, .bool (!(decide (a0_1.toList = a1_1.toList))))] [] rfl ⟨.inl rfl, trivial⟩ trivial ?_
  conv => whnf
  refine br_nd H (fun c H => ?_) (fun c H => ?_)
  conv => whnf
  injection H with H; subst H
  exact ret_fz [] (rtA_eq rfl)
  conv => whnf
  injection H with H; subst H
  exact ret_fz [] (rtA_eq rfl)
  conv => whnf
  injection H with H; subst H
  exact ret_fz [] (rtA_eq rfl)
theorem laws_eqClaimFoeS.l0_lp {F : (Exit → St → Prop) → St → Prop} {hv : List Tmp} {Q : Exit → St → Prop} {σ : St} {r : Bool} {k : Nat} {l0 : List S_impl_ClaimFoe} {l1 : List S_impl_ClaimFoe} {x5 : Int} (H : laws_eqClaimFoeS.l0 k l0 l1 x5 = some r) (rn : List (Option Nat)) (h1 : Fits σ σ [] [(5, .int .i64 x5)] [] [] rn)
    (h2 : ∀ (k0 : Nat) (x5 : Int), k0 < k + 1 → laws_eqClaimFoeS.l0 k0 l0 l1 x5 = some r → headN σ hv [] [(5, .int .i64 x5)] [] [] (F (fun e σ' => match e with | .normal => ∃ (y : Nat × Int) (rn : List (Option Nat)), (laws_eqClaimFoeS.l0 y.1 l0 l1 y.2 = some r ∧ y.1 < k + 1) ∧ y.1 < k0 ∧ Fits σ σ' [] [(5, .int .i64 y.2)] [] [] rn | e => Q e σ'))) : Lp F hv Q σ := by
  unfold Lp
  refine ⟨Nat × Int, fun x => laws_eqClaimFoeS.l0 x.1 l0 l1 x.2 = some r ∧ x.1 < k + 1, fun x => x.1, [], fun x => [(5, .int .i64 x.2)], fun x => [], fun x => [], ⟨(k, x5), rn, ⟨H, Nat.lt_succ_self _⟩, h1⟩, ?_⟩
  rintro ⟨k, x5⟩ ⟨H, hk⟩
  exact h2 k x5 hk H
theorem laws_eqClaimFoeS.ac {k : Nat} {l0 : List S_impl_ClaimFoe} {l1 : List S_impl_ClaimFoe} {r : Bool} (H : laws_eqClaimFoeS.f k l0 l1 = some r) : ACalls Tryz.prog G 34 [] [(sv_S_impl_ClaimFoe l0), (sv_S_impl_ClaimFoe l1)] [] (.bool r) := by
  refine acalls_of tok hP Tryz.func34 rfl (by kernel_rfl) [.tmp 4] rfl (by kernel_rfl) (Nat.le_of_ble_eq_true rfl) (.l .n (.l .n (.l (.l .n (.l (.c .n .n) (.l (.c .n .n) .n))) .n))) rfl ?_
  unfold laws_eqClaimFoeS.f at H
  conv => whnf
  refine br_nd H (fun c H => ?_) (fun c H => ?_)
  conv => whnf
  refine laws_eqClaimFoeS.l0_lp (l0 := l0) (l1 := l1) (k := k) H [] (fits_of ⟨.inl ⟨rfl, rfl⟩, trivial⟩ trivial fi_ trivial rfl) ?_
  intro k x5 hk H; rcases k with _ | k; exact none_elim H; rw [laws_eqClaimFoeS.l0] at H; conv => whnf
  refine cut_ 88 [(0, (sv_S_impl_ClaimFoe l0)), (1, (sv_S_impl_ClaimFoe l1)), (5, .int .i64 x5), (14, .bool (decide (x5 < (l0.length : Int))))] [] rfl ⟨.inl rfl, ⟨.inl rfl, ⟨.inl rfl, ⟨.inl rfl, trivial⟩⟩⟩⟩ trivial ?_
  conv => whnf
  refine br_d H (fun c H => ?_) (fun c H => ?_)
  conv => whnf
  refine nd_ H (fun c H => ?_)
  conv => whnf
  refine Nd.mk nf_ ?_
  conv => whnf
  refine El.mk (rdm_en_S_impl_ClaimFoe _ _ nf_ nf_) ?_
  conv => whnf
  refine Nd.mk nf_ ?_
  conv => whnf
  refine nd_ H (fun c H => ?_)
  conv => whnf
  refine El.mk (rdm_en_S_impl_ClaimFoe _ _ nf_ nf_) ?_
  conv => whnf
  revert H; refine bind_elim (fun t2389 A H => ?_)
  refine call_mk (laws_eqClaimFoe.ac A) (avAL_cons (avA_agg (avL_cons (av_shut' rfl) (avL_cons (av_shut' rfl) (avL_nil)))) (avAL_cons (avA_agg (avL_cons (av_shut' rfl) (avL_cons (av_shut' rfl) (avL_nil)))) (avAL_nil))) (Or.inl rfl) rfl rfl (Nat.le_of_ble_eq_true rfl) ?_
  conv => whnf
  refine cut_ 168 [(0, (sv_S_impl_ClaimFoe l0)), (1, (sv_S_impl_ClaimFoe l1)), (5, .int .i64 x5), (26, .bool (!t2389))] [] rfl ⟨.inl rfl, ⟨.inl rfl, ⟨.inl rfl, ⟨.inl rfl, trivial⟩⟩⟩⟩ trivial ?_
  conv => whnf
  refine br_nt H (fun c H => ?_) (fun c H => ?_)
  conv => whnf
  exact ⟨(k, wrap64 (x5 + 1)), [], ⟨H, lt_⟩, lt_, (fits_of ⟨.inl ⟨rfl, rfl⟩, trivial⟩ trivial fi_ trivial rfl)⟩
  conv => whnf
  injection H with H; subst H
  exact ret_fz [] (rtA_eq rfl)
  conv => whnf
  injection H with H; subst H
  exact ret_fz [] (rtA_eq rfl)
  conv => whnf
  injection H with H; subst H
  exact ret_fz [] (rtA_eq rfl)
theorem laws_eqStringS.l0_lp {F : (Exit → St → Prop) → St → Prop} {hv : List Tmp} {Q : Exit → St → Prop} {σ : St} {r : Bool} {k : Nat} {l0 : List ByteArray} {l1 : List ByteArray} {x5 : Int} (H : laws_eqStringS.l0 k l0 l1 x5 = some r) (rn : List (Option Nat)) (h1 : Fits σ σ [] [(5, .int .i64 x5)] [] [] rn)
    (h2 : ∀ (k0 : Nat) (x5 : Int), k0 < k + 1 → laws_eqStringS.l0 k0 l0 l1 x5 = some r → headN σ hv [] [(5, .int .i64 x5)] [] [] (F (fun e σ' => match e with | .normal => ∃ (y : Nat × Int) (rn : List (Option Nat)), (laws_eqStringS.l0 y.1 l0 l1 y.2 = some r ∧ y.1 < k + 1) ∧ y.1 < k0 ∧ Fits σ σ' [] [(5, .int .i64 y.2)] [] [] rn | e => Q e σ'))) : Lp F hv Q σ := by
  unfold Lp
  refine ⟨Nat × Int, fun x => laws_eqStringS.l0 x.1 l0 l1 x.2 = some r ∧ x.1 < k + 1, fun x => x.1, [], fun x => [(5, .int .i64 x.2)], fun x => [], fun x => [], ⟨(k, x5), rn, ⟨H, Nat.lt_succ_self _⟩, h1⟩, ?_⟩
  rintro ⟨k, x5⟩ ⟨H, hk⟩
  exact h2 k x5 hk H
theorem laws_eqStringS.ac {k : Nat} {l0 : List ByteArray} {l1 : List ByteArray} {r : Bool} (H : laws_eqStringS.f k l0 l1 = some r) : ACalls Tryz.prog G 36 [] [(sv_str l0), (sv_str l1)] [] (.bool r) := by
  refine acalls_of tok hP Tryz.func36 rfl (by kernel_rfl) [.tmp 4] rfl (by kernel_rfl) (Nat.le_of_ble_eq_true rfl) (.l .n (.l .n (.l (.l .n (.l (.c .n .n) (.l (.l .n (.l (.c .n .n) .n)) .n))) .n))) rfl ?_
  unfold laws_eqStringS.f at H
  conv => whnf
  refine br_nd H (fun c H => ?_) (fun c H => ?_)
  conv => whnf
  refine laws_eqStringS.l0_lp (l0 := l0) (l1 := l1) (k := k) H [] (fits_of ⟨.inl ⟨rfl, rfl⟩, trivial⟩ trivial fi_ trivial rfl) ?_
  intro k x5 hk H; rcases k with _ | k; exact none_elim H; rw [laws_eqStringS.l0] at H; conv => whnf
  refine cut_ 88 [(0, (sv_str l0)), (1, (sv_str l1)), (5, .int .i64 x5), (14, .bool (decide (x5 < (l0.length : Int))))] [] rfl ⟨.inl rfl, ⟨.inl rfl, ⟨.inl rfl, ⟨.inl rfl, trivial⟩⟩⟩⟩ trivial ?_
  conv => whnf
  refine br_d H (fun c H => ?_) (fun c H => ?_)
  conv => whnf
  refine nd_ H (fun c H => ?_)
  conv => whnf
  refine Nd.mk nf_ ?_
  conv => whnf
  refine El.mk (rdm_en_str _ _ nf_ nf_) ?_
  conv => whnf
  refine Nd.mk nf_ ?_
  conv => whnf
  refine nd_ H (fun c H => ?_)
  conv => whnf
  refine El.mk (rdm_en_str _ _ nf_ nf_) ?_
  conv => whnf
  refine br_nd H (fun c H => ?_) (fun c H => ?_)
  conv => whnf
  exact ⟨(k, wrap64 (x5 + 1)), [], ⟨H, lt_⟩, lt_, (fits_of ⟨.inl ⟨rfl, rfl⟩, trivial⟩ trivial fi_ trivial rfl)⟩
  conv => whnf
  refine cut_ 168 [(4, .bool false)] [] rfl ⟨.inl rfl, trivial⟩ trivial ?_
  conv => whnf
  injection H with H; subst H
  exact ret_fz [] (rtA_eq rfl)
  conv => whnf
  injection H with H; subst H
  exact ret_fz [] (rtA_eq rfl)
  conv => whnf
  injection H with H; subst H
  exact ret_fz [] (rtA_eq rfl)
theorem laws_eqClaimSpot.ac {k : Nat} {a0_0 : ByteArray} {a0_1 : Int} {a0_2 : Int} {a0_3 : Int} {a0_4 : List ByteArray} {a1_0 : ByteArray} {a1_1 : Int} {a1_2 : Int} {a1_3 : Int} {a1_4 : List ByteArray} {r : Bool} (H : laws_eqClaimSpot.f k a0_0 a0_1 a0_2 a0_3 a0_4 a1_0 a1_1 a1_2 a1_3 a1_4 = some r) : ACalls Tryz.prog G 75 [] [.agg [.str a0_0, .int .i64 a0_1, .int .i64 a0_2, .int .i64 a0_3, (sv_str a0_4)], .agg [.str a1_0, .int .i64 a1_1, .int .i64 a1_2, .int .i64 a1_3, (sv_str a1_4)]] [] (.bool r) := by
  refine acalls_of tok hP Tryz.func75 rfl (by kernel_rfl) [.tmp 4] rfl (by kernel_rfl) (Nat.le_of_ble_eq_true rfl) (.l .n (.l .n (.l (.c .n .n) (.l .n (.l (.c .n .n) .n))))) rfl ?_
  unfold laws_eqClaimSpot.f at H
  conv => whnf
  refine br_nd H (fun c H => ?_) (fun c H => ?_)
  conv => whnf
  refine cut_ 104 [(2, .bp 0 0), (3, .bp 8 0), (14, .bool (!(decide (a0_1 = a1_1))))] [(0, .box [.str a0_0, .int .i64 a0_1, .int .i64 a0_2, .int .i64 a0_3, (sv_str a0_4)]), (8, .box [.str a1_0, .int .i64 a1_1, .int .i64 a1_2, .int .i64 a1_3, (sv_str a1_4)])] rfl ⟨.inl rfl, ⟨.inl rfl, ⟨.inl rfl, trivial⟩⟩⟩ ⟨rfl, ⟨rfl, trivial⟩⟩ ?_
  conv => whnf
  refine br_nd H (fun c H => ?_) (fun c H => ?_)
  conv => whnf
  refine br_nd H (fun c H => ?_) (fun c H => ?_)
  conv => whnf
  refine cut_ 184 [(2, .bp 0 0), (3, .bp 8 0), (24, .bool (!(decide (a0_3 = a1_3))))] [(0, .box [.str a0_0, .int .i64 a0_1, .int .i64 a0_2, .int .i64 a0_3, (sv_str a0_4)]), (8, .box [.str a1_0, .int .i64 a1_1, .int .i64 a1_2, .int .i64 a1_3, (sv_str a1_4)])] rfl ⟨.inl rfl, ⟨.inl rfl, ⟨.inl rfl, trivial⟩⟩⟩ ⟨rfl, ⟨rfl, trivial⟩⟩ ?_
  conv => whnf
  refine br_nd H (fun c H => ?_) (fun c H => ?_)
  conv => whnf
  revert H; refine bind_elim (fun t2452 A H => ?_)
  refine call_mk (laws_eqStringS.ac A) (avAL_cons (avA_shut' rfl) (avAL_cons (avA_shut' rfl) (avAL_nil))) (Or.inl rfl) rfl rfl (Nat.le_of_ble_eq_true rfl) ?_
  conv => whnf
  refine br_nt H (fun c H => ?_) (fun c H => ?_)
  conv => whnf
  injection H with H; subst H
  exact ret_fz [] (rtA_eq rfl)
  conv => whnf
  injection H with H; subst H
  exact ret_fz [] (rtA_eq rfl)
  conv => whnf
  injection H with H; subst H
  exact ret_fz [] (rtA_eq rfl)
  conv => whnf
  injection H with H; subst H
  exact ret_fz [] (rtA_eq rfl)
  conv => whnf
  injection H with H; subst H
  exact ret_fz [] (rtA_eq rfl)
  conv => whnf
  injection H with H; subst H
  exact ret_fz [] (rtA_eq rfl)
theorem laws_eqClaimSpotS.l0_lp {F : (Exit → St → Prop) → St → Prop} {hv : List Tmp} {Q : Exit → St → Prop} {σ : St} {r : Bool} {k : Nat} {l0 : List S_impl_ClaimSpot} {l1 : List S_impl_ClaimSpot} {x5 : Int} (H : laws_eqClaimSpotS.l0 k l0 l1 x5 = some r) (rn : List (Option Nat)) (h1 : Fits σ σ [] [(5, .int .i64 x5)] [] [] rn)
    (h2 : ∀ (k0 : Nat) (x5 : Int), k0 < k + 1 → laws_eqClaimSpotS.l0 k0 l0 l1 x5 = some r → headN σ hv [] [(5, .int .i64 x5)] [] [] (F (fun e σ' => match e with | .normal => ∃ (y : Nat × Int) (rn : List (Option Nat)), (laws_eqClaimSpotS.l0 y.1 l0 l1 y.2 = some r ∧ y.1 < k + 1) ∧ y.1 < k0 ∧ Fits σ σ' [] [(5, .int .i64 y.2)] [] [] rn | e => Q e σ'))) : Lp F hv Q σ := by
  unfold Lp
  refine ⟨Nat × Int, fun x => laws_eqClaimSpotS.l0 x.1 l0 l1 x.2 = some r ∧ x.1 < k + 1, fun x => x.1, [], fun x => [(5, .int .i64 x.2)], fun x => [], fun x => [], ⟨(k, x5), rn, ⟨H, Nat.lt_succ_self _⟩, h1⟩, ?_⟩
  rintro ⟨k, x5⟩ ⟨H, hk⟩
  exact h2 k x5 hk H
theorem laws_eqClaimSpotS.ac {k : Nat} {l0 : List S_impl_ClaimSpot} {l1 : List S_impl_ClaimSpot} {r : Bool} (H : laws_eqClaimSpotS.f k l0 l1 = some r) : ACalls Tryz.prog G 35 [] [(sv_S_impl_ClaimSpot l0), (sv_S_impl_ClaimSpot l1)] [] (.bool r) := by
  refine acalls_of tok hP Tryz.func35 rfl (by kernel_rfl) [.tmp 4] rfl (by kernel_rfl) (Nat.le_of_ble_eq_true rfl) (.l .n (.l .n (.l (.l .n (.l (.c .n .n) (.l (.c .n .n) .n))) .n))) rfl ?_
  unfold laws_eqClaimSpotS.f at H
  conv => whnf
  refine br_nd H (fun c H => ?_) (fun c H => ?_)
  conv => whnf
  refine laws_eqClaimSpotS.l0_lp (l0 := l0) (l1 := l1) (k := k) H [] (fits_of ⟨.inl ⟨rfl, rfl⟩, trivial⟩ trivial fi_ trivial rfl) ?_
  intro k x5 hk H; rcases k with _ | k; exact none_elim H; rw [laws_eqClaimSpotS.l0] at H; conv => whnf
  refine cut_ 88 [(0, (sv_S_impl_ClaimSpot l0)), (1, (sv_S_impl_ClaimSpot l1)), (5, .int .i64 x5), (14, .bool (decide (x5 < (l0.length : Int))))] [] rfl ⟨.inl rfl, ⟨.inl rfl, ⟨.inl rfl, ⟨.inl rfl, trivial⟩⟩⟩⟩ trivial ?_
  conv => whnf
  refine br_d H (fun c H => ?_) (fun c H => ?_)
  conv => whnf
  refine nd_ H (fun c H => ?_)
  conv => whnf
  refine Nd.mk nf_ ?_
  conv => whnf
  refine El.mk (rdm_en_S_impl_ClaimSpot _ _ nf_ nf_) ?_
  conv => whnf
  refine Nd.mk nf_ ?_
  conv => whnf
  refine nd_ H (fun c H => ?_)
  conv => whnf
  refine El.mk (rdm_en_S_impl_ClaimSpot _ _ nf_ nf_) ?_
  conv => whnf
  revert H; refine bind_elim (fun t2456 A H => ?_)
  refine call_mk (laws_eqClaimSpot.ac A) (avAL_cons (avA_agg (avL_cons (av_shut' rfl) (avL_cons (av_shut' rfl) (avL_cons (av_shut' rfl) (avL_cons (av_shut' rfl) (avL_cons (av_shut' rfl) (avL_nil))))))) (avAL_cons (avA_agg (avL_cons (av_shut' rfl) (avL_cons (av_shut' rfl) (avL_cons (av_shut' rfl) (avL_cons (av_shut' rfl) (avL_cons (av_shut' rfl) (avL_nil))))))) (avAL_nil))) (Or.inl rfl) rfl rfl (Nat.le_of_ble_eq_true rfl) ?_
  conv => whnf
  refine cut_ 168 [(0, (sv_S_impl_ClaimSpot l0)), (1, (sv_S_impl_ClaimSpot l1)), (5, .int .i64 x5), (26, .bool (!t2456))] [] rfl ⟨.inl rfl, ⟨.inl rfl, ⟨.inl rfl, ⟨.inl rfl, trivial⟩⟩⟩⟩ trivial ?_
  conv => whnf
  refine br_nt H (fun c H => ?_) (fun c H => ?_)
  conv => whnf
  exact ⟨(k, wrap64 (x5 + 1)), [], ⟨H, lt_⟩, lt_, (fits_of ⟨.inl ⟨rfl, rfl⟩, trivial⟩ trivial fi_ trivial rfl)⟩
  conv => whnf
  injection H with H; subst H
  exact ret_fz [] (rtA_eq rfl)
  conv => whnf
  injection H with H; subst H
  exact ret_fz [] (rtA_eq rfl)
  conv => whnf
  injection H with H; subst H
  exact ret_fz [] (rtA_eq rfl)
theorem laws_eqClaimUse.ac {a0_0 : ByteArray} {a0_1 : Int} {a0_2 : Int} {a1_0 : ByteArray} {a1_1 : Int} {a1_2 : Int} {r : Bool} (H : laws_eqClaimUse.f a0_0 a0_1 a0_2 a1_0 a1_1 a1_2 = some r) : ACalls Tryz.prog G 77 [] [.agg [.str a0_0, .int .i64 a0_1, .int .i64 a0_2], .agg [.str a1_0, .int .i64 a1_1, .int .i64 a1_2]] [] (.bool r) := by
  refine acalls_of tok hP Tryz.func77 rfl (by kernel_rfl) [.tmp 4] rfl (by kernel_rfl) (Nat.le_of_ble_eq_true rfl) (.l .n (.l .n (.l (.c .n .n) .n))) rfl ?_
  unfold laws_eqClaimUse.f at H
  conv => whnf
  refine br_nd H (fun c H => ?_) (fun c H => ?_)
  conv => whnf
  refine cut_ 104 [(2, .bp 0 0), (3, .bp 8 0), (14, .bool (!(decide (a0_1 = a1_1))))] [(0, .box [.str a0_0, .int .i64 a0_1, .int .i64 a0_2]), (8, .box [.str a1_0, .int .i64 a1_1, .int .i64 a1_2])] rfl ⟨.inl rfl, ⟨.inl rfl, ⟨.inl rfl, trivial⟩⟩⟩ ⟨rfl, ⟨rfl, trivial⟩⟩ ?_
  conv => whnf
  refine br_nd H (fun c H => ?_) (fun c H => ?_)
  conv => whnf
  refine br_nd H (fun c H => ?_) (fun c H => ?_)
  conv => whnf
  injection H with H; subst H
  exact ret_fz [] (rtA_eq rfl)
  conv => whnf
  injection H with H; subst H
  exact ret_fz [] (rtA_eq rfl)
  conv => whnf
  injection H with H; subst H
  exact ret_fz [] (rtA_eq rfl)
  conv => whnf
  injection H with H; subst H
  exact ret_fz [] (rtA_eq rfl)
theorem laws_eqClaimUseS.l0_lp {F : (Exit → St → Prop) → St → Prop} {hv : List Tmp} {Q : Exit → St → Prop} {σ : St} {r : Bool} {k : Nat} {l0 : List S_impl_ClaimUse} {l1 : List S_impl_ClaimUse} {x5 : Int} (H : laws_eqClaimUseS.l0 k l0 l1 x5 = some r) (rn : List (Option Nat)) (h1 : Fits σ σ [] [(5, .int .i64 x5)] [] [] rn)
    (h2 : ∀ (k0 : Nat) (x5 : Int), k0 < k + 1 → laws_eqClaimUseS.l0 k0 l0 l1 x5 = some r → headN σ hv [] [(5, .int .i64 x5)] [] [] (F (fun e σ' => match e with | .normal => ∃ (y : Nat × Int) (rn : List (Option Nat)), (laws_eqClaimUseS.l0 y.1 l0 l1 y.2 = some r ∧ y.1 < k + 1) ∧ y.1 < k0 ∧ Fits σ σ' [] [(5, .int .i64 y.2)] [] [] rn | e => Q e σ'))) : Lp F hv Q σ := by
  unfold Lp
  refine ⟨Nat × Int, fun x => laws_eqClaimUseS.l0 x.1 l0 l1 x.2 = some r ∧ x.1 < k + 1, fun x => x.1, [], fun x => [(5, .int .i64 x.2)], fun x => [], fun x => [], ⟨(k, x5), rn, ⟨H, Nat.lt_succ_self _⟩, h1⟩, ?_⟩
  rintro ⟨k, x5⟩ ⟨H, hk⟩
  exact h2 k x5 hk H
theorem laws_eqClaimUseS.ac {k : Nat} {l0 : List S_impl_ClaimUse} {l1 : List S_impl_ClaimUse} {r : Bool} (H : laws_eqClaimUseS.f k l0 l1 = some r) : ACalls Tryz.prog G 38 [] [(sv_S_impl_ClaimUse l0), (sv_S_impl_ClaimUse l1)] [] (.bool r) := by
  refine acalls_of tok hP Tryz.func38 rfl (by kernel_rfl) [.tmp 4] rfl (by kernel_rfl) (Nat.le_of_ble_eq_true rfl) (.l .n (.l .n (.l (.l .n (.l (.c .n .n) (.l (.c .n .n) .n))) .n))) rfl ?_
  unfold laws_eqClaimUseS.f at H
  conv => whnf
  refine br_nd H (fun c H => ?_) (fun c H => ?_)
  conv => whnf
  refine laws_eqClaimUseS.l0_lp (l0 := l0) (l1 := l1) (k := k) H [] (fits_of ⟨.inl ⟨rfl, rfl⟩, trivial⟩ trivial fi_ trivial rfl) ?_
  intro k x5 hk H; rcases k with _ | k; exact none_elim H; rw [laws_eqClaimUseS.l0] at H; conv => whnf
  refine cut_ 88 [(0, (sv_S_impl_ClaimUse l0)), (1, (sv_S_impl_ClaimUse l1)), (5, .int .i64 x5), (14, .bool (decide (x5 < (l0.length : Int))))] [] rfl ⟨.inl rfl, ⟨.inl rfl, ⟨.inl rfl, ⟨.inl rfl, trivial⟩⟩⟩⟩ trivial ?_
  conv => whnf
  refine br_d H (fun c H => ?_) (fun c H => ?_)
  conv => whnf
  refine nd_ H (fun c H => ?_)
  conv => whnf
  refine Nd.mk nf_ ?_
  conv => whnf
  refine El.mk (rdm_en_S_impl_ClaimUse _ _ nf_ nf_) ?_
  conv => whnf
  refine Nd.mk nf_ ?_
  conv => whnf
  refine nd_ H (fun c H => ?_)
  conv => whnf
  refine El.mk (rdm_en_S_impl_ClaimUse _ _ nf_ nf_) ?_
  conv => whnf
  revert H; refine bind_elim (fun t2596 A H => ?_)
  refine call_mk (laws_eqClaimUse.ac A) (avAL_cons (avA_agg (avL_cons (av_shut' rfl) (avL_cons (av_shut' rfl) (avL_cons (av_shut' rfl) (avL_nil))))) (avAL_cons (avA_agg (avL_cons (av_shut' rfl) (avL_cons (av_shut' rfl) (avL_cons (av_shut' rfl) (avL_nil))))) (avAL_nil))) (Or.inl rfl) rfl rfl (Nat.le_of_ble_eq_true rfl) ?_
  conv => whnf
  refine cut_ 168 [(0, (sv_S_impl_ClaimUse l0)), (1, (sv_S_impl_ClaimUse l1)), (5, .int .i64 x5), (26, .bool (!t2596))] [] rfl ⟨.inl rfl, ⟨.inl rfl, ⟨.inl rfl, ⟨.inl rfl, trivial⟩⟩⟩⟩ trivial ?_
  conv => whnf
  refine br_nt H (fun c H => ?_) (fun c H => ?_)
  conv => whnf
  exact ⟨(k, wrap64 (x5 + 1)), [], ⟨H, lt_⟩, lt_, (fits_of ⟨.inl ⟨rfl, rfl⟩, trivial⟩ trivial fi_ trivial rfl)⟩
  conv => whnf
  injection H with H; subst H
  exact ret_fz [] (rtA_eq rfl)
  conv => whnf
  injection H with H; subst H
  exact ret_fz [] (rtA_eq rfl)
  conv => whnf
  injection H with H; subst H
  exact ret_fz [] (rtA_eq rfl)
theorem laws_eqClaimWant.ac {k : Nat} {a0_0 : Int} {a0_1 : Int} {a0_2 : List ByteArray} {a0_3 : List S_impl_ClaimUse} {a0_4 : List ByteArray} {a0_5 : List ByteArray} {a1_0 : Int} {a1_1 : Int} {a1_2 : List ByteArray} {a1_3 : List S_impl_ClaimUse} {a1_4 : List ByteArray} {a1_5 : List ByteArray} {r : Bool} (H : laws_eqClaimWant.f k a0_0 a0_1 a0_2 a0_3 a0_4 a0_5 a1_0 a1_1 a1_2 a1_3 a1_4 a1_5 = some r) : ACalls Tryz.prog G 11 [] [.agg [.int .i64 a0_0, .int .i64 a0_1, (sv_str a0_2), (sv_S_impl_ClaimUse a0_3), (sv_str a0_4), (sv_str a0_5)], .agg [.int .i64 a1_0, .int .i64 a1_1, (sv_str a1_2), (sv_S_impl_ClaimUse a1_3), (sv_str a1_4), (sv_str a1_5)]] [] (.bool r) := by
  refine acalls_of tok hP Tryz.func11 rfl (by kernel_rfl) [.tmp 4] rfl (by kernel_rfl) (Nat.le_of_ble_eq_true rfl) (.l .n (.l .n (.l (.c .n .n) (.l .n (.l (.c .n .n) (.l .n (.l (.c .n .n) .n))))))) rfl ?_
  unfold laws_eqClaimWant.f at H
  conv => whnf
  refine br_nd H (fun c H => ?_) (fun c H => ?_)
  conv => whnf
  refine cut_ 104 [(2, .bp 0 0), (3, .bp 8 0), (14, .bool (!(decide (a0_1 = a1_1))))] [(0, .box [.int .i64 a0_0, .int .i64 a0_1, (sv_str a0_2), (sv_S_impl_ClaimUse a0_3), (sv_str a0_4), (sv_str a0_5)]), (8, .box [.int .i64 a1_0, .int .i64 a1_1, (sv_str a1_2), (sv_S_impl_ClaimUse a1_3), (sv_str a1_4), (sv_str a1_5)])] rfl ⟨.inl rfl, ⟨.inl rfl, ⟨.inl rfl, trivial⟩⟩⟩ ⟨rfl, ⟨rfl, trivial⟩⟩ ?_
  conv => whnf
  refine br_nd H (fun c H => ?_) (fun c H => ?_)
  conv => whnf
  revert H; refine bind_elim (fun t2599 A H => ?_)
  refine call_mk (laws_eqStringS.ac A) (avAL_cons (avA_shut' rfl) (avAL_cons (avA_shut' rfl) (avAL_nil))) (Or.inl rfl) rfl rfl (Nat.le_of_ble_eq_true rfl) ?_
  conv => whnf
  refine br_nt H (fun c H => ?_) (fun c H => ?_)
  conv => whnf
  revert H; refine bind_elim (fun t2602 A H => ?_)
  refine call_mk (laws_eqClaimUseS.ac A) (avAL_cons (avA_shut' rfl) (avAL_cons (avA_shut' rfl) (avAL_nil))) (Or.inl rfl) rfl rfl (Nat.le_of_ble_eq_true rfl) ?_
  conv => whnf
  refine cut_ 200 [(2, .bp 0 0), (3, .bp 8 0), (26, .bool (!t2602))] [(0, .box [.int .i64 a0_0, .int .i64 a0_1, (sv_str a0_2), (sv_S_impl_ClaimUse a0_3), (sv_str a0_4), (sv_str a0_5)]), (8, .box [.int .i64 a1_0, .int .i64 a1_1, (sv_str a1_2), (sv_S_impl_ClaimUse a1_3), (sv_str a1_4), (sv_str a1_5)])] rfl ⟨.inl rfl, ⟨.inl rfl, ⟨.inl rfl, trivial⟩⟩⟩ ⟨rfl, ⟨rfl, trivial⟩⟩ ?_
  conv => whnf
  refine br_nt H (fun c H => ?_) (fun c H => ?_)
  conv => whnf
  revert H; refine bind_elim (fun t2605 A H => ?_)
  refine call_mk (laws_eqStringS.ac A) (avAL_cons (avA_shut' rfl) (avAL_cons (avA_shut' rfl) (avAL_nil))) (Or.inl rfl) rfl rfl (Nat.le_of_ble_eq_true rfl) ?_
  conv => whnf
  refine br_nt H (fun c H => ?_) (fun c H => ?_)
  conv => whnf
  revert H; refine bind_elim (fun t2608 A H => ?_)
  refine call_mk (laws_eqStringS.ac A) (avAL_cons (avA_shut' rfl) (avAL_cons (avA_shut' rfl) (avAL_nil))) (Or.inl rfl) rfl rfl (Nat.le_of_ble_eq_true rfl) ?_
  conv => whnf
  refine cut_ 296 [(38, .bool (!t2608))] [] rfl ⟨.inl rfl, trivial⟩ trivial ?_
  conv => whnf
  refine br_nt H (fun c H => ?_) (fun c H => ?_)
  conv => whnf
  injection H with H; subst H
  exact ret_fz [] (rtA_eq rfl)
  conv => whnf
  injection H with H; subst H
  exact ret_fz [] (rtA_eq rfl)
  conv => whnf
  injection H with H; subst H
  exact ret_fz [] (rtA_eq rfl)
  conv => whnf
  injection H with H; subst H
  exact ret_fz [] (rtA_eq rfl)
  conv => whnf
  injection H with H; subst H
  exact ret_fz [] (rtA_eq rfl)
  conv => whnf
  injection H with H; subst H
  exact ret_fz [] (rtA_eq rfl)
  conv => whnf
  injection H with H; subst H
  exact ret_fz [] (rtA_eq rfl)
theorem laws_eqClaimPart.ac {k : Nat} {a0_0 : Int} {a0_1 : Int} {a0_2 : List ByteArray} {a0_3 : List S_impl_ClaimUse} {a0_4 : List ByteArray} {a0_5 : List ByteArray} {a0_6 : Bool} {a1_0 : Int} {a1_1 : Int} {a1_2 : List ByteArray} {a1_3 : List S_impl_ClaimUse} {a1_4 : List ByteArray} {a1_5 : List ByteArray} {a1_6 : Bool} {r : Bool} (H : laws_eqClaimPart.f k a0_0 a0_1 a0_2 a0_3 a0_4 a0_5 a0_6 a1_0 a1_1 a1_2 a1_3 a1_4 a1_5 a1_6 = some r) : ACalls Tryz.prog G 76 [] [.agg [.int .i64 a0_0, .int .i64 a0_1, (sv_str a0_2), (sv_S_impl_ClaimUse a0_3), (sv_str a0_4), (sv_str a0_5), .bool a0_6], .agg [.int .i64 a1_0, .int .i64 a1_1, (sv_str a1_2), (sv_S_impl_ClaimUse a1_3), (sv_str a1_4), (sv_str a1_5), .bool a1_6]] [] (.bool r) := by
  refine acalls_of tok hP Tryz.func76 rfl (by kernel_rfl) [.tmp 4] rfl (by kernel_rfl) (Nat.le_of_ble_eq_true rfl) (.l .n (.l (.l .n (.l (.c .n .n) .n)) (.l (.c .n .n) .n))) rfl ?_
  unfold laws_eqClaimPart.f at H
  conv => whnf
  revert H; refine bind_elim (fun t2611 A H => ?_)
  refine call_mk (laws_eqClaimWant.ac A) (avAL_cons (avA_agg (avL_cons (av_shut' rfl) (avL_cons (av_shut' rfl) (avL_cons (av_shut' rfl) (avL_cons (av_shut' rfl) (avL_cons (av_shut' rfl) (avL_cons (av_shut' rfl) (avL_nil)))))))) (avAL_cons (avA_agg (avL_cons (av_shut' rfl) (avL_cons (av_shut' rfl) (avL_cons (av_shut' rfl) (avL_cons (av_shut' rfl) (avL_cons (av_shut' rfl) (avL_cons (av_shut' rfl) (avL_nil)))))))) (avAL_nil))) (Or.inl rfl) rfl rfl (Nat.le_of_ble_eq_true rfl) ?_
  conv => whnf
  refine br_nt H (fun c H => ?_) (fun c H => ?_)
  conv => whnf
  refine cut_ 112 [(15, .bool (a0_6 != a1_6))] [] rfl ⟨.inl rfl, trivial⟩ trivial ?_
  conv => whnf
  refine br_t H (fun c H => ?_) (fun c H => ?_)
  conv => whnf
  injection H with H; subst H
  exact ret_fz [] (rtA_eq rfl)
  conv => whnf
  injection H with H; subst H
  exact ret_fz [] (rtA_eq rfl)
  conv => whnf
  refine cut_ 80 [(4, .bool false)] [] rfl ⟨.inl rfl, trivial⟩ trivial ?_
  conv => whnf
  injection H with H; subst H
  exact ret_fz [] (rtA_eq rfl)
theorem laws_eqClaimPartS.l0_lp {F : (Exit → St → Prop) → St → Prop} {hv : List Tmp} {Q : Exit → St → Prop} {σ : St} {r : Bool} {k : Nat} {l0 : List S_impl_ClaimPart} {l1 : List S_impl_ClaimPart} {x5 : Int} (H : laws_eqClaimPartS.l0 k l0 l1 x5 = some r) (rn : List (Option Nat)) (h1 : Fits σ σ [] [(5, .int .i64 x5)] [] [] rn)
    (h2 : ∀ (k0 : Nat) (x5 : Int), k0 < k + 1 → laws_eqClaimPartS.l0 k0 l0 l1 x5 = some r → headN σ hv [] [(5, .int .i64 x5)] [] [] (F (fun e σ' => match e with | .normal => ∃ (y : Nat × Int) (rn : List (Option Nat)), (laws_eqClaimPartS.l0 y.1 l0 l1 y.2 = some r ∧ y.1 < k + 1) ∧ y.1 < k0 ∧ Fits σ σ' [] [(5, .int .i64 y.2)] [] [] rn | e => Q e σ'))) : Lp F hv Q σ := by
  unfold Lp
  refine ⟨Nat × Int, fun x => laws_eqClaimPartS.l0 x.1 l0 l1 x.2 = some r ∧ x.1 < k + 1, fun x => x.1, [], fun x => [(5, .int .i64 x.2)], fun x => [], fun x => [], ⟨(k, x5), rn, ⟨H, Nat.lt_succ_self _⟩, h1⟩, ?_⟩
  rintro ⟨k, x5⟩ ⟨H, hk⟩
  exact h2 k x5 hk H
theorem laws_eqClaimPartS.ac {k : Nat} {l0 : List S_impl_ClaimPart} {l1 : List S_impl_ClaimPart} {r : Bool} (H : laws_eqClaimPartS.f k l0 l1 = some r) : ACalls Tryz.prog G 37 [] [(sv_S_impl_ClaimPart l0), (sv_S_impl_ClaimPart l1)] [] (.bool r) := by
  refine acalls_of tok hP Tryz.func37 rfl (by kernel_rfl) [.tmp 4] rfl (by kernel_rfl) (Nat.le_of_ble_eq_true rfl) (.l .n (.l .n (.l (.l .n (.l (.c .n .n) (.l (.c .n .n) .n))) .n))) rfl ?_
  unfold laws_eqClaimPartS.f at H
  conv => whnf
  refine br_nd H (fun c H => ?_) (fun c H => ?_)
  conv => whnf
  refine laws_eqClaimPartS.l0_lp (l0 := l0) (l1 := l1) (k := k) H [] (fits_of ⟨.inl ⟨rfl, rfl⟩, trivial⟩ trivial fi_ trivial rfl) ?_
  intro k x5 hk H; rcases k with _ | k; exact none_elim H; rw [laws_eqClaimPartS.l0] at H; conv => whnf
  refine cut_ 88 [(0, (sv_S_impl_ClaimPart l0)), (1, (sv_S_impl_ClaimPart l1)), (5, .int .i64 x5), (14, .bool (decide (x5 < (l0.length : Int))))] [] rfl ⟨.inl rfl, ⟨.inl rfl, ⟨.inl rfl, ⟨.inl rfl, trivial⟩⟩⟩⟩ trivial ?_
  conv => whnf
  refine br_d H (fun c H => ?_) (fun c H => ?_)
  conv => whnf
  refine nd_ H (fun c H => ?_)
  conv => whnf
  refine Nd.mk nf_ ?_
  conv => whnf
  refine El.mk (rdm_en_S_impl_ClaimPart _ _ nf_ nf_) ?_
  conv => whnf
  refine Nd.mk nf_ ?_
  conv => whnf
  refine nd_ H (fun c H => ?_)
  conv => whnf
  refine El.mk (rdm_en_S_impl_ClaimPart _ _ nf_ nf_) ?_
  conv => whnf
  revert H; refine bind_elim (fun t2615 A H => ?_)
  refine call_mk (laws_eqClaimPart.ac A) (avAL_cons (avA_agg (avL_cons (av_shut' rfl) (avL_cons (av_shut' rfl) (avL_cons (av_shut' rfl) (avL_cons (av_shut' rfl) (avL_cons (av_shut' rfl) (avL_cons (av_shut' rfl) (avL_cons (av_shut' rfl) (avL_nil))))))))) (avAL_cons (avA_agg (avL_cons (av_shut' rfl) (avL_cons (av_shut' rfl) (avL_cons (av_shut' rfl) (avL_cons (av_shut' rfl) (avL_cons (av_shut' rfl) (avL_cons (av_shut' rfl) (avL_cons (av_shut' rfl) (avL_nil))))))))) (avAL_nil))) (Or.inl rfl) rfl rfl (Nat.le_of_ble_eq_true rfl) ?_
  conv => whnf
  refine cut_ 168 [(0, (sv_S_impl_ClaimPart l0)), (1, (sv_S_impl_ClaimPart l1)), (5, .int .i64 x5), (26, .bool (!t2615))] [] rfl ⟨.inl rfl, ⟨.inl rfl, ⟨.inl rfl, ⟨.inl rfl, trivial⟩⟩⟩⟩ trivial ?_
  conv => whnf
  refine br_nt H (fun c H => ?_) (fun c H => ?_)
  conv => whnf
  exact ⟨(k, wrap64 (x5 + 1)), [], ⟨H, lt_⟩, lt_, (fits_of ⟨.inl ⟨rfl, rfl⟩, trivial⟩ trivial fi_ trivial rfl)⟩
  conv => whnf
  injection H with H; subst H
  exact ret_fz [] (rtA_eq rfl)
  conv => whnf
  injection H with H; subst H
  exact ret_fz [] (rtA_eq rfl)
  conv => whnf
  injection H with H; subst H
  exact ret_fz [] (rtA_eq rfl)
theorem laws_eqClaimBook.ac {k : Nat} {a0_0 : List S_impl_ClaimFoe} {a0_1 : List S_impl_ClaimSpot} {a0_2 : List ByteArray} {a0_3 : List S_impl_ClaimPart} {a0_4 : Int} {a1_0 : List S_impl_ClaimFoe} {a1_1 : List S_impl_ClaimSpot} {a1_2 : List ByteArray} {a1_3 : List S_impl_ClaimPart} {a1_4 : Int} {r : Bool} (H : laws_eqClaimBook.f k a0_0 a0_1 a0_2 a0_3 a0_4 a1_0 a1_1 a1_2 a1_3 a1_4 = some r) : ACalls Tryz.prog G 10 [] [.agg [(sv_S_impl_ClaimFoe a0_0), (sv_S_impl_ClaimSpot a0_1), (sv_str a0_2), (sv_S_impl_ClaimPart a0_3), .int .i64 a0_4], .agg [(sv_S_impl_ClaimFoe a1_0), (sv_S_impl_ClaimSpot a1_1), (sv_str a1_2), (sv_S_impl_ClaimPart a1_3), .int .i64 a1_4]] [] (.bool r) := by
  refine acalls_of tok hP Tryz.func10 rfl (by kernel_rfl) [.tmp 4] rfl (by kernel_rfl) (Nat.le_of_ble_eq_true rfl) (.l .n (.l (.l .n (.l (.c .n .n) .n)) (.l (.c .n .n) (.l .n (.l (.c .n .n) .n))))) rfl ?_
  unfold laws_eqClaimBook.f at H
  conv => whnf
  revert H; refine bind_elim (fun t2618 A H => ?_)
  refine call_mk (laws_eqClaimFoeS.ac A) (avAL_cons (avA_shut' rfl) (avAL_cons (avA_shut' rfl) (avAL_nil))) (Or.inl rfl) rfl rfl (Nat.le_of_ble_eq_true rfl) ?_
  conv => whnf
  refine br_nt H (fun c H => ?_) (fun c H => ?_)
  conv => whnf
  revert H; refine bind_elim (fun t2621 A H => ?_)
  refine call_mk (laws_eqClaimSpotS.ac A) (avAL_cons (avA_shut' rfl) (avAL_cons (avA_shut' rfl) (avAL_nil))) (Or.inl rfl) rfl rfl (Nat.le_of_ble_eq_true rfl) ?_
  conv => whnf
  refine cut_ 120 [(2, .bp 0 0), (3, .bp 8 0), (16, .bool (!t2621))] [(0, .box [(sv_S_impl_ClaimFoe a0_0), (sv_S_impl_ClaimSpot a0_1), (sv_str a0_2), (sv_S_impl_ClaimPart a0_3), .int .i64 a0_4]), (8, .box [(sv_S_impl_ClaimFoe a1_0), (sv_S_impl_ClaimSpot a1_1), (sv_str a1_2), (sv_S_impl_ClaimPart a1_3), .int .i64 a1_4])] rfl ⟨.inl rfl, ⟨.inl rfl, ⟨.inl rfl, trivial⟩⟩⟩ ⟨rfl, ⟨rfl, trivial⟩⟩ ?_
  conv => whnf
  refine br_nt H (fun c H => ?_) (fun c H => ?_)
  conv => whnf
  revert H; refine bind_elim (fun t2624 A H => ?_)
  refine call_mk (laws_eqStringS.ac A) (avAL_cons (avA_shut' rfl) (avAL_cons (avA_shut' rfl) (avAL_nil))) (Or.inl rfl) rfl rfl (Nat.le_of_ble_eq_true rfl) ?_
  conv => whnf
  refine br_nt H (fun c H => ?_) (fun c H => ?_)
  conv => whnf
  revert H; refine bind_elim (fun t2627 A H => ?_)
  refine call_mk (laws_eqClaimPartS.ac A) (avAL_cons (avA_shut' rfl) (avAL_cons (avA_shut' rfl) (avAL_nil))) (Or.inl rfl) rfl rfl (Nat.le_of_ble_eq_true rfl) ?_
  conv => whnf
  refine cut_ 216 [(2, .bp 0 0), (3, .bp 8 0), (28, .bool (!t2627))] [(0, .box [(sv_S_impl_ClaimFoe a0_0), (sv_S_impl_ClaimSpot a0_1), (sv_str a0_2), (sv_S_impl_ClaimPart a0_3), .int .i64 a0_4]), (8, .box [(sv_S_impl_ClaimFoe a1_0), (sv_S_impl_ClaimSpot a1_1), (sv_str a1_2), (sv_S_impl_ClaimPart a1_3), .int .i64 a1_4])] rfl ⟨.inl rfl, ⟨.inl rfl, ⟨.inl rfl, trivial⟩⟩⟩ ⟨rfl, ⟨rfl, trivial⟩⟩ ?_
  conv => whnf
  refine br_nt H (fun c H => ?_) (fun c H => ?_)
  conv => whnf
  refine br_nd H (fun c H => ?_) (fun c H => ?_)
  conv => whnf
  injection H with H; subst H
  exact ret_fz [] (rtA_eq rfl)
  conv => whnf
  injection H with H; subst H
  exact ret_fz [] (rtA_eq rfl)
  conv => whnf
  injection H with H; subst H
  exact ret_fz [] (rtA_eq rfl)
  conv => whnf
  injection H with H; subst H
  exact ret_fz [] (rtA_eq rfl)
  conv => whnf
  injection H with H; subst H
  exact ret_fz [] (rtA_eq rfl)
  conv => whnf
  refine cut_ 80 [(4, .bool false)] [] rfl ⟨.inl rfl, trivial⟩ trivial ?_
  conv => whnf
  injection H with H; subst H
  exact ret_fz [] (rtA_eq rfl)
theorem laws_FnExactClaimCode.ac {k : Nat} {a0_0 : List S_laws_ClaimFoe} {a0_1 : List S_laws_ClaimSpot} {a0_2 : List ByteArray} {a0_3 : List S_laws_ClaimPart} {a0_4 : Int} {a1_0 : Int} {a1_1 : Int} {a1_2 : List ByteArray} {a1_3 : List S_laws_ClaimUse} {a1_4 : List ByteArray} {a1_5 : List ByteArray} {r : Bool} (H : laws_FnExactClaimCode.f k a0_0 a0_1 a0_2 a0_3 a0_4 a1_0 a1_1 a1_2 a1_3 a1_4 a1_5 = some r) : ACalls Tryz.prog G 3 [] [.agg [(sv_S_laws_ClaimFoe a0_0), (sv_S_laws_ClaimSpot a0_1), (sv_str a0_2), (sv_S_laws_ClaimPart a0_3), .int .i64 a0_4], .agg [.int .i64 a1_0, .int .i64 a1_1, (sv_str a1_2), (sv_S_laws_ClaimUse a1_3), (sv_str a1_4), (sv_str a1_5)]] [] (.bool r) := by
  refine acalls_of tok hP Tryz.func3 rfl (by kernel_rfl) [.tmp 4] rfl (by kernel_rfl) (Nat.le_of_ble_eq_true rfl) (.l .n (.l .n (.l .n (.l (.c .n .n) (.l .n (.l .n (.c .n (.l .n (.l .n (.c .n (.l .n (.l .n (.l (.c .n .n) .n))))))))))))) rfl ?_
  unfold laws_FnExactClaimCode.f at H
  conv => whnf
  revert H; refine bind_elim (fun t2629 A H => ?_)
  refine call_mk (laws_szClaimBook.ac A) (avAL_cons (avA_agg (avL_cons (av_shut' rfl) (avL_cons (av_shut' rfl) (avL_cons (av_shut' rfl) (avL_cons (av_shut' rfl) (avL_cons (av_shut' rfl) (avL_nil))))))) (avAL_cons (avA_shut' rfl) (avAL_nil))) (Or.inl rfl) rfl rfl (Nat.le_of_ble_eq_true rfl) ?_
  conv => whnf
  refine cut_ 80 [(2, .bp 0 0), (3, .bp 8 0), (5, .int .i64 t2629), (14, .bool (decide (t2629 < 0)))] [(0, .box [(sv_S_laws_ClaimFoe a0_0), (sv_S_laws_ClaimSpot a0_1), (sv_str a0_2), (sv_S_laws_ClaimPart a0_3), .int .i64 a0_4]), (8, .box [.int .i64 a1_0, .int .i64 a1_1, (sv_str a1_2), (sv_S_laws_ClaimUse a1_3), (sv_str a1_4), (sv_str a1_5)])] rfl ⟨.inl rfl, ⟨.inl rfl, ⟨.inl rfl, ⟨.inl rfl, trivial⟩⟩⟩⟩ ⟨rfl, ⟨rfl, trivial⟩⟩ ?_
  conv => whnf
  refine br_d H (fun c H => ?_) (fun c H => ?_)
  conv => whnf
  injection H with H; subst H
  exact ret_fz [] (rtA_eq rfl)
  conv => whnf
  revert H; refine bind_elim (fun t2631 A H => ?_)
  refine call_mk (laws_szClaimWant.ac A) (avAL_cons (avA_agg (avL_cons (av_shut' rfl) (avL_cons (av_shut' rfl) (avL_cons (av_shut' rfl) (avL_cons (av_shut' rfl) (avL_cons (av_shut' rfl) (avL_cons (av_shut' rfl) (avL_nil)))))))) (avAL_cons (avA_shut' rfl) (avAL_nil))) (Or.inl rfl) rfl rfl (Nat.le_of_ble_eq_true rfl) ?_
  conv => whnf
  refine br_d H (fun c H => ?_) (fun c H => ?_)
  conv => whnf
  injection H with H; subst H
  exact ret_fz [] (rtA_eq rfl)
  conv => whnf
  revert H; refine bind_elim (fun t2635 A H => ?_)
  refine call_mk (laws_toClaimBook.ac A) (avAL_cons (avA_agg (avL_cons (av_shut' rfl) (avL_cons (av_shut' rfl) (avL_cons (av_shut' rfl) (avL_cons (av_shut' rfl) (avL_cons (av_shut' rfl) (avL_nil))))))) (avAL_nil)) (Or.inl rfl) rfl rfl (Nat.le_of_ble_eq_true rfl) ?_
  conv => whnf
  revert H; refine bind_elim (fun t2636 A H => ?_)
  refine call_mk (laws_toClaimWant.ac A) (avAL_cons (avA_agg (avL_cons (av_shut' rfl) (avL_cons (av_shut' rfl) (avL_cons (av_shut' rfl) (avL_cons (av_shut' rfl) (avL_cons (av_shut' rfl) (avL_cons (av_shut' rfl) (avL_nil)))))))) (avAL_nil)) (Or.inl rfl) rfl rfl (Nat.le_of_ble_eq_true rfl) ?_
  conv => whnf
  revert H; refine bind_elim (fun t2637 A H => ?_)
  refine call_mk (spec_ClaimCode.ac A) (avAL_cons (avA_agg (avL_cons (av_shut' rfl) (avL_cons (av_shut' rfl) (avL_cons (av_shut' rfl) (avL_cons (av_shut' rfl) (avL_cons (av_shut' rfl) (avL_nil))))))) (avAL_cons (avA_agg (avL_cons (av_shut' rfl) (avL_cons (av_shut' rfl) (avL_cons (av_shut' rfl) (avL_cons (av_shut' rfl) (avL_cons (av_shut' rfl) (avL_cons (av_shut' rfl) (avL_nil)))))))) (avAL_nil))) (Or.inl rfl) rfl rfl (Nat.le_of_ble_eq_true rfl) ?_
  conv => whnf
  refine cut_ 176 [(2, .bp 0 0), (3, .bp 8 0), (6, .int .i64 t2637)] [(0, .box [(sv_S_laws_ClaimFoe a0_0), (sv_S_laws_ClaimSpot a0_1), (sv_str a0_2), (sv_S_laws_ClaimPart a0_3), .int .i64 a0_4]), (8, .box [.int .i64 a1_0, .int .i64 a1_1, (sv_str a1_2), (sv_S_laws_ClaimUse a1_3), (sv_str a1_4), (sv_str a1_5)])] rfl ⟨.inl rfl, ⟨.inl rfl, ⟨.inl rfl, trivial⟩⟩⟩ ⟨rfl, ⟨rfl, trivial⟩⟩ ?_
  conv => whnf
  revert H; refine bind_elim (fun t2639 A H => ?_)
  refine call_mk (laws_toClaimBook.ac A) (avAL_cons (avA_agg (avL_cons (av_shut' rfl) (avL_cons (av_shut' rfl) (avL_cons (av_shut' rfl) (avL_cons (av_shut' rfl) (avL_cons (av_shut' rfl) (avL_nil))))))) (avAL_nil)) (Or.inl rfl) rfl rfl (Nat.le_of_ble_eq_true rfl) ?_
  conv => whnf
  revert H; refine bind_elim (fun t2641 A H => ?_)
  refine call_mk (laws_toClaimWant.ac A) (avAL_cons (avA_agg (avL_cons (av_shut' rfl) (avL_cons (av_shut' rfl) (avL_cons (av_shut' rfl) (avL_cons (av_shut' rfl) (avL_cons (av_shut' rfl) (avL_cons (av_shut' rfl) (avL_nil)))))))) (avAL_nil)) (Or.inl rfl) rfl rfl (Nat.le_of_ble_eq_true rfl) ?_
  conv => whnf
  revert H; refine bind_elim (fun t2643 A H => ?_)
  refine call_mk (impl_ClaimCode.ac A) (avAL_cons (avA_agg (avL_cons (av_shut' rfl) (avL_cons (av_shut' rfl) (avL_cons (av_shut' rfl) (avL_cons (av_shut' rfl) (avL_cons (av_shut' rfl) (avL_nil))))))) (avAL_cons (avA_agg (avL_cons (av_shut' rfl) (avL_cons (av_shut' rfl) (avL_cons (av_shut' rfl) (avL_cons (av_shut' rfl) (avL_cons (av_shut' rfl) (avL_cons (av_shut' rfl) (avL_nil)))))))) (avAL_nil))) (Or.inl rfl) rfl rfl (Nat.le_of_ble_eq_true rfl) ?_
  conv => whnf
  refine cut_ 272 [(2, .bp 0 0), (3, .bp 8 0), (6, .int .i64 t2637), (7, .bp 192 0), (8, .bp 224 0), (9, .int .i64 t2643)] [(0, .box [(sv_S_laws_ClaimFoe a0_0), (sv_S_laws_ClaimSpot a0_1), (sv_str a0_2), (sv_S_laws_ClaimPart a0_3), .int .i64 a0_4]), (8, .box [.int .i64 a1_0, .int .i64 a1_1, (sv_str a1_2), (sv_S_laws_ClaimUse a1_3), (sv_str a1_4), (sv_str a1_5)]), (192, .box [(sv_S_impl_ClaimFoe t2639.1), (sv_S_impl_ClaimSpot t2639.2.1), (sv_str t2639.2.2.1), (sv_S_impl_ClaimPart t2639.2.2.2.1), .int .i64 t2639.2.2.2.2]), (224, .box [.int .i64 t2641.1, .int .i64 t2641.2.1, (sv_str t2641.2.2.1), (sv_S_impl_ClaimUse t2641.2.2.2.1), (sv_str t2641.2.2.2.2.1), (sv_str t2641.2.2.2.2.2)])] rfl ⟨.inl rfl, ⟨.inl rfl, ⟨.inl rfl, ⟨.inl rfl, ⟨.inl rfl, ⟨.inl rfl, trivial⟩⟩⟩⟩⟩⟩ ⟨rfl, ⟨rfl, ⟨rfl, ⟨rfl, trivial⟩⟩⟩⟩ ?_
  conv => whnf
  refine br_nd H (fun c H => ?_) (fun c H => ?_)
  conv => whnf
  revert H; refine bind_elim (fun t2648 A H => ?_)
  refine call_mk (laws_toClaimBook.ac A) (avAL_cons (avA_agg (avL_cons (av_shut' rfl) (avL_cons (av_shut' rfl) (avL_cons (av_shut' rfl) (avL_cons (av_shut' rfl) (avL_cons (av_shut' rfl) (avL_nil))))))) (avAL_nil)) (Or.inl rfl) rfl rfl (Nat.le_of_ble_eq_true rfl) ?_
  conv => whnf
  revert H; refine bind_elim (fun t2649 A H => ?_)
  refine call_mk (laws_eqClaimBook.ac A) (avAL_cons (avA_agg (avL_cons (av_shut' rfl) (avL_cons (av_shut' rfl) (avL_cons (av_shut' rfl) (avL_cons (av_shut' rfl) (avL_cons (av_shut' rfl) (avL_nil))))))) (avAL_cons (avA_agg (avL_cons (av_shut' rfl) (avL_cons (av_shut' rfl) (avL_cons (av_shut' rfl) (avL_cons (av_shut' rfl) (avL_cons (av_shut' rfl) (avL_nil))))))) (avAL_nil))) (Or.inl rfl) rfl rfl (Nat.le_of_ble_eq_true rfl) ?_
  conv => whnf
  refine br_nt H (fun c H => ?_) (fun c H => ?_)
  conv => whnf
  revert H; refine bind_elim (fun t2654 A H => ?_)
  refine call_mk (laws_toClaimWant.ac A) (avAL_cons (avA_agg (avL_cons (av_shut' rfl) (avL_cons (av_shut' rfl) (avL_cons (av_shut' rfl) (avL_cons (av_shut' rfl) (avL_cons (av_shut' rfl) (avL_cons (av_shut' rfl) (avL_nil)))))))) (avAL_nil)) (Or.inl rfl) rfl rfl (Nat.le_of_ble_eq_true rfl) ?_
  conv => whnf
  revert H; refine bind_elim (fun t2655 A H => ?_)
  refine call_mk (laws_eqClaimWant.ac A) (avAL_cons (avA_agg (avL_cons (av_shut' rfl) (avL_cons (av_shut' rfl) (avL_cons (av_shut' rfl) (avL_cons (av_shut' rfl) (avL_cons (av_shut' rfl) (avL_cons (av_shut' rfl) (avL_nil)))))))) (avAL_cons (avA_agg (avL_cons (av_shut' rfl) (avL_cons (av_shut' rfl) (avL_cons (av_shut' rfl) (avL_cons (av_shut' rfl) (avL_cons (av_shut' rfl) (avL_cons (av_shut' rfl) (avL_nil)))))))) (avAL_nil))) (Or.inl rfl) rfl rfl (Nat.le_of_ble_eq_true rfl) ?_
  conv => whnf
  refine cut_ 376 [(44, .bool (!t2655))] [] rfl ⟨.inl rfl, trivial⟩ trivial ?_
  conv => whnf
  refine br_nt H (fun c H => ?_) (fun c H => ?_)
  conv => whnf
  injection H with H; subst H
  exact ret_fz [] (rtA_eq rfl)
  conv => whnf
  injection H with H; subst H
  exact ret_fz [] (rtA_eq rfl)
  conv => whnf
  injection H with H; subst H
  exact ret_fz [] (rtA_eq rfl)
  conv => whnf
  injection H with H; subst H
  exact ret_fz [] (rtA_eq rfl)

end Go.Proofs.YtamkmmkchdnkmaaGreat.CC

