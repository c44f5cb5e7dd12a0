import Derived.Test.YtamkmmkchdnkmaaZFnExactClaimShut2
import Derived.Test.YtamkmmkchdnkmaaProg
import Derived.KernelRfl
set_option linter.unusedVariables false
set_option linter.unusedSimpArgs false
namespace Go.Proofs.Ytamkmmkchdnkmaa.CH
open Go Go.Aw Go.RowKit Go.Proofs
set_option maxRecDepth 100000
set_option maxHeartbeats 40000000
variable {G : Nat → Option Obj}
attribute [local irreducible] callE Lp Sq Cut RetOk Fits
theorem laws_FnExactClaimShut.ac {k : Nat} {a0_0 : List S_laws_ClaimFoe} {a0_1 : List S_laws_ClaimSpot} {a0_2 : List ByteArray} {a0_3 : List S_laws_ClaimPart} {a0_4 : Int} {a1 : ByteArray} {r : Bool} (H : laws_FnExactClaimShut.f k a0_0 a0_1 a0_2 a0_3 a0_4 a1 = some r) : ACalls Try.prog G 9 [] [.agg [(sv_S_laws_ClaimFoe a0_0), (sv_S_laws_ClaimSpot a0_1), (sv_str a0_2), (sv_S_laws_ClaimPart a0_3), .int .i64 a0_4], .str a1] [] (.bool r) := by
  refine acalls_of tok hP Try.func9 rfl (by kernel_rfl) [.tmp 4] rfl (by kernel_rfl) (Nat.le_of_ble_eq_true rfl) (.l .n (.l .n (.l .n (.c .n (.l .n (.l .n (.c .n (.l .n (.l .n (.l (.c .n .n) (.l .n (.l .n (.l (.c .n (.l (.c .n .n) .n)) (.l .n (.l .n (.l .n (.c .n (.l .n (.l .n (.c .n (.l .n (.l .n (.l .n (.l (.c .n .n) .n)))))))))))))))))))))))) rfl ?_
  unfold laws_FnExactClaimShut.f at H
  conv => whnf
  refine br_d H (fun c H => ?_) (fun c H => ?_)
  conv => whnf
  injection H with H; subst H
  exact ret_fz [] (rtA_eq rfl)
  conv => whnf
  revert H; refine bind_elim (fun t2854 A H => ?_)
  refine call_mk (laws_szClaimBook.ac A) (avAL_cons (avA_agg (avL_cons (av_shut' rfl) (avL_cons (av_shut' rfl) (avL_cons (av_shut' rfl) (avL_cons (av_shut' rfl) (avL_cons (av_shut' rfl) (avL_nil))))))) (avAL_cons (avA_shut' rfl) (avAL_nil))) (Or.inl rfl) rfl rfl (Nat.le_of_ble_eq_true rfl) ?_
  conv => whnf
  refine cut_ 80 [(1, .str a1), (2, .bp 0 0), (5, .int .i64 t2854)] [(0, .box [(sv_S_laws_ClaimFoe a0_0), (sv_S_laws_ClaimSpot a0_1), (sv_str a0_2), (sv_S_laws_ClaimPart a0_3), .int .i64 a0_4])] rfl ⟨.inl rfl, ⟨.inl rfl, ⟨.inl rfl, trivial⟩⟩⟩ ⟨rfl, trivial⟩ ?_
  conv => whnf
  refine br_d H (fun c H => ?_) (fun c H => ?_)
  conv => whnf
  injection H with H; subst H
  exact ret_fz [] (rtA_eq rfl)
  conv => whnf
  revert H; refine bind_elim (fun t2857 A H => ?_)
  refine call_mk (laws_toClaimBook.ac A) (avAL_cons (avA_agg (avL_cons (av_shut' rfl) (avL_cons (av_shut' rfl) (avL_cons (av_shut' rfl) (avL_cons (av_shut' rfl) (avL_cons (av_shut' rfl) (avL_nil))))))) (avAL_nil)) (Or.inl rfl) rfl rfl (Nat.le_of_ble_eq_true rfl) ?_
  conv => whnf
  revert H; refine bind_elim (fun t2858 A H => ?_)
  refine call_mk (spec_ClaimShut.ac A) (avAL_cons (avA_agg (avL_cons (av_shut' rfl) (avL_cons (av_shut' rfl) (avL_cons (av_shut' rfl) (avL_cons (av_shut' rfl) (avL_cons (av_shut' rfl) (avL_nil))))))) (avAL_cons (avA_shut' rfl) (avAL_nil))) (Or.inl rfl) rfl rfl (Nat.le_of_ble_eq_true rfl) ?_
  conv => whnf
  revert H; refine bind_elim (fun t2860 A H => ?_)
  refine call_mk (laws_toClaimBook.acO A) (avAL_cons (avA_agg (avL_cons (av_shut' rfl) (avL_cons (av_shut' rfl) (avL_cons (av_shut' rfl) (avL_cons (av_shut' rfl) (avL_cons (av_shut' rfl) (avL_nil))))))) (avAL_nil)) (Or.inl rfl) rfl rfl (Nat.le_of_ble_eq_true rfl) ?_
  conv => whnf
  refine cut_ 168 [(1, .str a1), (2, .bp 0 0), (6, (sv_i64 t2858)), (7, .bp 152 0)] [(0, .box [(sv_S_laws_ClaimFoe a0_0), (sv_S_laws_ClaimSpot a0_1), (sv_str a0_2), (sv_S_laws_ClaimPart a0_3), .int .i64 a0_4]), (144, .arr 171 2 (t2860.1.map en_S_impl_ClaimFoe)), (145, .deep 150 5 [0, 0, 0, 0, 9] (t2860.2.1.map en_S_impl_ClaimSpot)), (146, .arr 9 1 (t2860.2.2.1.map en_str)), (147, .deep 156 7 [0, 0, 9, 231, 9, 9, 0] (t2860.2.2.2.1.map en_S_impl_ClaimPart)), (152, .box [.own 144 t2860.1.length, .own 145 t2860.2.1.length, .own 146 t2860.2.2.1.length, .own 147 t2860.2.2.2.1.length, .int .i64 t2860.2.2.2.2])] rfl ⟨.inl rfl, ⟨.inl rfl, ⟨.inl rfl, ⟨.inl rfl, trivial⟩⟩⟩⟩ ⟨rfl, ⟨rfl, ⟨rfl, ⟨rfl, ⟨rfl, ⟨rfl, trivial⟩⟩⟩⟩⟩⟩ ?_
  conv => whnf
  revert H; refine bind_elim (fun t2862 A H => ?_)
  refine call_mk (impl_ClaimShut.acO A) (avAL_cons (avA_agg (avL_cons (av_own rfl rfl) (avL_cons (av_dp rfl rfl lm_ lm_) (avL_cons (av_own rfl rfl) (avL_cons (av_dp rfl rfl lm_ lm_) (avL_cons (av_shut' rfl) (avL_nil))))))) (avAL_cons (avA_shut' rfl) (avAL_nil))) (Or.inr ⟨rfl, bo_cons (bo_arr bare_en_i64) (bo_nil)⟩) rfl rfl (Nat.le_of_ble_eq_true rfl) ?_
  conv => whnf
  revert H; refine bind_elim (fun t2865 A H => ?_)
  refine call_mk (laws_eqIntS.ac A) (avAL_cons (avA_own rfl rfl) (avAL_cons (avA_shut' rfl) (avAL_nil))) (Or.inr ⟨rfl, bo_nil⟩) rfl rfl (Nat.le_of_ble_eq_true rfl) ?_
  conv => whnf
  refine br_nt H (fun c H => ?_) (fun c H => ?_)
  conv => whnf
  revert H; refine bind_elim (fun t2870 A H => ?_)
  refine call_mk (laws_toClaimBook.ac A) (avAL_cons (avA_agg (avL_cons (av_shut' rfl) (avL_cons (av_shut' rfl) (avL_cons (av_shut' rfl) (avL_cons (av_shut' rfl) (avL_cons (av_shut' rfl) (avL_nil))))))) (avAL_nil)) (Or.inl rfl) rfl rfl (Nat.le_of_ble_eq_true rfl) ?_
  conv => whnf
  revert H; refine bind_elim (fun t2871 A H => ?_)
  refine call_mk (laws_eqClaimBook.ac A) (avAL_cons (avA_agg (avL_cons (av_own rfl rfl) (avL_cons (av_dp rfl rfl lm_ lm_) (avL_cons (av_own rfl rfl) (avL_cons (av_dp rfl rfl lm_ lm_) (avL_cons (av_shut' rfl) (avL_nil))))))) (avAL_cons (avA_agg (avL_cons (av_shut' rfl) (avL_cons (av_shut' rfl) (avL_cons (av_shut' rfl) (avL_cons (av_shut' rfl) (avL_cons (av_shut' rfl) (avL_nil))))))) (avAL_nil))) (Or.inr ⟨rfl, bo_nil⟩) rfl rfl (Nat.le_of_ble_eq_true rfl) ?_
  conv => whnf
  refine cut_ 272 [(1, .str a1), (2, .bp 0 0), (6, (sv_i64 t2858)), (7, .bp 152 0), (8, .own 184 t2862.length), (38, .bool (!t2871))] [(0, .box [(sv_S_laws_ClaimFoe a0_0), (sv_S_laws_ClaimSpot a0_1), (sv_str a0_2), (sv_S_laws_ClaimPart a0_3), .int .i64 a0_4]), (144, .arr 171 2 (t2860.1.map en_S_impl_ClaimFoe)), (145, .deep 150 5 [0, 0, 0, 0, 9] (t2860.2.1.map en_S_impl_ClaimSpot)), (146, .arr 9 1 (t2860.2.2.1.map en_str)), (147, .deep 156 7 [0, 0, 9, 231, 9, 9, 0] (t2860.2.2.2.1.map en_S_impl_ClaimPart)), (152, .box [.own 144 t2860.1.length, .own 145 t2860.2.1.length, .own 146 t2860.2.2.1.length, .own 147 t2860.2.2.2.1.length, .int .i64 t2860.2.2.2.2]), (184, .arr 3 1 (t2862.map en_i64))] rfl ⟨.inl rfl, ⟨.inl rfl, ⟨.inl rfl, ⟨.inl rfl, ⟨.inl rfl, ⟨.inl rfl, trivial⟩⟩⟩⟩⟩⟩ ⟨rfl, ⟨rfl, ⟨rfl, ⟨rfl, ⟨rfl, ⟨rfl, ⟨rfl, trivial⟩⟩⟩⟩⟩⟩⟩ ?_
  conv => whnf
  refine br_nt H (fun c H => ?_) (fun c H => ?_)
  conv => whnf
  revert H; refine bind_elim (fun t2873 A H => ?_)
  refine call_mk2 [144, 145, 146, 147] (laws_markClaimBook.ac A) ⟨rfl, ⟨rfl, ⟨rfl, ⟨rfl, trivial⟩⟩⟩⟩ rfl rfl rfl rfl rfl rfl rfl rfl ?_
  conv => whnf
  refine br_d H (fun c H => ?_) (fun c H => ?_)
  conv => whnf
  refine Br.t ft_ ?_
  conv => whnf
  refine Br.t ft_ ?_
  conv => whnf
  refine Br.t ft_ ?_
  conv => whnf
  refine Br.t ft_ ?_
  conv => whnf
  refine cut_ 376 [(1, .str a1), (2, .bp 0 0), (6, (sv_i64 t2858)), (8, .own 184 t2862.length), (49, .bool true)] [(0, .box [(sv_S_laws_ClaimFoe a0_0), (sv_S_laws_ClaimSpot a0_1), (sv_str a0_2), (sv_S_laws_ClaimPart a0_3), .int .i64 a0_4]), (184, .arr 3 1 (t2862.map en_i64))] rfl ⟨.inl rfl, ⟨.inl rfl, ⟨.inl rfl, ⟨.inl rfl, ⟨.inl rfl, trivial⟩⟩⟩⟩⟩ ⟨rfl, ⟨rfl, trivial⟩⟩ ?_
  conv => whnf
  refine Br.t rfl ?_
  conv => whnf
  refine cut_ 384 [(4, .bool false)] [] rfl ⟨.inl rfl, trivial⟩ trivial ?_
  conv => whnf
  injection H with H; subst H
  exact ret_fz [] (rtA_eq rfl)
  conv => whnf
  refine Br.f ff_ ?_
  conv => whnf
  refine Br.f ff_ ?_
  conv => whnf
  revert H; refine bind_elim (fun t2876 A H => ?_)
  refine call_mk (laws_eqIntS.ac A) (avAL_cons (avA_own rfl rfl) (avAL_cons (avA_shut' rfl) (avAL_nil))) (Or.inr ⟨rfl, bo_nil⟩) rfl rfl (Nat.le_of_ble_eq_true rfl) ?_
  conv => whnf
  refine Br.f ff_ ?_
  conv => whnf
  refine Br.f ff_ ?_
  conv => whnf
  refine cut_ 376 [(1, .str a1), (2, .bp 0 0), (6, (sv_i64 t2858)), (8, .own 184 t2862.length), (49, .bool (!t2876))] [(0, .box [(sv_S_laws_ClaimFoe a0_0), (sv_S_laws_ClaimSpot a0_1), (sv_str a0_2), (sv_S_laws_ClaimPart a0_3), .int .i64 a0_4]), (184, .arr 3 1 (t2862.map en_i64))] rfl ⟨.inl rfl, ⟨.inl rfl, ⟨.inl rfl, ⟨.inl rfl, ⟨.inl rfl, trivial⟩⟩⟩⟩⟩ ⟨rfl, ⟨rfl, trivial⟩⟩ ?_
  conv => whnf
  refine br_nt H (fun c H => ?_) (fun c H => ?_)
  conv => whnf
  revert H; refine bind_elim (fun t2878 A H => ?_)
  refine call_mk2 [184] (laws_markIntS.ac A) ⟨rfl, trivial⟩ rfl rfl rfl rfl rfl rfl rfl rfl ?_
  conv => whnf
  revert H; refine bind_elim (fun t2880 A H => ?_)
  refine call_mk (laws_heldIntS.ac A) (avAL_cons (avA_ownX rfl rfl lm_ lm_) (avAL_cons (avA_shut' rfl) (avAL_nil))) (Or.inr ⟨rfl, bo_nil⟩) rfl rfl (Nat.le_of_ble_eq_true rfl) ?_
  conv => whnf
  refine cut_ 456 [(1, .str a1), (2, .bp 0 0), (6, (sv_i64 t2858)), (8, .own 184 t2862.length), (10, .int .i64 t2878.1), (11, .int .i64 t2880)] [(0, .box [(sv_S_laws_ClaimFoe a0_0), (sv_S_laws_ClaimSpot a0_1), (sv_str a0_2), (sv_S_laws_ClaimPart a0_3), .int .i64 a0_4]), (184, .arr 3 1 (t2878.2.map en_i64))] rfl ⟨.inl rfl, ⟨.inl rfl, ⟨.inl rfl, ⟨.inl rfl, ⟨.inl rfl, ⟨.inl rfl, trivial⟩⟩⟩⟩⟩⟩ ⟨rfl, ⟨rfl, trivial⟩⟩ ?_
  conv => whnf
  refine br_d H (fun c H => ?_) (fun c H => ?_)
  conv => whnf
  injection H with H; subst H
  exact ret_fz [] (rtA_eq rfl)
  conv => whnf
  refine br_nd H (fun c H => ?_) (fun c H => ?_)
  conv => whnf
  revert H; refine bind_elim (fun t2883 A H => ?_)
  refine call_mk (laws_toClaimBook.ac A) (avAL_cons (avA_agg (avL_cons (av_shut' rfl) (avL_cons (av_shut' rfl) (avL_cons (av_shut' rfl) (avL_cons (av_shut' rfl) (avL_cons (av_shut' rfl) (avL_nil))))))) (avAL_nil)) (Or.inl rfl) rfl rfl (Nat.le_of_ble_eq_true rfl) ?_
  conv => whnf
  revert H; refine bind_elim (fun t2884 A H => ?_)
  refine call_mk (impl_ClaimShut.ac A) (avAL_cons (avA_agg (avL_cons (av_shut' rfl) (avL_cons (av_shut' rfl) (avL_cons (av_shut' rfl) (avL_cons (av_shut' rfl) (avL_cons (av_shut' rfl) (avL_nil))))))) (avAL_cons (avA_shut' rfl) (avAL_nil))) (Or.inl rfl) rfl rfl (Nat.le_of_ble_eq_true rfl) ?_
  conv => whnf
  refine cut_ 536 [(6, (sv_i64 t2858)), (8, .own 184 t2862.length), (10, .int .i64 t2878.1), (12, (sv_i64 t2884))] [(184, .arr 3 1 (t2878.2.map en_i64))] rfl ⟨.inl rfl, ⟨.inl rfl, ⟨.inl rfl, ⟨.inl rfl, trivial⟩⟩⟩⟩ ⟨rfl, trivial⟩ ?_
  conv => whnf
  revert H; refine bind_elim (fun t2887 A H => ?_)
  refine call_mk (laws_eqIntS.ac A) (avAL_cons (avA_shut' rfl) (avAL_cons (avA_shut' rfl) (avAL_nil))) (Or.inl rfl) rfl rfl (Nat.le_of_ble_eq_true rfl) ?_
  conv => whnf
  refine br_nt H (fun c H => ?_) (fun c H => ?_)
  conv => whnf
  revert H; refine bind_elim (fun t2889 A H => ?_)
  refine call_mk (laws_heldIntS.ac A) (avAL_cons (avA_ownX rfl rfl lm_ lm_) (avAL_cons (avA_shut' rfl) (avAL_nil))) (Or.inr ⟨rfl, bo_nil⟩) rfl rfl (Nat.le_of_ble_eq_true rfl) ?_
  conv => whnf
  refine cut_ 624 [(10, .int .i64 t2878.1), (11, .int .i64 t2889), (73, .bool (decide (t2889 < 0)))] [] rfl ⟨.inl rfl, ⟨.inl rfl, ⟨.inl rfl, trivial⟩⟩⟩ trivial ?_
  conv => whnf
  refine br_d H (fun c H => ?_) (fun c H => ?_)
  conv => whnf
  injection H with H; subst H
  exact ret_fz [] (rtA_eq rfl)
  conv => whnf
  refine br_nd H (fun c H => ?_) (fun c H => ?_)
  conv => whnf
  injection H with H; subst H
  exact ret_fz [] (rtA_eq rfl)
  conv => whnf
  injection H with H; subst H
  exact ret_fz [] (rtA_eq rfl)
  conv => whnf
  injection H with H; subst H
  exact ret_fz [] (rtA_eq rfl)
  conv => whnf
  injection H with H; subst H
  exact ret_fz [] (rtA_eq rfl)
  conv => whnf
  refine cut_ 384 [(4, .bool false)] [] rfl ⟨.inl rfl, trivial⟩ trivial ?_
  conv => whnf
  injection H with H; subst H
  exact ret_fz [] (rtA_eq rfl)
  conv => whnf
  injection H with H; subst H
  exact ret_fz [] (rtA_eq rfl)
  conv => whnf
  injection H with H; subst H
  exact ret_fz [] (rtA_eq rfl)

end Go.Proofs.Ytamkmmkchdnkmaa.CH

