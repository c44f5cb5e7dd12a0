import Derived.Test.YtamkmmkchdnkmaaZFnExactClaimShut1
import Derived.Test.YtamkmmkchdnkmaaProg
import Derived.KernelRfl
set_option linter.unusedVariables false
set_option linter.unusedSimpArgs false
namespace Go.Proofs.Ytamkmmkchdnkmaa.CH
open Go Go.Aw Go.RowKit Go.Proofs
set_option maxRecDepth 100000
set_option maxHeartbeats 40000000
variable {G : Nat → Option Obj}
attribute [local irreducible] callE Lp Sq Cut RetOk Fits
theorem spec_ClaimShut.ac {k : Nat} {a0_0 : List S_impl_ClaimFoe} {a0_1 : List S_impl_ClaimSpot} {a0_2 : List ByteArray} {a0_3 : List S_impl_ClaimPart} {a0_4 : Int} {a1 : ByteArray} {r : List Int} (H : spec_ClaimShut.f k a0_0 a0_1 a0_2 a0_3 a0_4 a1 = some r) : ACalls Try.prog G 35 [] [.agg [(sv_S_impl_ClaimFoe a0_0), (sv_S_impl_ClaimSpot a0_1), (sv_str a0_2), (sv_S_impl_ClaimPart a0_3), .int .i64 a0_4], .str a1] [] ((sv_i64 r)) := by
  refine acalls_of tok hP Try.func35 rfl (by kernel_rfl) [.tmp 4] rfl (by kernel_rfl) (Nat.le_of_ble_eq_true rfl) (.l .n (.l .n (.l .n (.l (.l .n (.l (.c .n .n) (.c .n .n))) .n)))) rfl ?_
  unfold spec_ClaimShut.f at H
  conv => whnf
  refine Or.inl ?_
  conv => whnf
  revert H; refine bind_elim (fun t683 A H => ?_)
  refine call_mk (spec_ClaimBookOk.ac A) (avAL_cons (avA_agg (avL_cons (av_shut' rfl) (avL_cons (av_shut' rfl) (avL_cons (av_shut' rfl) (avL_cons (av_shut' rfl) (avL_cons (av_shut' rfl) (avL_nil))))))) (avAL_nil)) (Or.inl rfl) rfl rfl (Nat.le_of_ble_eq_true rfl) ?_
  conv => whnf
  refine br_nt H (fun c H => ?_) (fun c H => ?_)
  conv => whnf
  refine spec_ClaimShut.l0_lp (a0_3 := a0_3) (a1 := a1) (k := k) H [some 16] (fits_of ⟨mt_own lm_, ⟨.inl ⟨rfl, rfl⟩, trivial⟩⟩ ⟨fm_, trivial⟩ fi_ trivial rfl) ?_
  intro k x5 x6 hk H; rcases k with _ | k; exact none_elim H; rw [spec_ClaimShut.l0] at H; conv => whnf
  refine cut_ 105 [(1, .str a1), (2, .bp 0 0), (5, .own 64 x5.length), (6, .int .i64 x6), (16, .bool (decide (x6 < (a0_3.length : Int))))] [(0, .box [(sv_S_impl_ClaimFoe a0_0), (sv_S_impl_ClaimSpot a0_1), (sv_str a0_2), (sv_S_impl_ClaimPart a0_3), .int .i64 a0_4]), (64, .arr 3 1 (x5.map en_i64))] rfl ⟨.inl rfl, ⟨.inl rfl, ⟨.inl rfl, ⟨.inl rfl, ⟨.inl rfl, trivial⟩⟩⟩⟩⟩ ⟨rfl, ⟨rfl, trivial⟩⟩ ?_
  conv => whnf
  refine br_d H (fun c H => ?_) (fun c H => ?_)
  conv => whnf
  refine nd_ H (fun c H => ?_)
  conv => whnf
  refine Nd.mk nf_ ?_
  conv => whnf
  refine El.mk (rdm_en_S_impl_ClaimPart _ _ nf_ nf_) ?_
  conv => whnf
  revert H; refine bind_elim (fun t689 A H => ?_)
  refine call_mk (spec_l21Has.ac A) (avAL_cons (avA_shut' rfl) (avAL_cons (avA_shut' rfl) (avAL_nil))) (Or.inl rfl) rfl rfl (Nat.le_of_ble_eq_true rfl) ?_
  conv => whnf
  refine br_t H (fun c H => ?_) (fun c H => ?_)
  conv => whnf
  refine Nd.mk nf_ ?_
  conv => whnf
  refine Nd.mk nf_ ?_
  conv => whnf
  refine El.mk (rdm_en_S_impl_ClaimPart _ _ nf_ nf_) ?_
  conv => whnf
  refine Or.inl ?_
  conv => whnf
  refine nd_ H (fun c H => ?_)
  conv => whnf
  refine cut_ 265 [(1, .str a1), (2, .bp 0 0), (5, .own 249 (x5.length + 1)), (6, .int .i64 x6)] [(0, .box [(sv_S_impl_ClaimFoe a0_0), (sv_S_impl_ClaimSpot a0_1), (sv_str a0_2), (sv_S_impl_ClaimPart a0_3), .int .i64 a0_4]), (249, .arr 3 1 ((x5 ++ ([((rd_impl_ClaimPart a0_3 x6).f0).f0] : List Int)).map en_i64))] rfl ⟨.inl rfl, ⟨.inl rfl, ⟨.inl rfl, ⟨.inl rfl, trivial⟩⟩⟩⟩ ⟨rfl, ⟨fm_, trivial⟩⟩ ?_
  conv => whnf
  exact ⟨(k, (x5 ++ ([((rd_impl_ClaimPart a0_3 x6).f0).f0] : List Int)), wrap64 (x6 + 1)), [some 249], ⟨H, lt_⟩, lt_, (fits_of ⟨mt_own lm_, ⟨.inl ⟨rfl, rfl⟩, trivial⟩⟩ ⟨rfl, trivial⟩ fi_ trivial rfl)⟩
  conv => whnf
  refine cut_ 177 [(1, .str a1), (2, .bp 0 0), (5, .own 64 x5.length), (6, .int .i64 x6)] [(0, .box [(sv_S_impl_ClaimFoe a0_0), (sv_S_impl_ClaimSpot a0_1), (sv_str a0_2), (sv_S_impl_ClaimPart a0_3), .int .i64 a0_4]), (64, .arr 3 1 (x5.map en_i64))] rfl ⟨.inl rfl, ⟨.inl rfl, ⟨.inl rfl, ⟨.inl rfl, trivial⟩⟩⟩⟩ ⟨rfl, ⟨rfl, trivial⟩⟩ ?_
  conv => whnf
  exact ⟨(k, x5, wrap64 (x6 + 1)), [some 64], ⟨H, lt_⟩, lt_, (fits_of ⟨rfl, ⟨.inl ⟨rfl, rfl⟩, trivial⟩⟩ ⟨rfl, trivial⟩ fi_ trivial rfl)⟩
  conv => whnf
  injection H with H; subst H
  exact ret_fz [64] (rtA_fz' rfl rfl)
  conv => whnf
  injection H with H; subst H
  exact ret_fz [16] (rtA_fzD rfl lm_ lm_ rfl)
theorem impl_ClaimBook_pairs.l0_lp {F : (Exit → St → Prop) → St → Prop} {hv : List Tmp} {Q : Exit → St → Prop} {σ : St} {r : List S_A2_string} {k : Nat} {a0_0 : List S_impl_ClaimFoe} {x2 : List S_A2_string} {x8 : Int} (H : impl_ClaimBook_pairs.l0 k a0_0 x2 x8 = some r) (rn : List (Option Nat)) (h1 : Fits σ σ [0] [(2, .own 0 x2.length), (8, .int .i64 x8)] [] [.arr 205 2 (x2.map en_S_A2_string)] rn)
    (h2 : ∀ (k0 : Nat) (x2 : List S_A2_string) (x8 : Int), k0 < k + 1 → impl_ClaimBook_pairs.l0 k0 a0_0 x2 x8 = some r → headN σ hv [0] [(2, .own 0 x2.length), (8, .int .i64 x8)] [] [.arr 205 2 (x2.map en_S_A2_string)] (F (fun e σ' => match e with | .normal => ∃ (y : Nat × (List S_A2_string) × Int) (rn : List (Option Nat)), (impl_ClaimBook_pairs.l0 y.1 a0_0 y.2.1 y.2.2 = some r ∧ y.1 < k + 1) ∧ y.1 < k0 ∧ Fits σ σ' [0] [(2, .own 0 y.2.1.length), (8, .int .i64 y.2.2)] [] [.arr 205 2 (y.2.1.map en_S_A2_string)] rn | e => Q e σ'))) : Lp F hv Q σ := by
  unfold Lp
  refine ⟨Nat × (List S_A2_string) × Int, fun x => impl_ClaimBook_pairs.l0 x.1 a0_0 x.2.1 x.2.2 = some r ∧ x.1 < k + 1, fun x => x.1, [0], fun x => [(2, .own 0 x.2.1.length), (8, .int .i64 x.2.2)], fun x => [], fun x => [.arr 205 2 (x.2.1.map en_S_A2_string)], ⟨(k, x2, x8), rn, ⟨H, Nat.lt_succ_self _⟩, h1⟩, ?_⟩
  rintro ⟨k, x2, x8⟩ ⟨H, hk⟩
  exact h2 k x2 x8 hk H
theorem impl_ClaimBook_pairs.ac {k : Nat} {a0_0 : List S_impl_ClaimFoe} {a0_1 : List S_impl_ClaimSpot} {a0_2 : List ByteArray} {a0_3 : List S_impl_ClaimPart} {a0_4 : Int} {r : List S_A2_string} (H : impl_ClaimBook_pairs.f k a0_0 a0_1 a0_2 a0_3 a0_4 = some r) : ACalls Try.prog G 102 [] [.agg [(sv_S_impl_ClaimFoe a0_0), (sv_S_impl_ClaimSpot a0_1), (sv_str a0_2), (sv_S_impl_ClaimPart a0_3), .int .i64 a0_4]] [] ((sv_S_A2_string r)) := by
  refine acalls_of tok hP Try.func102 rfl (by kernel_rfl) [.tmp 2] rfl (by kernel_rfl) (Nat.le_of_ble_eq_true rfl) (.l .n (.l (.l .n (.l .n (.l .n (.l (.c .n .n) .n)))) .n)) rfl ?_
  unfold impl_ClaimBook_pairs.f at H
  conv => whnf
  refine impl_ClaimBook_pairs.l0_lp (a0_0 := a0_0) (k := k) H [none] (fits_of ⟨⟨rfl, rfl⟩, ⟨.inl ⟨rfl, rfl⟩, trivial⟩⟩ ⟨rfl, trivial⟩ fi_ trivial rfl) ?_
  intro k x2 x8 hk H; rcases k with _ | k; exact none_elim H; rw [impl_ClaimBook_pairs.l0] at H; conv => whnf
  refine br_d H (fun c H => ?_) (fun c H => ?_)
  conv => whnf
  refine nd_ H (fun c H => ?_)
  conv => whnf
  refine Nd.mk nf_ ?_
  conv => whnf
  refine El.mk (rdm_en_S_impl_ClaimFoe _ _ nf_ nf_) ?_
  conv => whnf
  refine cut_ 89 [(2, .own 48 x2.length), (4, .bp 73 0), (6, (sv_S_impl_ClaimFoe a0_0)), (7, .int .i64 (a0_0.length : Int)), (8, .int .i64 x8)] [(48, .arr 205 2 (x2.map en_S_A2_string)), (73, .box [.str ((rd_impl_ClaimFoe a0_0 x8).f0), .str ((rd_impl_ClaimFoe a0_0 x8).f1)])] rfl ⟨.inl rfl, ⟨.inl rfl, ⟨.inl rfl, ⟨.inl rfl, ⟨.inl rfl, trivial⟩⟩⟩⟩⟩ ⟨rfl, ⟨rfl, trivial⟩⟩ ?_
  conv => whnf
  refine Or.inl ?_
  conv => whnf
  refine nd_ H (fun c H => ?_)
  conv => whnf
  exact ⟨(k, (x2 ++ ([(⟨(rd_impl_ClaimFoe a0_0 x8).f0, (rd_impl_ClaimFoe a0_0 x8).f1⟩ : S_A2_string)] : List S_A2_string)), wrap64 (x8 + 1)), [some 145], ⟨H, lt_⟩, lt_, (fits_of ⟨mt_own lm_, ⟨.inl ⟨rfl, rfl⟩, trivial⟩⟩ ⟨fm_, trivial⟩ fi_ trivial rfl)⟩
  conv => whnf
  injection H with H; subst H
  exact ret_fz [48] (rtA_fz' rfl rfl)
theorem impl_isName.l0_lp {F : (Exit → St → Prop) → St → Prop} {hv : List Tmp} {Q : Exit → St → Prop} {σ : St} {r : Bool} {k : Nat} {a0 : ByteArray} {x7 : Int} (H : impl_isName.l0 k a0 x7 = some r) (rn : List (Option Nat)) (h1 : Fits σ σ [] [(7, .int .i64 x7)] [] [] rn)
    (h2 : ∀ (k0 : Nat) (x7 : Int), k0 < k + 1 → impl_isName.l0 k0 a0 x7 = some r → headN σ hv [] [(7, .int .i64 x7)] [] [] (F (fun e σ' => match e with | .normal => ∃ (y : Nat × Int) (rn : List (Option Nat)), (impl_isName.l0 y.1 a0 y.2 = some r ∧ y.1 < k + 1) ∧ y.1 < k0 ∧ Fits σ σ' [] [(7, .int .i64 y.2)] [] [] rn | e => Q e σ'))) : Lp F hv Q σ := by
  unfold Lp
  refine ⟨Nat × Int, fun x => impl_isName.l0 x.1 a0 x.2 = some r ∧ x.1 < k + 1, fun x => x.1, [], fun x => [(7, .int .i64 x.2)], fun x => [], fun x => [], ⟨(k, x7), rn, ⟨H, Nat.lt_succ_self _⟩, h1⟩, ?_⟩
  rintro ⟨k, x7⟩ ⟨H, hk⟩
  exact h2 k x7 hk H
theorem impl_isName.ac {k : Nat} {a0 : ByteArray} {r : Bool} (H : impl_isName.f k a0 = some r) : ACalls Try.prog G 71 [] [.str a0] [] (.bool r) := by
  refine acalls_of tok hP Try.func71 rfl (by kernel_rfl) [.tmp 2] rfl (by kernel_rfl) (Nat.le_of_ble_eq_true rfl) (.l .n (.l (.l .n (.l .n (.l .n (.l (.l .n (.c .n (.c .n (.l (.c .n .n) .n)))) .n)))) (.c .n .n))) rfl ?_
  unfold impl_isName.f at H
  conv => whnf
  refine impl_isName.l0_lp (a0 := a0) (k := k) H [] (fits_of ⟨.inl ⟨rfl, rfl⟩, trivial⟩ trivial fi_ trivial rfl) ?_
  intro k x7 hk H; rcases k with _ | k; exact none_elim H; rw [impl_isName.l0] at H; conv => whnf
  refine br_d H (fun c H => ?_) (fun c H => ?_)
  conv => whnf
  refine nd_ H (fun c H => ?_)
  conv => whnf
  refine Nd.mk nf_ ?_
  conv => whnf
  refine cut_ 88 [(0, .str a0), (4, .int .u8 (bt a0 x7)), (6, .int .i64 (a0.size : Int)), (7, .int .i64 x7)] [] rfl ⟨.inl rfl, ⟨.inl rfl, ⟨.inl rfl, ⟨.inl rfl, trivial⟩⟩⟩⟩ trivial ?_
  conv => whnf
  refine br_d H (fun c H => ?_) (fun c H => ?_)
  conv => whnf
  refine Br.t ft_ ?_
  conv => whnf
  refine Br.t ft_ ?_
  conv => whnf
  refine Br.t rfl ?_
  conv => whnf
  refine Br.t rfl ?_
  conv => whnf
  refine Br.t rfl ?_
  conv => whnf
  refine br_d H (fun c H => ?_) (fun c H => ?_)
  conv => whnf
  refine Br.t ft_ ?_
  conv => whnf
  refine Br.t rfl ?_
  conv => whnf
  refine Br.t ft_ ?_
  conv => whnf
  refine Br.t rfl ?_
  conv => whnf
  refine Br.t rfl ?_
  conv => whnf
  refine Br.t rfl ?_
  conv => whnf
  refine Br.t rfl ?_
  conv => whnf
  refine cut_ 232 [(0, .str a0), (6, .int .i64 (a0.size : Int)), (7, .int .i64 x7), (30, .bool (!(decide ((bt a0 x7) = 45))))] [] rfl ⟨.inl rfl, ⟨.inl rfl, ⟨.inl rfl, ⟨.inl rfl, trivial⟩⟩⟩⟩ trivial ?_
  conv => whnf
  refine br_nd H (fun c H => ?_) (fun c H => ?_)
  conv => whnf
  exact ⟨(k, wrap64 (x7 + 1)), [], ⟨H, lt_⟩, lt_, (fits_of ⟨.inl ⟨rfl, rfl⟩, trivial⟩ trivial fi_ trivial rfl)⟩
  conv => whnf
  refine cut_ 240 [(2, .bool false)] [] rfl ⟨.inl rfl, trivial⟩ trivial ?_
  conv => whnf
  injection H with H; subst H
  exact ret_fz [] (rtA_eq rfl)
  conv => whnf
  refine Br.f ff_ ?_
  conv => whnf
  refine Br.t rfl ?_
  conv => whnf
  refine Br.f ff_ ?_
  conv => whnf
  refine Br.t rfl ?_
  conv => whnf
  refine br_d H (fun c H => ?_) (fun c H => ?_)
  conv => whnf
  refine Br.t ft_ ?_
  conv => whnf
  refine Br.t ft_ ?_
  conv => whnf
  refine cut_ 232 [(0, .str a0), (6, .int .i64 (a0.size : Int)), (7, .int .i64 x7), (30, .bool (!(decide ((bt a0 x7) = 45))))] [] rfl ⟨.inl rfl, ⟨.inl rfl, ⟨.inl rfl, ⟨.inl rfl, trivial⟩⟩⟩⟩ trivial ?_
  conv => whnf
  refine br_nd H (fun c H => ?_) (fun c H => ?_)
  conv => whnf
  exact ⟨(k, wrap64 (x7 + 1)), [], ⟨H, lt_⟩, lt_, (fits_of ⟨.inl ⟨rfl, rfl⟩, trivial⟩ trivial fi_ trivial rfl)⟩
  conv => whnf
  refine cut_ 240 [(2, .bool false)] [] rfl ⟨.inl rfl, trivial⟩ trivial ?_
  conv => whnf
  injection H with H; subst H
  exact ret_fz [] (rtA_eq rfl)
  conv => whnf
  refine Br.f ff_ ?_
  conv => whnf
  refine Br.f ff_ ?_
  conv => whnf
  refine cut_ 232 [(0, .str a0), (6, .int .i64 (a0.size : Int)), (7, .int .i64 x7), (30, .bool false)] [] rfl ⟨.inl rfl, ⟨.inl rfl, ⟨.inl rfl, ⟨.inl rfl, trivial⟩⟩⟩⟩ trivial ?_
  conv => whnf
  refine Br.f rfl ?_
  conv => whnf
  exact ⟨(k, wrap64 (x7 + 1)), [], ⟨H, lt_⟩, lt_, (fits_of ⟨.inl ⟨rfl, rfl⟩, trivial⟩ trivial fi_ trivial rfl)⟩
  conv => whnf
  refine Br.f ff_ ?_
  conv => whnf
  refine Br.f ff_ ?_
  conv => whnf
  refine br_d H (fun c H => ?_) (fun c H => ?_)
  conv => whnf
  refine Br.t ft_ ?_
  conv => whnf
  refine Br.t ft_ ?_
  conv => whnf
  refine br_d H (fun c H => ?_) (fun c H => ?_)
  conv => whnf
  refine Br.t ft_ ?_
  conv => whnf
  refine Br.t ft_ ?_
  conv => whnf
  refine Br.t ft_ ?_
  conv => whnf
  refine Br.t ft_ ?_
  conv => whnf
  refine Br.t rfl ?_
  conv => whnf
  refine Br.t rfl ?_
  conv => whnf
  refine Br.t rfl ?_
  conv => whnf
  refine cut_ 232 [(0, .str a0), (6, .int .i64 (a0.size : Int)), (7, .int .i64 x7), (30, .bool (!(decide ((bt a0 x7) = 45))))] [] rfl ⟨.inl rfl, ⟨.inl rfl, ⟨.inl rfl, ⟨.inl rfl, trivial⟩⟩⟩⟩ trivial ?_
  conv => whnf
  refine br_nd H (fun c H => ?_) (fun c H => ?_)
  conv => whnf
  exact ⟨(k, wrap64 (x7 + 1)), [], ⟨H, lt_⟩, lt_, (fits_of ⟨.inl ⟨rfl, rfl⟩, trivial⟩ trivial fi_ trivial rfl)⟩
  conv => whnf
  refine cut_ 240 [(2, .bool false)] [] rfl ⟨.inl rfl, trivial⟩ trivial ?_
  conv => whnf
  injection H with H; subst H
  exact ret_fz [] (rtA_eq rfl)
  conv => whnf
  refine Br.f ff_ ?_
  conv => whnf
  refine Br.t ft_ ?_
  conv => whnf
  refine Br.f ff_ ?_
  conv => whnf
  refine Br.t ft_ ?_
  conv => whnf
  refine br_d H (fun c H => ?_) (fun c H => ?_)
  conv => whnf
  refine Br.t ft_ ?_
  conv => whnf
  refine Br.t ft_ ?_
  conv => whnf
  refine cut_ 232 [(0, .str a0), (6, .int .i64 (a0.size : Int)), (7, .int .i64 x7), (30, .bool (!(decide ((bt a0 x7) = 45))))] [] rfl ⟨.inl rfl, ⟨.inl rfl, ⟨.inl rfl, ⟨.inl rfl, trivial⟩⟩⟩⟩ trivial ?_
  conv => whnf
  refine br_nd H (fun c H => ?_) (fun c H => ?_)
  conv => whnf
  exact ⟨(k, wrap64 (x7 + 1)), [], ⟨H, lt_⟩, lt_, (fits_of ⟨.inl ⟨rfl, rfl⟩, trivial⟩ trivial fi_ trivial rfl)⟩
  conv => whnf
  refine cut_ 240 [(2, .bool false)] [] rfl ⟨.inl rfl, trivial⟩ trivial ?_
  conv => whnf
  injection H with H; subst H
  exact ret_fz [] (rtA_eq rfl)
  conv => whnf
  refine Br.f ff_ ?_
  conv => whnf
  refine Br.f ff_ ?_
  conv => whnf
  refine cut_ 232 [(0, .str a0), (6, .int .i64 (a0.size : Int)), (7, .int .i64 x7), (30, .bool false)] [] rfl ⟨.inl rfl, ⟨.inl rfl, ⟨.inl rfl, ⟨.inl rfl, trivial⟩⟩⟩⟩ trivial ?_
  conv => whnf
  refine Br.f rfl ?_
  conv => whnf
  exact ⟨(k, wrap64 (x7 + 1)), [], ⟨H, lt_⟩, lt_, (fits_of ⟨.inl ⟨rfl, rfl⟩, trivial⟩ trivial fi_ trivial rfl)⟩
  conv => whnf
  refine Br.f ff_ ?_
  conv => whnf
  refine Br.f ff_ ?_
  conv => whnf
  refine Br.f ff_ ?_
  conv => whnf
  refine Br.f ff_ ?_
  conv => whnf
  refine Br.f rfl ?_
  conv => whnf
  refine Br.f rfl ?_
  conv => whnf
  refine Br.f rfl ?_
  conv => whnf
  refine cut_ 232 [(0, .str a0), (6, .int .i64 (a0.size : Int)), (7, .int .i64 x7), (30, .bool false)] [] rfl ⟨.inl rfl, ⟨.inl rfl, ⟨.inl rfl, ⟨.inl rfl, trivial⟩⟩⟩⟩ trivial ?_
  conv => whnf
  refine Br.f rfl ?_
  conv => whnf
  exact ⟨(k, wrap64 (x7 + 1)), [], ⟨H, lt_⟩, lt_, (fits_of ⟨.inl ⟨rfl, rfl⟩, trivial⟩ trivial fi_ trivial rfl)⟩
  conv => whnf
  refine br_d H (fun c H => ?_) (fun c H => ?_)
  conv => whnf
  refine Br.t ft_ ?_
  conv => whnf
  refine Br.t ft_ ?_
  conv => whnf
  refine Br.t ft_ ?_
  conv => whnf
  refine cut_ 112 [(2, .bool (decide ((a0.size : Int) ≤ 8)))] [] rfl ⟨.inl rfl, trivial⟩ trivial ?_
  conv => whnf
  injection H with H; subst H
  exact ret_fz [] (rtA_eq rfl)
  conv => whnf
  refine Br.f ff_ ?_
  conv => whnf
  refine Br.f ff_ ?_
  conv => whnf
  refine Br.f ff_ ?_
  conv => whnf
  refine cut_ 112 [(2, .bool false)] [] rfl ⟨.inl rfl, trivial⟩ trivial ?_
  conv => whnf
  injection H with H; subst H
  exact ret_fz [] (rtA_eq rfl)
theorem impl_foesOk.l0_lp {F : (Exit → St → Prop) → St → Prop} {hv : List Tmp} {Q : Exit → St → Prop} {σ : St} {r : Bool} {k : Nat} {l0 : List S_A2_string} {a1 : Int} {x9 : Int} (H : impl_foesOk.l0 k l0 a1 x9 = some r) (rn : List (Option Nat)) (h1 : Fits σ σ [] [(9, .int .i64 x9)] [] [] rn)
    (h2 : ∀ (k0 : Nat) (x9 : Int), k0 < k + 1 → impl_foesOk.l0 k0 l0 a1 x9 = some r → headN σ hv [] [(9, .int .i64 x9)] [] [] (F (fun e σ' => match e with | .normal => ∃ (y : Nat × Int) (rn : List (Option Nat)), (impl_foesOk.l0 y.1 l0 a1 y.2 = some r ∧ y.1 < k + 1) ∧ y.1 < k0 ∧ Fits σ σ' [] [(9, .int .i64 y.2)] [] [] rn | e => Q e σ'))) : Lp F hv Q σ := by
  unfold Lp
  refine ⟨Nat × Int, fun x => impl_foesOk.l0 x.1 l0 a1 x.2 = some r ∧ x.1 < k + 1, fun x => x.1, [], fun x => [(9, .int .i64 x.2)], fun x => [], fun x => [], ⟨(k, x9), rn, ⟨H, Nat.lt_succ_self _⟩, h1⟩, ?_⟩
  rintro ⟨k, x9⟩ ⟨H, hk⟩
  exact h2 k x9 hk H
theorem impl_foesOk.ac {k : Nat} {l0 : List S_A2_string} {a1 : Int} {r : Bool} (H : impl_foesOk.f k l0 a1 = some r) : ACalls Try.prog G 69 [] [(sv_S_A2_string l0), .int .i64 a1] [] (.bool r) := by
  refine acalls_of tok hP Try.func69 rfl (by kernel_rfl) [.tmp 4] rfl (by kernel_rfl) (Nat.le_of_ble_eq_true rfl) (.l .n (.l (.l .n (.l .n (.l .n (.l (.c .n (.l (.c .n (.l (.c .n .n) .n)) (.c .n (.l (.c .n .n) .n)))) .n)))) (.c .n .n))) rfl ?_
  unfold impl_foesOk.f at H
  conv => whnf
  refine impl_foesOk.l0_lp (l0 := l0) (a1 := a1) (k := k) H [] (fits_of ⟨.inl ⟨rfl, rfl⟩, trivial⟩ trivial fi_ trivial rfl) ?_
  intro k x9 hk H; rcases k with _ | k; exact none_elim H; rw [impl_foesOk.l0] at H; conv => whnf
  refine br_d H (fun c H => ?_) (fun c H => ?_)
  conv => whnf
  refine nd_ H (fun c H => ?_)
  conv => whnf
  refine Nd.mk nf_ ?_
  conv => whnf
  refine El.mk (rdm_en_S_A2_string _ _ nf_ nf_) ?_
  conv => whnf
  refine cut_ 88 [(0, (sv_S_A2_string l0)), (1, .int .i64 a1), (5, .int .i64 x9), (6, .bp 64 0), (7, (sv_S_A2_string l0)), (8, .int .i64 (l0.length : Int)), (9, .int .i64 x9)] [(64, .box [.str ((rd_A2_string l0 x9).f0), .str ((rd_A2_string l0 x9).f1)])] rfl ⟨.inl rfl, ⟨.inl rfl, ⟨.inl rfl, ⟨.inl rfl, ⟨.inl rfl, ⟨.inl rfl, ⟨.inl rfl, trivial⟩⟩⟩⟩⟩⟩⟩ ⟨rfl, trivial⟩ ?_
  conv => whnf
  revert H; refine bind_elim (fun t740 A H => ?_)
  refine call_mk (impl_isName.ac A) (avAL_cons (avA_shut' rfl) (avAL_nil)) (Or.inl rfl) rfl rfl (Nat.le_of_ble_eq_true rfl) ?_
  conv => whnf
  refine br_nt H (fun c H => ?_) (fun c H => ?_)
  conv => whnf
  refine Br.f ff_ ?_
  conv => whnf
  refine Br.f ff_ ?_
  conv => whnf
  revert H; refine bind_elim (fun t741 A H => ?_)
  refine call_mk (impl_isName.ac A) (avAL_cons (avA_shut' rfl) (avAL_nil)) (Or.inl rfl) rfl rfl (Nat.le_of_ble_eq_true rfl) ?_
  conv => whnf
  refine Br.f ff_ ?_
  conv => whnf
  refine Br.f ff_ ?_
  conv => whnf
  refine br_nt H (fun c H => ?_) (fun c H => ?_)
  conv => whnf
  refine Br.f ff_ ?_
  conv => whnf
  refine Br.f ff_ ?_
  conv => whnf
  refine Br.f ff_ ?_
  conv => whnf
  refine Br.f ff_ ?_
  conv => whnf
  refine Br.f ff_ ?_
  conv => whnf
  refine cut_ 224 [(0, (sv_S_A2_string l0)), (1, .int .i64 a1), (5, .int .i64 x9), (6, .bp 64 0), (7, (sv_S_A2_string l0)), (8, .int .i64 (l0.length : Int)), (9, .int .i64 x9), (30, .bool (!(Op.bytesLess ((rd_A2_string l0 x9).f0).toList ((rd_A2_string l0 x9).f1).toList)))] [(64, .box [.str ((rd_A2_string l0 x9).f0), .str ((rd_A2_string l0 x9).f1)])] rfl ⟨.inl rfl, ⟨.inl rfl, ⟨.inl rfl, ⟨.inl rfl, ⟨.inl rfl, ⟨.inl rfl, ⟨.inl rfl, ⟨.inl rfl, trivial⟩⟩⟩⟩⟩⟩⟩⟩ ⟨rfl, trivial⟩ ?_
  conv => whnf
  refine br_nt H (fun c H => ?_) (fun c H => ?_)
  conv => whnf
  refine br_d H (fun c H => ?_) (fun c H => ?_)
  conv => whnf
  refine Br.t ft_ ?_
  conv => whnf
  refine Br.t ft_ ?_
  conv => whnf
  refine Br.t ft_ ?_
  conv => whnf
  refine nd_ H (fun c H => ?_)
  conv => whnf
  refine nd_ H (fun c H => ?_)
  conv => whnf
  refine El.mk (rdm_en_S_A2_string _ _ nf_ nf_) ?_
  conv => whnf
  refine Br.t ft_ ?_
  conv => whnf
  refine Br.t ft_ ?_
  conv => whnf
  refine Br.t ft_ ?_
  conv => whnf
  refine Br.t ft_ ?_
  conv => whnf
  refine Br.t ft_ ?_
  conv => whnf
  refine Br.t ft_ ?_
  conv => whnf
  refine br_t H (fun c H => ?_) (fun c H => ?_)
  conv => whnf
  refine Br.t ft_ ?_
  conv => whnf
  refine Br.t ft_ ?_
  conv => whnf
  refine Br.t ft_ ?_
  conv => whnf
  refine Br.t ft_ ?_
  conv => whnf
  refine Br.t ft_ ?_
  conv => whnf
  refine Br.t ft_ ?_
  conv => whnf
  refine Br.t ft_ ?_
  conv => whnf
  refine Br.t ft_ ?_
  conv => whnf
  refine Br.t ft_ ?_
  conv => whnf
  refine Br.t ft_ ?_
  conv => whnf
  refine Br.t ft_ ?_
  conv => whnf
  refine Br.t ft_ ?_
  conv => whnf
  refine Br.t ft_ ?_
  conv => whnf
  refine cut_ 504 [(0, (sv_S_A2_string l0)), (1, .int .i64 a1), (7, (sv_S_A2_string l0)), (8, .int .i64 (l0.length : Int)), (9, .int .i64 x9), (65, .bool true)] [] rfl ⟨.inl rfl, ⟨.inl rfl, ⟨.inl rfl, ⟨.inl rfl, ⟨.inl rfl, ⟨.inl rfl, trivial⟩⟩⟩⟩⟩⟩ trivial ?_
  conv => whnf
  refine Br.t rfl ?_
  conv => whnf
  refine cut_ 512 [(4, .bool false)] [] rfl ⟨.inl rfl, trivial⟩ trivial ?_
  conv => whnf
  injection H with H; subst H
  exact ret_fz [] (rtA_eq rfl)
  conv => whnf
  refine Br.f ff_ ?_
  conv => whnf
  refine Br.f ff_ ?_
  conv => whnf
  refine Br.f ff_ ?_
  conv => whnf
  refine Nd.mk nf_ ?_
  conv => whnf
  refine Nd.mk nf_ ?_
  conv => whnf
  refine El.mk (rdm_en_S_A2_string _ _ nf_ nf_) ?_
  conv => whnf
  refine Br.f ff_ ?_
  conv => whnf
  refine Br.f ff_ ?_
  conv => whnf
  refine Br.f ff_ ?_
  conv => whnf
  refine Br.f ff_ ?_
  conv => whnf
  refine Br.f ff_ ?_
  conv => whnf
  refine Br.f ff_ ?_
  conv => whnf
  refine br_d H (fun c H => ?_) (fun c H => ?_)
  conv => whnf
  refine Br.t ft_ ?_
  conv => whnf
  refine Br.t ft_ ?_
  conv => whnf
  refine Br.t ft_ ?_
  conv => whnf
  refine Nd.mk nf_ ?_
  conv => whnf
  refine Nd.mk nf_ ?_
  conv => whnf
  refine El.mk (rdm_en_S_A2_string _ _ nf_ nf_) ?_
  conv => whnf
  refine Br.t ft_ ?_
  conv => whnf
  refine Br.t ft_ ?_
  conv => whnf
  refine Br.t ft_ ?_
  conv => whnf
  refine Br.t ft_ ?_
  conv => whnf
  refine Br.t ft_ ?_
  conv => whnf
  refine Br.f ff_ ?_
  conv => whnf
  refine Br.t ft_ ?_
  conv => whnf
  refine Br.t ft_ ?_
  conv => whnf
  refine Br.f ff_ ?_
  conv => whnf
  refine Br.t ft_ ?_
  conv => whnf
  refine cut_ 504 [(0, (sv_S_A2_string l0)), (1, .int .i64 a1), (7, (sv_S_A2_string l0)), (8, .int .i64 (l0.length : Int)), (9, .int .i64 x9), (65, .bool (!(Op.bytesLess ((rd_A2_string l0 (wrap64 (x9 - 1))).f1).toList ((rd_A2_string l0 x9).f1).toList)))] [] rfl ⟨.inl rfl, ⟨.inl rfl, ⟨.inl rfl, ⟨.inl rfl, ⟨.inl rfl, ⟨.inl rfl, trivial⟩⟩⟩⟩⟩⟩ trivial ?_
  conv => whnf
  refine br_nt H (fun c H => ?_) (fun c H => ?_)
  conv => whnf
  exact ⟨(k, wrap64 (x9 + 1)), [], ⟨H, lt_⟩, lt_, (fits_of ⟨.inl ⟨rfl, rfl⟩, trivial⟩ trivial fi_ trivial rfl)⟩
  conv => whnf
  refine cut_ 512 [(4, .bool false)] [] rfl ⟨.inl rfl, trivial⟩ trivial ?_
  conv => whnf
  injection H with H; subst H
  exact ret_fz [] (rtA_eq rfl)
  conv => whnf
  refine Br.f ff_ ?_
  conv => whnf
  refine Br.f ff_ ?_
  conv => whnf
  refine Br.f ff_ ?_
  conv => whnf
  refine Br.f ff_ ?_
  conv => whnf
  refine Br.f ff_ ?_
  conv => whnf
  refine Br.f ff_ ?_
  conv => whnf
  refine Br.f ff_ ?_
  conv => whnf
  refine Br.f ff_ ?_
  conv => whnf
  refine Br.f ff_ ?_
  conv => whnf
  refine Br.f ff_ ?_
  conv => whnf
  refine Br.t ft_ ?_
  conv => whnf
  refine Br.f ff_ ?_
  conv => whnf
  refine Br.t ft_ ?_
  conv => whnf
  refine cut_ 504 [(0, (sv_S_A2_string l0)), (1, .int .i64 a1), (7, (sv_S_A2_string l0)), (8, .int .i64 (l0.length : Int)), (9, .int .i64 x9), (65, .bool false)] [] rfl ⟨.inl rfl, ⟨.inl rfl, ⟨.inl rfl, ⟨.inl rfl, ⟨.inl rfl, ⟨.inl rfl, trivial⟩⟩⟩⟩⟩⟩ trivial ?_
  conv => whnf
  refine Br.f rfl ?_
  conv => whnf
  exact ⟨(k, wrap64 (x9 + 1)), [], ⟨H, lt_⟩, lt_, (fits_of ⟨.inl ⟨rfl, rfl⟩, trivial⟩ trivial fi_ trivial rfl)⟩
  conv => whnf
  refine Br.f ff_ ?_
  conv => whnf
  refine Br.f ff_ ?_
  conv => whnf
  refine Br.f ff_ ?_
  conv => whnf
  refine Br.f ff_ ?_
  conv => whnf
  refine Br.f ff_ ?_
  conv => whnf
  refine Br.f ff_ ?_
  conv => whnf
  refine Br.f ff_ ?_
  conv => whnf
  refine Br.f ff_ ?_
  conv => whnf
  refine Br.f ff_ ?_
  conv => whnf
  refine Br.f ff_ ?_
  conv => whnf
  refine Br.f ff_ ?_
  conv => whnf
  refine cut_ 504 [(0, (sv_S_A2_string l0)), (1, .int .i64 a1), (7, (sv_S_A2_string l0)), (8, .int .i64 (l0.length : Int)), (9, .int .i64 x9), (65, .bool false)] [] rfl ⟨.inl rfl, ⟨.inl rfl, ⟨.inl rfl, ⟨.inl rfl, ⟨.inl rfl, ⟨.inl rfl, trivial⟩⟩⟩⟩⟩⟩ trivial ?_
  conv => whnf
  refine Br.f rfl ?_
  conv => whnf
  exact ⟨(k, wrap64 (x9 + 1)), [], ⟨H, lt_⟩, lt_, (fits_of ⟨.inl ⟨rfl, rfl⟩, trivial⟩ trivial fi_ trivial rfl)⟩
  conv => whnf
  refine cut_ 232 [(4, .bool false)] [] rfl ⟨.inl rfl, trivial⟩ trivial ?_
  conv => whnf
  injection H with H; subst H
  exact ret_fz [] (rtA_eq rfl)
  conv => whnf
  refine Br.t ft_ ?_
  conv => whnf
  refine Br.t ft_ ?_
  conv => whnf
  refine Br.t ft_ ?_
  conv => whnf
  refine Br.t ft_ ?_
  conv => whnf
  refine Br.t ft_ ?_
  conv => whnf
  refine cut_ 224 [(0, (sv_S_A2_string l0)), (1, .int .i64 a1), (5, .int .i64 x9), (6, .bp 64 0), (7, (sv_S_A2_string l0)), (8, .int .i64 (l0.length : Int)), (9, .int .i64 x9), (30, .bool true)] [(64, .box [.str ((rd_A2_string l0 x9).f0), .str ((rd_A2_string l0 x9).f1)])] rfl ⟨.inl rfl, ⟨.inl rfl, ⟨.inl rfl, ⟨.inl rfl, ⟨.inl rfl, ⟨.inl rfl, ⟨.inl rfl, ⟨.inl rfl, trivial⟩⟩⟩⟩⟩⟩⟩⟩ ⟨rfl, trivial⟩ ?_
  conv => whnf
  refine Br.t rfl ?_
  conv => whnf
  refine cut_ 232 [(4, .bool false)] [] rfl ⟨.inl rfl, trivial⟩ trivial ?_
  conv => whnf
  injection H with H; subst H
  exact ret_fz [] (rtA_eq rfl)
  conv => whnf
  refine Br.t ft_ ?_
  conv => whnf
  refine Br.t ft_ ?_
  conv => whnf
  refine Br.t ft_ ?_
  conv => whnf
  refine Br.t ft_ ?_
  conv => whnf
  refine Br.t rfl ?_
  conv => whnf
  refine Br.t rfl ?_
  conv => whnf
  refine Br.t rfl ?_
  conv => whnf
  refine Br.t rfl ?_
  conv => whnf
  refine Br.t rfl ?_
  conv => whnf
  refine Br.t rfl ?_
  conv => whnf
  refine cut_ 224 [(0, (sv_S_A2_string l0)), (1, .int .i64 a1), (5, .int .i64 x9), (6, .bp 64 0), (7, (sv_S_A2_string l0)), (8, .int .i64 (l0.length : Int)), (9, .int .i64 x9), (30, .bool true)] [(64, .box [.str ((rd_A2_string l0 x9).f0), .str ((rd_A2_string l0 x9).f1)])] rfl ⟨.inl rfl, ⟨.inl rfl, ⟨.inl rfl, ⟨.inl rfl, ⟨.inl rfl, ⟨.inl rfl, ⟨.inl rfl, ⟨.inl rfl, trivial⟩⟩⟩⟩⟩⟩⟩⟩ ⟨rfl, trivial⟩ ?_
  conv => whnf
  refine Br.t rfl ?_
  conv => whnf
  refine cut_ 232 [(4, .bool false)] [] rfl ⟨.inl rfl, trivial⟩ trivial ?_
  conv => whnf
  injection H with H; subst H
  exact ret_fz [] (rtA_eq rfl)
  conv => whnf
  refine cut_ 80 [(4, .bool (decide ((l0.length : Int) ≤ a1)))] [] rfl ⟨.inl rfl, trivial⟩ trivial ?_
  conv => whnf
  injection H with H; subst H
  exact ret_fz [] (rtA_eq rfl)
theorem impl_rising.l0_lp {F : (Exit → St → Prop) → St → Prop} {hv : List Tmp} {Q : Exit → St → Prop} {σ : St} {r : Bool} {k : Nat} {l0 : List ByteArray} {x3 : Int} (H : impl_rising.l0 k l0 x3 = some r) (rn : List (Option Nat)) (h1 : Fits σ σ [] [(3, .int .i64 x3)] [] [] rn)
    (h2 : ∀ (k0 : Nat) (x3 : Int), k0 < k + 1 → impl_rising.l0 k0 l0 x3 = some r → headN σ hv [] [(3, .int .i64 x3)] [] [] (F (fun e σ' => match e with | .normal => ∃ (y : Nat × Int) (rn : List (Option Nat)), (impl_rising.l0 y.1 l0 y.2 = some r ∧ y.1 < k + 1) ∧ y.1 < k0 ∧ Fits σ σ' [] [(3, .int .i64 y.2)] [] [] rn | e => Q e σ'))) : Lp F hv Q σ := by
  unfold Lp
  refine ⟨Nat × Int, fun x => impl_rising.l0 x.1 l0 x.2 = some r ∧ x.1 < k + 1, fun x => x.1, [], fun x => [(3, .int .i64 x.2)], fun x => [], fun x => [], ⟨(k, x3), rn, ⟨H, Nat.lt_succ_self _⟩, h1⟩, ?_⟩
  rintro ⟨k, x3⟩ ⟨H, hk⟩
  exact h2 k x3 hk H
theorem impl_rising.ac {k : Nat} {l0 : List ByteArray} {r : Bool} (H : impl_rising.f k l0 = some r) : ACalls Try.prog G 155 [] [(sv_str l0)] [] (.bool r) := by
  refine acalls_of tok hP Try.func155 rfl (by kernel_rfl) [.tmp 2] rfl (by kernel_rfl) (Nat.le_of_ble_eq_true rfl) (.l .n (.l (.l .n (.l .n (.l (.c .n .n) .n))) .n)) rfl ?_
  unfold impl_rising.f at H
  conv => whnf
  refine impl_rising.l0_lp (l0 := l0) (k := k) H [] (fits_of ⟨.inl ⟨rfl, rfl⟩, trivial⟩ trivial fi_ trivial rfl) ?_
  intro k x3 hk H; rcases k with _ | k; exact none_elim H; rw [impl_rising.l0] at H; conv => whnf
  refine br_d H (fun c H => ?_) (fun c H => ?_)
  conv => whnf
  refine nd_ H (fun c H => ?_)
  conv => whnf
  refine nd_ H (fun c H => ?_)
  conv => whnf
  refine El.mk (rdm_en_str _ _ nf_ nf_) ?_
  conv => whnf
  refine nd_ H (fun c H => ?_)
  conv => whnf
  refine Nd.mk nf_ ?_
  conv => whnf
  refine El.mk (rdm_en_str _ _ nf_ nf_) ?_
  conv => whnf
  refine cut_ 128 [(0, (sv_str l0)), (3, .int .i64 x3), (19, .bool (!(Op.bytesLess (rdOf ByteArray.empty l0 (wrap64 (x3 - 1))).toList (rdOf ByteArray.empty l0 x3).toList)))] [] rfl ⟨.inl rfl, ⟨.inl rfl, ⟨.inl rfl, trivial⟩⟩⟩ trivial ?_
  conv => whnf
  refine br_nt H (fun c H => ?_) (fun c H => ?_)
  conv => whnf
  exact ⟨(k, wrap64 (x3 + 1)), [], ⟨H, lt_⟩, lt_, (fits_of ⟨.inl ⟨rfl, rfl⟩, trivial⟩ trivial fi_ trivial rfl)⟩
  conv => whnf
  injection H with H; subst H
  exact ret_fz [] (rtA_eq rfl)
  conv => whnf
  injection H with H; subst H
  exact ret_fz [] (rtA_eq rfl)
theorem impl_names.l0_lp {F : (Exit → St → Prop) → St → Prop} {hv : List Tmp} {Q : Exit → St → Prop} {σ : St} {r : Bool} {k : Nat} {l0 : List ByteArray} {x7 : Int} (H : impl_names.l0 k l0 x7 = some r) (rn : List (Option Nat)) (h1 : Fits σ σ [] [(7, .int .i64 x7)] [] [] rn)
    (h2 : ∀ (k0 : Nat) (x7 : Int), k0 < k + 1 → impl_names.l0 k0 l0 x7 = some r → headN σ hv [] [(7, .int .i64 x7)] [] [] (F (fun e σ' => match e with | .normal => ∃ (y : Nat × Int) (rn : List (Option Nat)), (impl_names.l0 y.1 l0 y.2 = some r ∧ y.1 < k + 1) ∧ y.1 < k0 ∧ Fits σ σ' [] [(7, .int .i64 y.2)] [] [] rn | e => Q e σ'))) : Lp F hv Q σ := by
  unfold Lp
  refine ⟨Nat × Int, fun x => impl_names.l0 x.1 l0 x.2 = some r ∧ x.1 < k + 1, fun x => x.1, [], fun x => [(7, .int .i64 x.2)], fun x => [], fun x => [], ⟨(k, x7), rn, ⟨H, Nat.lt_succ_self _⟩, h1⟩, ?_⟩
  rintro ⟨k, x7⟩ ⟨H, hk⟩
  exact h2 k x7 hk H
theorem impl_names.ac {k : Nat} {l0 : List ByteArray} {r : Bool} (H : impl_names.f k l0 = some r) : ACalls Try.prog G 103 [] [(sv_str l0)] [] (.bool r) := by
  refine acalls_of tok hP Try.func103 rfl (by kernel_rfl) [.tmp 2] rfl (by kernel_rfl) (Nat.le_of_ble_eq_true rfl) (.l .n (.l (.l .n (.l .n (.l .n (.l (.l .n (.c .n .n)) .n)))) .n)) rfl ?_
  unfold impl_names.f at H
  conv => whnf
  refine impl_names.l0_lp (l0 := l0) (k := k) H [] (fits_of ⟨.inl ⟨rfl, rfl⟩, trivial⟩ trivial fi_ trivial rfl) ?_
  intro k x7 hk H; rcases k with _ | k; exact none_elim H; rw [impl_names.l0] at H; conv => whnf
  refine br_d H (fun c H => ?_) (fun c H => ?_)
  conv => whnf
  refine nd_ H (fun c H => ?_)
  conv => whnf
  refine Nd.mk nf_ ?_
  conv => whnf
  refine El.mk (rdm_en_str _ _ nf_ nf_) ?_
  conv => whnf
  revert H; refine bind_elim (fun t769 A H => ?_)
  refine call_mk (impl_isName.ac A) (avAL_cons (avA_shut' rfl) (avAL_nil)) (Or.inl rfl) rfl rfl (Nat.le_of_ble_eq_true rfl) ?_
  conv => whnf
  refine cut_ 88 [(0, (sv_str l0)), (5, (sv_str l0)), (6, .int .i64 (l0.length : Int)), (7, .int .i64 x7), (13, .bool (!t769))] [] rfl ⟨.inl rfl, ⟨.inl rfl, ⟨.inl rfl, ⟨.inl rfl, ⟨.inl rfl, trivial⟩⟩⟩⟩⟩ trivial ?_
  conv => whnf
  refine br_nt H (fun c H => ?_) (fun c H => ?_)
  conv => whnf
  exact ⟨(k, wrap64 (x7 + 1)), [], ⟨H, lt_⟩, lt_, (fits_of ⟨.inl ⟨rfl, rfl⟩, trivial⟩ trivial fi_ trivial rfl)⟩
  conv => whnf
  injection H with H; subst H
  exact ret_fz [] (rtA_eq rfl)
  conv => whnf
  revert H; refine bind_elim (fun t771 A H => ?_)
  refine call_mk (impl_rising.ac A) (avAL_cons (avA_shut' rfl) (avAL_nil)) (Or.inl rfl) rfl rfl (Nat.le_of_ble_eq_true rfl) ?_
  conv => whnf
  injection H with H; subst H
  exact ret_fz [] (rtA_eq rfl)
theorem impl_foes.l0_lp {F : (Exit → St → Prop) → St → Prop} {hv : List Tmp} {Q : Exit → St → Prop} {σ : St} {r : Bool} {k : Nat} {l0 : List S_A2_string} {a1 : ByteArray} {a2 : ByteArray} {x11 : Int} (H : impl_foes.l0 k l0 a1 a2 x11 = some r) (rn : List (Option Nat)) (h1 : Fits σ σ [] [(11, .int .i64 x11)] [] [] rn)
    (h2 : ∀ (k0 : Nat) (x11 : Int), k0 < k + 1 → impl_foes.l0 k0 l0 a1 a2 x11 = some r → headN σ hv [] [(11, .int .i64 x11)] [] [] (F (fun e σ' => match e with | .normal => ∃ (y : Nat × Int) (rn : List (Option Nat)), (impl_foes.l0 y.1 l0 a1 a2 y.2 = some r ∧ y.1 < k + 1) ∧ y.1 < k0 ∧ Fits σ σ' [] [(11, .int .i64 y.2)] [] [] rn | e => Q e σ'))) : Lp F hv Q σ := by
  unfold Lp
  refine ⟨Nat × Int, fun x => impl_foes.l0 x.1 l0 a1 a2 x.2 = some r ∧ x.1 < k + 1, fun x => x.1, [], fun x => [(11, .int .i64 x.2)], fun x => [], fun x => [], ⟨(k, x11), rn, ⟨H, Nat.lt_succ_self _⟩, h1⟩, ?_⟩
  rintro ⟨k, x11⟩ ⟨H, hk⟩
  exact h2 k x11 hk H
theorem impl_foes.ac {k : Nat} {l0 : List S_A2_string} {a1 : ByteArray} {a2 : ByteArray} {r : Bool} (H : impl_foes.f k l0 a1 a2 = some r) : ACalls Try.prog G 161 [] [(sv_S_A2_string l0), .str a1, .str a2] [] (.bool r) := by
  refine acalls_of tok hP Try.func161 rfl (by kernel_rfl) [.tmp 6] rfl (by kernel_rfl) (Nat.le_of_ble_eq_true rfl) (.l .n (.l (.l .n (.l .n (.l .n (.l (.l .n (.c .n (.l (.c .n .n) .n))) .n)))) .n)) rfl ?_
  unfold impl_foes.f at H
  conv => whnf
  refine impl_foes.l0_lp (l0 := l0) (a1 := a1) (a2 := a2) (k := k) H [] (fits_of ⟨.inl ⟨rfl, rfl⟩, trivial⟩ trivial fi_ trivial rfl) ?_
  intro k x11 hk H; rcases k with _ | k; exact none_elim H; rw [impl_foes.l0] at H; conv => whnf
  refine br_d H (fun c H => ?_) (fun c H => ?_)
  conv => whnf
  refine nd_ H (fun c H => ?_)
  conv => whnf
  refine Nd.mk nf_ ?_
  conv => whnf
  refine El.mk (rdm_en_S_A2_string _ _ nf_ nf_) ?_
  conv => whnf
  refine br_t H (fun c H => ?_) (fun c H => ?_)
  conv => whnf
  refine Br.t ft_ ?_
  conv => whnf
  refine Br.t ft_ ?_
  conv => whnf
  refine Br.t ft_ ?_
  conv => whnf
  refine Br.t ft_ ?_
  conv => whnf
  refine Br.t ft_ ?_
  conv => whnf
  refine cut_ 168 [(1, .str a1), (2, .str a2), (9, (sv_S_A2_string l0)), (10, .int .i64 (l0.length : Int)), (11, .int .i64 x11), (26, .bool true)] [] rfl ⟨.inl rfl, ⟨.inl rfl, ⟨.inl rfl, ⟨.inl rfl, ⟨.inl rfl, ⟨.inl rfl, trivial⟩⟩⟩⟩⟩⟩ trivial ?_
  conv => whnf
  refine Br.t rfl ?_
  conv => whnf
  refine cut_ 176 [(6, .bool true)] [] rfl ⟨.inl rfl, trivial⟩ trivial ?_
  conv => whnf
  injection H with H; subst H
  exact ret_fz [] (rtA_eq rfl)
  conv => whnf
  refine Br.f ff_ ?_
  conv => whnf
  refine Br.f ff_ ?_
  conv => whnf
  refine Br.f ff_ ?_
  conv => whnf
  refine Br.f ff_ ?_
  conv => whnf
  refine Br.f ff_ ?_
  conv => whnf
  refine cut_ 168 [(1, .str a1), (2, .str a2), (9, (sv_S_A2_string l0)), (10, .int .i64 (l0.length : Int)), (11, .int .i64 x11), (26, .bool (decide (((rd_A2_string l0 x11).f0).toList = a2.toList) && (decide (((rd_A2_string l0 x11).f1).toList = a1.toList) && true)))] [] rfl ⟨.inl rfl, ⟨.inl rfl, ⟨.inl rfl, ⟨.inl rfl, ⟨.inl rfl, ⟨.inl rfl, trivial⟩⟩⟩⟩⟩⟩ trivial ?_
  conv => whnf
  refine br_t H (fun c H => ?_) (fun c H => ?_)
  conv => whnf
  refine cut_ 176 [(6, .bool true)] [] rfl ⟨.inl rfl, trivial⟩ trivial ?_
  conv => whnf
  injection H with H; subst H
  exact ret_fz [] (rtA_eq rfl)
  conv => whnf
  exact ⟨(k, wrap64 (x11 + 1)), [], ⟨H, lt_⟩, lt_, (fits_of ⟨.inl ⟨rfl, rfl⟩, trivial⟩ trivial fi_ trivial rfl)⟩
  conv => whnf
  injection H with H; subst H
  exact ret_fz [] (rtA_eq rfl)
theorem impl_anyFoes.l1_lp {F : (Exit → St → Prop) → St → Prop} {hv : List Tmp} {Q : Exit → St → Prop} {σ : St} {r : Bool} {k : Nat} {l0 : List S_A2_string} {l1 : List ByteArray} {l2 : List ByteArray} {x13 : Int} {x19 : Int} (H : impl_anyFoes.l1 k l0 l1 l2 x13 x19 = some r) (rn : List (Option Nat)) (h1 : Fits σ σ [] [(19, .int .i64 x19)] [] [] rn)
    (h2 : ∀ (k0 : Nat) (x19 : Int), k0 < k + 1 → impl_anyFoes.l1 k0 l0 l1 l2 x13 x19 = some r → headN σ hv [] [(19, .int .i64 x19)] [] [] (F (fun e σ' => match e with | .normal => ∃ (y : Nat × Int) (rn : List (Option Nat)), (impl_anyFoes.l1 y.1 l0 l1 l2 x13 y.2 = some r ∧ y.1 < k + 1) ∧ y.1 < k0 ∧ Fits σ σ' [] [(19, .int .i64 y.2)] [] [] rn | e => Q e σ'))) : Lp F hv Q σ := by
  unfold Lp
  refine ⟨Nat × Int, fun x => impl_anyFoes.l1 x.1 l0 l1 l2 x13 x.2 = some r ∧ x.1 < k + 1, fun x => x.1, [], fun x => [(19, .int .i64 x.2)], fun x => [], fun x => [], ⟨(k, x19), rn, ⟨H, Nat.lt_succ_self _⟩, h1⟩, ?_⟩
  rintro ⟨k, x19⟩ ⟨H, hk⟩
  exact h2 k x19 hk H
theorem impl_anyFoes.l0_lp {F : (Exit → St → Prop) → St → Prop} {hv : List Tmp} {Q : Exit → St → Prop} {σ : St} {r : Bool} {k : Nat} {l0 : List S_A2_string} {l1 : List ByteArray} {l2 : List ByteArray} {x13 : Int} (H : impl_anyFoes.l0 k l0 l1 l2 x13 = some r) (rn : List (Option Nat)) (h1 : Fits σ σ [] [(13, .int .i64 x13)] [] [] rn)
    (h2 : ∀ (k0 : Nat) (x13 : Int), k0 < k + 1 → impl_anyFoes.l0 k0 l0 l1 l2 x13 = some r → headN σ hv [] [(13, .int .i64 x13)] [] [] (F (fun e σ' => match e with | .normal => ∃ (y : Nat × Int) (rn : List (Option Nat)), (impl_anyFoes.l0 y.1 l0 l1 l2 y.2 = some r ∧ y.1 < k + 1) ∧ y.1 < k0 ∧ Fits σ σ' [] [(13, .int .i64 y.2)] [] [] rn | e => Q e σ'))) : Lp F hv Q σ := by
  unfold Lp
  refine ⟨Nat × Int, fun x => impl_anyFoes.l0 x.1 l0 l1 l2 x.2 = some r ∧ x.1 < k + 1, fun x => x.1, [], fun x => [(13, .int .i64 x.2)], fun x => [], fun x => [], ⟨(k, x13), rn, ⟨H, Nat.lt_succ_self _⟩, h1⟩, ?_⟩
  rintro ⟨k, x13⟩ ⟨H, hk⟩
  exact h2 k x13 hk H
theorem impl_anyFoes.ac {k : Nat} {l0 : List S_A2_string} {l1 : List ByteArray} {l2 : List ByteArray} {r : Bool} (H : impl_anyFoes.f k l0 l1 l2 = some r) : ACalls Try.prog G 79 [] [(sv_S_A2_string l0), (sv_str l1), (sv_str l2)] [] (.bool r) := by
  refine acalls_of tok hP Try.func79 rfl (by kernel_rfl) [.tmp 6] rfl (by kernel_rfl) (Nat.le_of_ble_eq_true rfl) (.l .n (.l (.l .n (.l .n (.l .n (.l (.l .n (.c .n .n)) .n)))) .n)) rfl ?_
  unfold impl_anyFoes.f at H
  conv => whnf
  refine impl_anyFoes.l0_lp (l0 := l0) (l1 := l1) (l2 := l2) (k := k) H [] (fits_of ⟨.inl ⟨rfl, rfl⟩, trivial⟩ trivial fi_ trivial rfl) ?_
  intro k x13 hk H; rcases k with _ | k; exact none_elim H; rw [impl_anyFoes.l0] at H; conv => whnf
  refine br_d H (fun c H => ?_) (fun c H => ?_)
  conv => whnf
  refine nd_ H (fun c H => ?_)
  conv => whnf
  refine Nd.mk nf_ ?_
  conv => whnf
  refine El.mk (rdm_en_str _ _ nf_ nf_) ?_
  conv => whnf
  refine cut_ 88 [(0, (sv_S_A2_string l0)), (2, (sv_str l2)), (8, .str (rdOf ByteArray.empty l1 x13)), (11, (sv_str l1)), (12, .int .i64 (l1.length : Int)), (13, .int .i64 x13), (17, (sv_str l2)), (18, .int .i64 (l2.length : Int)), (19, .int .i64 0)] [] rfl ⟨.inl rfl, ⟨.inl rfl, ⟨.inl rfl, ⟨.inl rfl, ⟨.inl rfl, ⟨.inl rfl, ⟨.inl rfl, ⟨.inl rfl, ⟨.inl rfl, trivial⟩⟩⟩⟩⟩⟩⟩⟩⟩ trivial ?_
  conv => whnf
  refine impl_anyFoes.l1_lp (l0 := l0) (l1 := l1) (l2 := l2) (x13 := x13) (k := k) H [] (fits_of ⟨.inl ⟨rfl, rfl⟩, trivial⟩ trivial fi_ trivial rfl) ?_
  intro k x19 hk H; rcases k with _ | k; exact none_elim H; rw [impl_anyFoes.l1] at H; conv => whnf
  refine br_d H (fun c H => ?_) (fun c H => ?_)
  conv => whnf
  refine nd_ H (fun c H => ?_)
  conv => whnf
  refine Nd.mk nf_ ?_
  conv => whnf
  refine El.mk (rdm_en_str _ _ nf_ nf_) ?_
  conv => whnf
  revert H; refine bind_elim (fun t818 A H => ?_)
  refine call_mk (impl_foes.ac A) (avAL_cons (avA_shut' rfl) (avAL_cons (avA_shut' rfl) (avAL_cons (avA_shut' rfl) (avAL_nil)))) (Or.inl rfl) rfl rfl (Nat.le_of_ble_eq_true rfl) ?_
  conv => whnf
  refine br_t H (fun c H => ?_) (fun c H => ?_)
  conv => whnf
  injection H with H; subst H
  exact ret_fz [] (rtA_eq rfl)
  conv => whnf
  exact ⟨(k, wrap64 (x19 + 1)), [], ⟨H, lt_⟩, lt_, (fits_of ⟨.inl ⟨rfl, rfl⟩, trivial⟩ trivial fi_ trivial rfl)⟩
  conv => whnf
  exact ⟨(k, wrap64 (x13 + 1)), [], ⟨H, lt_⟩, lt_, (fits_of ⟨.inl ⟨rfl, rfl⟩, trivial⟩ trivial fi_ trivial rfl)⟩
  conv => whnf
  injection H with H; subst H
  exact ret_fz [] (rtA_eq rfl)
theorem slices_Index_string_string.l0_lp {F : (Exit → St → Prop) → St → Prop} {hv : List Tmp} {Q : Exit → St → Prop} {σ : St} {r : Int} {k : Nat} {l0 : List ByteArray} {a1 : ByteArray} {x8 : Int} (H : slices_Index_string_string.l0 k l0 a1 x8 = some r) (rn : List (Option Nat)) (h1 : Fits σ σ [] [(8, .int .i64 x8)] [] [] rn)
    (h2 : ∀ (k0 : Nat) (x8 : Int), k0 < k + 1 → slices_Index_string_string.l0 k0 l0 a1 x8 = some r → headN σ hv [] [(8, .int .i64 x8)] [] [] (F (fun e σ' => match e with | .normal => ∃ (y : Nat × Int) (rn : List (Option Nat)), (slices_Index_string_string.l0 y.1 l0 a1 y.2 = some r ∧ y.1 < k + 1) ∧ y.1 < k0 ∧ Fits σ σ' [] [(8, .int .i64 y.2)] [] [] rn | e => Q e σ'))) : Lp F hv Q σ := by
  unfold Lp
  refine ⟨Nat × Int, fun x => slices_Index_string_string.l0 x.1 l0 a1 x.2 = some r ∧ x.1 < k + 1, fun x => x.1, [], fun x => [(8, .int .i64 x.2)], fun x => [], fun x => [], ⟨(k, x8), rn, ⟨H, Nat.lt_succ_self _⟩, h1⟩, ?_⟩
  rintro ⟨k, x8⟩ ⟨H, hk⟩
  exact h2 k x8 hk H
theorem slices_Index_string_string.ac {k : Nat} {l0 : List ByteArray} {a1 : ByteArray} {r : Int} (H : slices_Index_string_string.f k l0 a1 = some r) : ACalls Try.prog G 208 [] [(sv_str l0), .str a1] [] (.int .i64 r) := by
  refine acalls_of tok hP Try.func208 rfl (by kernel_rfl) [.tmp 4] rfl (by kernel_rfl) (Nat.le_of_ble_eq_true rfl) (.l .n (.l (.l .n (.l .n (.l .n (.l (.l .n (.c .n .n)) .n)))) .n)) rfl ?_
  unfold slices_Index_string_string.f at H
  conv => whnf
  refine slices_Index_string_string.l0_lp (l0 := l0) (a1 := a1) (k := k) H [] (fits_of ⟨.inl ⟨rfl, rfl⟩, trivial⟩ trivial fi_ trivial rfl) ?_
  intro k x8 hk H; rcases k with _ | k; exact none_elim H; rw [slices_Index_string_string.l0] at H; conv => whnf
  refine br_d H (fun c H => ?_) (fun c H => ?_)
  conv => whnf
  refine nd_ H (fun c H => ?_)
  conv => whnf
  refine Nd.mk nf_ ?_
  conv => whnf
  refine El.mk (rdm_en_str _ _ nf_ nf_) ?_
  conv => whnf
  refine cut_ 104 [(0, (sv_str l0)), (1, .str a1), (5, .int .i64 x8), (7, .int .i64 (l0.length : Int)), (8, .int .i64 x8), (16, .bool (decide (a1.toList = (rdOf ByteArray.empty l0 x8).toList)))] [] rfl ⟨.inl rfl, ⟨.inl rfl, ⟨.inl rfl, ⟨.inl rfl, ⟨.inl rfl, ⟨.inl rfl, trivial⟩⟩⟩⟩⟩⟩ trivial ?_
  conv => whnf
  refine br_d H (fun c H => ?_) (fun c H => ?_)
  conv => whnf
  injection H with H; subst H
  exact ret_fz [] (rtA_eq rfl)
  conv => whnf
  exact ⟨(k, wrap64 (x8 + 1)), [], ⟨H, lt_⟩, lt_, (fits_of ⟨.inl ⟨rfl, rfl⟩, trivial⟩ trivial fi_ trivial rfl)⟩
  conv => whnf
  injection H with H; subst H
  exact ret_fz [] (rtA_eq rfl)
theorem slices_Contains_string_string.ac {k : Nat} {l0 : List ByteArray} {a1 : ByteArray} {r : Bool} (H : slices_Contains_string_string.f k l0 a1 = some r) : ACalls Try.prog G 163 [] [(sv_str l0), .str a1] [] (.bool r) := by
  refine acalls_of tok hP Try.func163 rfl (by kernel_rfl) [.tmp 4] rfl (by kernel_rfl) (Nat.le_of_ble_eq_true rfl) .n rfl ?_
  unfold slices_Contains_string_string.f at H
  conv => whnf
  revert H; refine bind_elim (fun t1055 A H => ?_)
  refine call_mk (slices_Index_string_string.ac A) (avAL_cons (avA_shut' rfl) (avAL_cons (avA_shut' rfl) (avAL_nil))) (Or.inl rfl) rfl rfl (Nat.le_of_ble_eq_true rfl) ?_
  conv => whnf
  injection H with H; subst H
  exact ret_fz [] (rtA_eq rfl)
theorem impl_has.ac {k : Nat} {l0 : List ByteArray} {a1 : ByteArray} {r : Bool} (H : impl_has.f k l0 a1 = some r) : ACalls Try.prog G 83 [] [(sv_str l0), .str a1] [] (.bool r) := by
  refine acalls_of tok hP Try.func83 rfl (by kernel_rfl) [.tmp 4] rfl (by kernel_rfl) (Nat.le_of_ble_eq_true rfl) .n rfl ?_
  unfold impl_has.f at H
  conv => whnf
  revert H; refine bind_elim (fun t1057 A H => ?_)
  refine call_mk (slices_Contains_string_string.ac A) (avAL_cons (avA_shut' rfl) (avAL_cons (avA_shut' rfl) (avAL_nil))) (Or.inl rfl) rfl rfl (Nat.le_of_ble_eq_true rfl) ?_
  conv => whnf
  injection H with H; subst H
  exact ret_fz [] (rtA_eq rfl)
theorem impl_ClaimWantOk.j0_sq {F : (Exit → St → Prop) → St → Prop} {hv : List Tmp} {K : St → Prop} {Q : Exit → St → Prop} {σ : St} {r : Bool} {KK : Nat} {a0_1 : Int} {a0_3 : List S_impl_ClaimUse} {a0_4 : List ByteArray} {a0_5 : List ByteArray} {x78 : Int}
    (h1 : F (fun e σ' => match e with | .normal => ∃ (y : Nat) (rn : List (Option Nat)), (impl_ClaimWantOk.j0 y a0_1 a0_3 a0_4 a0_5 x78 = some r ∧ y < KK) ∧ Fits σ σ' [] [] [] [] rn | e => Q e σ') σ)
    (h2 : ∀ (k : Nat), k < KK → impl_ClaimWantOk.j0 k a0_1 a0_3 a0_4 a0_5 x78 = some r → headN σ hv [] [] [] [] K) : Sq F hv K Q σ := by
  unfold Sq
  refine ⟨Nat, fun x => impl_ClaimWantOk.j0 x a0_1 a0_3 a0_4 a0_5 x78 = some r ∧ x < KK, [], fun x => [], fun x => [], fun x => [], h1, ?_⟩
  rintro k ⟨H, hk⟩
  exact h2 k hk H
theorem impl_ClaimWantOk.l1_lp {F : (Exit → St → Prop) → St → Prop} {hv : List Tmp} {Q : Exit → St → Prop} {σ : St} {r : Bool} {k : Nat} {a0_1 : Int} {a0_3 : List S_impl_ClaimUse} {a0_4 : List ByteArray} {a0_5 : List ByteArray} {x130 : Int} (H : impl_ClaimWantOk.l1 k a0_1 a0_3 a0_4 a0_5 x130 = some r) (rn : List (Option Nat)) (h1 : Fits σ σ [] [(130, .int .i64 x130)] [] [] rn)
    (h2 : ∀ (k0 : Nat) (x130 : Int), k0 < k + 1 → impl_ClaimWantOk.l1 k0 a0_1 a0_3 a0_4 a0_5 x130 = some r → headN σ hv [] [(130, .int .i64 x130)] [] [] (F (fun e σ' => match e with | .normal => ∃ (y : Nat × Int) (rn : List (Option Nat)), (impl_ClaimWantOk.l1 y.1 a0_1 a0_3 a0_4 a0_5 y.2 = some r ∧ y.1 < k + 1) ∧ y.1 < k0 ∧ Fits σ σ' [] [(130, .int .i64 y.2)] [] [] rn | e => Q e σ'))) : Lp F hv Q σ := by
  unfold Lp
  refine ⟨Nat × Int, fun x => impl_ClaimWantOk.l1 x.1 a0_1 a0_3 a0_4 a0_5 x.2 = some r ∧ x.1 < k + 1, fun x => x.1, [], fun x => [(130, .int .i64 x.2)], fun x => [], fun x => [], ⟨(k, x130), rn, ⟨H, Nat.lt_succ_self _⟩, h1⟩, ?_⟩
  rintro ⟨k, x130⟩ ⟨H, hk⟩
  exact h2 k x130 hk H
theorem impl_ClaimWantOk.l0_lp {F : (Exit → St → Prop) → St → Prop} {hv : List Tmp} {Q : Exit → St → Prop} {σ : St} {r : Bool} {k : Nat} {a0_1 : Int} {a0_3 : List S_impl_ClaimUse} {a0_4 : List ByteArray} {a0_5 : List ByteArray} {x78 : Int} (H : impl_ClaimWantOk.l0 k a0_1 a0_3 a0_4 a0_5 x78 = some r) (rn : List (Option Nat)) (h1 : Fits σ σ [] [(78, .int .i64 x78)] [] [] rn)
    (h2 : ∀ (k0 : Nat) (x78 : Int), k0 < k + 1 → impl_ClaimWantOk.l0 k0 a0_1 a0_3 a0_4 a0_5 x78 = some r → headN σ hv [] [(78, .int .i64 x78)] [] [] (F (fun e σ' => match e with | .normal => ∃ (y : Nat × Int) (rn : List (Option Nat)), (impl_ClaimWantOk.l0 y.1 a0_1 a0_3 a0_4 a0_5 y.2 = some r ∧ y.1 < k + 1) ∧ y.1 < k0 ∧ Fits σ σ' [] [(78, .int .i64 y.2)] [] [] rn | e => Q e σ'))) : Lp F hv Q σ := by
  unfold Lp
  refine ⟨Nat × Int, fun x => impl_ClaimWantOk.l0 x.1 a0_1 a0_3 a0_4 a0_5 x.2 = some r ∧ x.1 < k + 1, fun x => x.1, [], fun x => [(78, .int .i64 x.2)], fun x => [], fun x => [], ⟨(k, x78), rn, ⟨H, Nat.lt_succ_self _⟩, h1⟩, ?_⟩
  rintro ⟨k, x78⟩ ⟨H, hk⟩
  exact h2 k x78 hk H
theorem impl_ClaimWantOk.ac {k : Nat} {a0_0 : Int} {a0_1 : Int} {a0_2 : List ByteArray} {a0_3 : List S_impl_ClaimUse} {a0_4 : List ByteArray} {a0_5 : List ByteArray} {r : Bool} (H : impl_ClaimWantOk.f k a0_0 a0_1 a0_2 a0_3 a0_4 a0_5 = some r) : ACalls Try.prog G 104 [] [.agg [.int .i64 a0_0, .int .i64 a0_1, (sv_str a0_2), (sv_S_impl_ClaimUse a0_3), (sv_str a0_4), (sv_str a0_5)]] [] (.bool r) := by
  refine acalls_of tok hP Try.func104 rfl (by kernel_rfl) [.tmp 2] rfl (by kernel_rfl) (Nat.le_of_ble_eq_true rfl) (.l .n (.l (.c .n (.l (.c .n .n) .n)) (.l (.c .n (.l (.c .n .n) .n)) (.l (.l .n (.l .n (.l .n (.l (.c .n (.j (.c .n (.l (.c .n .n) .n)) (.c .n (.l .n (.l .n (.l .n (.l (.c .n (.l (.c .n .n) .n)) .n))))))) .n)))) (.l (.l .n (.c .n .n)) (.c .n .n)))))) rfl ?_
  unfold impl_ClaimWantOk.f at H
  conv => whnf
  refine br_d H (fun c H => ?_) (fun c H => ?_)
  conv => whnf
  refine Br.t ft_ ?_
  conv => whnf
  refine Br.t ft_ ?_
  conv => whnf
  refine Br.t ft_ ?_
  conv => whnf
  refine Br.t rfl ?_
  conv => whnf
  refine Br.t rfl ?_
  conv => whnf
  refine Br.t rfl ?_
  conv => whnf
  refine Br.t rfl ?_
  conv => whnf
  refine Br.t rfl ?_
  conv => whnf
  refine Br.t rfl ?_
  conv => whnf
  refine Br.t rfl ?_
  conv => whnf
  refine Br.t rfl ?_
  conv => whnf
  refine Br.t rfl ?_
  conv => whnf
  refine Br.t rfl ?_
  conv => whnf
  refine Br.t rfl ?_
  conv => whnf
  refine Br.t rfl ?_
  conv => whnf
  refine Br.t rfl ?_
  conv => whnf
  refine Br.t rfl ?_
  conv => whnf
  refine Br.t rfl ?_
  conv => whnf
  refine Br.t rfl ?_
  conv => whnf
  refine Br.t rfl ?_
  conv => whnf
  refine Br.t rfl ?_
  conv => whnf
  refine Br.t rfl ?_
  conv => whnf
  refine Br.t rfl ?_
  conv => whnf
  refine Br.t rfl ?_
  conv => whnf
  refine Br.t rfl ?_
  conv => whnf
  refine Br.t rfl ?_
  conv => whnf
  refine Br.t rfl ?_
  conv => whnf
  refine Br.t rfl ?_
  conv => whnf
  refine Br.t rfl ?_
  conv => whnf
  refine Br.t rfl ?_
  conv => whnf
  refine cut_ 336 [(1, .bp 0 0), (46, .bool true)] [(0, .box [.int .i64 a0_0, .int .i64 a0_1, (sv_str a0_2), (sv_S_impl_ClaimUse a0_3), (sv_str a0_4), (sv_str a0_5)])] rfl ⟨.inl rfl, ⟨.inl rfl, trivial⟩⟩ ⟨rfl, trivial⟩ ?_
  conv => whnf
  refine Br.t rfl ?_
  conv => whnf
  refine cut_ 344 [(2, .bool false)] [] rfl ⟨.inl rfl, trivial⟩ trivial ?_
  conv => whnf
  injection H with H; subst H
  exact ret_fz [] (rtA_eq rfl)
  conv => whnf
  refine Br.f ff_ ?_
  conv => whnf
  refine Br.f ff_ ?_
  conv => whnf
  refine Br.f ff_ ?_
  conv => whnf
  refine br_d H (fun c H => ?_) (fun c H => ?_)
  conv => whnf
  refine Br.t ft_ ?_
  conv => whnf
  refine Br.t ft_ ?_
  conv => whnf
  refine Br.t ft_ ?_
  conv => whnf
  refine Br.t rfl ?_
  conv => whnf
  refine Br.t rfl ?_
  conv => whnf
  refine Br.t rfl ?_
  conv => whnf
  refine Br.t rfl ?_
  conv => whnf
  refine Br.t rfl ?_
  conv => whnf
  refine Br.t rfl ?_
  conv => whnf
  refine Br.t rfl ?_
  conv => whnf
  refine Br.t rfl ?_
  conv => whnf
  refine Br.t rfl ?_
  conv => whnf
  refine Br.t rfl ?_
  conv => whnf
  refine Br.t rfl ?_
  conv => whnf
  refine Br.t rfl ?_
  conv => whnf
  refine Br.t rfl ?_
  conv => whnf
  refine Br.t rfl ?_
  conv => whnf
  refine Br.t rfl ?_
  conv => whnf
  refine Br.t rfl ?_
  conv => whnf
  refine Br.t rfl ?_
  conv => whnf
  refine Br.t rfl ?_
  conv => whnf
  refine Br.t rfl ?_
  conv => whnf
  refine Br.t rfl ?_
  conv => whnf
  refine Br.t rfl ?_
  conv => whnf
  refine Br.t rfl ?_
  conv => whnf
  refine Br.t rfl ?_
  conv => whnf
  refine cut_ 336 [(1, .bp 0 0), (46, .bool true)] [(0, .box [.int .i64 a0_0, .int .i64 a0_1, (sv_str a0_2), (sv_S_impl_ClaimUse a0_3), (sv_str a0_4), (sv_str a0_5)])] rfl ⟨.inl rfl, ⟨.inl rfl, trivial⟩⟩ ⟨rfl, trivial⟩ ?_
  conv => whnf
  refine Br.t rfl ?_
  conv => whnf
  refine cut_ 344 [(2, .bool false)] [] rfl ⟨.inl rfl, trivial⟩ trivial ?_
  conv => whnf
  injection H with H; subst H
  exact ret_fz [] (rtA_eq rfl)
  conv => whnf
  refine Br.f ff_ ?_
  conv => whnf
  refine Br.f ff_ ?_
  conv => whnf
  refine Br.f ff_ ?_
  conv => whnf
  refine br_d H (fun c H => ?_) (fun c H => ?_)
  conv => whnf
  refine Br.t ft_ ?_
  conv => whnf
  refine Br.t ft_ ?_
  conv => whnf
  refine Br.t ft_ ?_
  conv => whnf
  refine Br.t rfl ?_
  conv => whnf
  refine Br.t rfl ?_
  conv => whnf
  refine Br.t rfl ?_
  conv => whnf
  refine Br.t rfl ?_
  conv => whnf
  refine Br.t rfl ?_
  conv => whnf
  refine Br.t rfl ?_
  conv => whnf
  refine Br.t rfl ?_
  conv => whnf
  refine Br.t rfl ?_
  conv => whnf
  refine Br.t rfl ?_
  conv => whnf
  refine Br.t rfl ?_
  conv => whnf
  refine Br.t rfl ?_
  conv => whnf
  refine Br.t rfl ?_
  conv => whnf
  refine Br.t rfl ?_
  conv => whnf
  refine Br.t rfl ?_
  conv => whnf
  refine Br.t rfl ?_
  conv => whnf
  refine Br.t rfl ?_
  conv => whnf
  refine Br.t rfl ?_
  conv => whnf
  refine Br.t rfl ?_
  conv => whnf
  refine Br.t rfl ?_
  conv => whnf
  refine cut_ 336 [(1, .bp 0 0), (46, .bool true)] [(0, .box [.int .i64 a0_0, .int .i64 a0_1, (sv_str a0_2), (sv_S_impl_ClaimUse a0_3), (sv_str a0_4), (sv_str a0_5)])] rfl ⟨.inl rfl, ⟨.inl rfl, trivial⟩⟩ ⟨rfl, trivial⟩ ?_
  conv => whnf
  refine Br.t rfl ?_
  conv => whnf
  refine cut_ 344 [(2, .bool false)] [] rfl ⟨.inl rfl, trivial⟩ trivial ?_
  conv => whnf
  injection H with H; subst H
  exact ret_fz [] (rtA_eq rfl)
  conv => whnf
  refine Br.f ff_ ?_
  conv => whnf
  refine Br.f ff_ ?_
  conv => whnf
  refine Br.f ff_ ?_
  conv => whnf
  refine br_d H (fun c H => ?_) (fun c H => ?_)
  conv => whnf
  refine Br.t ft_ ?_
  conv => whnf
  refine Br.t ft_ ?_
  conv => whnf
  refine Br.t ft_ ?_
  conv => whnf
  refine Br.t ft_ ?_
  conv => whnf
  refine Br.t rfl ?_
  conv => whnf
  refine Br.t rfl ?_
  conv => whnf
  refine Br.t rfl ?_
  conv => whnf
  refine Br.t rfl ?_
  conv => whnf
  refine Br.t rfl ?_
  conv => whnf
  refine Br.t rfl ?_
  conv => whnf
  refine Br.t rfl ?_
  conv => whnf
  refine Br.t rfl ?_
  conv => whnf
  refine Br.t rfl ?_
  conv => whnf
  refine Br.t rfl ?_
  conv => whnf
  refine Br.t rfl ?_
  conv => whnf
  refine Br.t rfl ?_
  conv => whnf
  refine Br.t rfl ?_
  conv => whnf
  refine Br.t rfl ?_
  conv => whnf
  refine cut_ 336 [(1, .bp 0 0), (46, .bool true)] [(0, .box [.int .i64 a0_0, .int .i64 a0_1, (sv_str a0_2), (sv_S_impl_ClaimUse a0_3), (sv_str a0_4), (sv_str a0_5)])] rfl ⟨.inl rfl, ⟨.inl rfl, trivial⟩⟩ ⟨rfl, trivial⟩ ?_
  conv => whnf
  refine Br.t rfl ?_
  conv => whnf
  refine cut_ 344 [(2, .bool false)] [] rfl ⟨.inl rfl, trivial⟩ trivial ?_
  conv => whnf
  injection H with H; subst H
  exact ret_fz [] (rtA_eq rfl)
  conv => whnf
  refine Br.f ff_ ?_
  conv => whnf
  refine Br.f ff_ ?_
  conv => whnf
  refine Br.f ff_ ?_
  conv => whnf
  refine Br.f ff_ ?_
  conv => whnf
  refine br_d H (fun c H => ?_) (fun c H => ?_)
  conv => whnf
  refine Br.t ft_ ?_
  conv => whnf
  refine Br.t ft_ ?_
  conv => whnf
  refine Br.t ft_ ?_
  conv => whnf
  refine Br.t ft_ ?_
  conv => whnf
  refine Br.t rfl ?_
  conv => whnf
  refine Br.t rfl ?_
  conv => whnf
  refine Br.t rfl ?_
  conv => whnf
  refine Br.t rfl ?_
  conv => whnf
  refine Br.t rfl ?_
  conv => whnf
  refine Br.t rfl ?_
  conv => whnf
  refine Br.t rfl ?_
  conv => whnf
  refine Br.t rfl ?_
  conv => whnf
  refine Br.t rfl ?_
  conv => whnf
  refine cut_ 336 [(1, .bp 0 0), (46, .bool true)] [(0, .box [.int .i64 a0_0, .int .i64 a0_1, (sv_str a0_2), (sv_S_impl_ClaimUse a0_3), (sv_str a0_4), (sv_str a0_5)])] rfl ⟨.inl rfl, ⟨.inl rfl, trivial⟩⟩ ⟨rfl, trivial⟩ ?_
  conv => whnf
  refine Br.t rfl ?_
  conv => whnf
  refine cut_ 344 [(2, .bool false)] [] rfl ⟨.inl rfl, trivial⟩ trivial ?_
  conv => whnf
  injection H with H; subst H
  exact ret_fz [] (rtA_eq rfl)
  conv => whnf
  refine Br.f ff_ ?_
  conv => whnf
  refine Br.f ff_ ?_
  conv => whnf
  revert H; refine bind_elim (fun t1060 A H => ?_)
  refine call_mk (impl_names.ac A) (avAL_cons (avA_shut' rfl) (avAL_nil)) (Or.inl rfl) rfl rfl (Nat.le_of_ble_eq_true rfl) ?_
  conv => whnf
  refine Br.f ff_ ?_
  conv => whnf
  refine Br.f ff_ ?_
  conv => whnf
  refine br_nt H (fun c H => ?_) (fun c H => ?_)
  conv => whnf
  refine Br.f ff_ ?_
  conv => whnf
  refine Br.f ff_ ?_
  conv => whnf
  refine Br.f ff_ ?_
  conv => whnf
  refine Br.f ff_ ?_
  conv => whnf
  refine Br.f ff_ ?_
  conv => whnf
  refine Br.f ff_ ?_
  conv => whnf
  refine Br.f ff_ ?_
  conv => whnf
  refine Br.f ff_ ?_
  conv => whnf
  refine cut_ 336 [(1, .bp 0 0), (46, .bool ((decide ((a0_2.length : Int) > 0)) != (decide (a0_1 = 1))))] [(0, .box [.int .i64 a0_0, .int .i64 a0_1, (sv_str a0_2), (sv_S_impl_ClaimUse a0_3), (sv_str a0_4), (sv_str a0_5)])] rfl ⟨.inl rfl, ⟨.inl rfl, trivial⟩⟩ ⟨rfl, trivial⟩ ?_
  conv => whnf
  refine br_t H (fun c H => ?_) (fun c H => ?_)
  conv => whnf
  refine cut_ 344 [(2, .bool false)] [] rfl ⟨.inl rfl, trivial⟩ trivial ?_
  conv => whnf
  injection H with H; subst H
  exact ret_fz [] (rtA_eq rfl)
  conv => whnf
  refine br_d H (fun c H => ?_) (fun c H => ?_)
  conv => whnf
  refine Br.t ft_ ?_
  conv => whnf
  refine Br.t ft_ ?_
  conv => whnf
  refine Br.t ft_ ?_
  conv => whnf
  refine Br.t ft_ ?_
  conv => whnf
  refine Br.t rfl ?_
  conv => whnf
  refine Br.t rfl ?_
  conv => whnf
  refine Br.t rfl ?_
  conv => whnf
  refine Br.t rfl ?_
  conv => whnf
  refine Br.t rfl ?_
  conv => whnf
  refine Br.t rfl ?_
  conv => whnf
  refine Br.t rfl ?_
  conv => whnf
  refine Br.t rfl ?_
  conv => whnf
  refine Br.t rfl ?_
  conv => whnf
  refine Br.t rfl ?_
  conv => whnf
  refine Br.t rfl ?_
  conv => whnf
  refine Br.t rfl ?_
  conv => whnf
  refine Br.t rfl ?_
  conv => whnf
  refine Br.t rfl ?_
  conv => whnf
  refine Br.t rfl ?_
  conv => whnf
  refine cut_ 560 [(1, .bp 0 0), (74, .bool true)] [(0, .box [.int .i64 a0_0, .int .i64 a0_1, (sv_str a0_2), (sv_S_impl_ClaimUse a0_3), (sv_str a0_4), (sv_str a0_5)])] rfl ⟨.inl rfl, ⟨.inl rfl, trivial⟩⟩ ⟨rfl, trivial⟩ ?_
  conv => whnf
  refine Br.t rfl ?_
  conv => whnf
  refine cut_ 568 [(2, .bool false)] [] rfl ⟨.inl rfl, trivial⟩ trivial ?_
  conv => whnf
  injection H with H; subst H
  exact ret_fz [] (rtA_eq rfl)
  conv => whnf
  refine Br.f ff_ ?_
  conv => whnf
  refine Br.f ff_ ?_
  conv => whnf
  refine Br.f ff_ ?_
  conv => whnf
  refine Br.f ff_ ?_
  conv => whnf
  refine br_d H (fun c H => ?_) (fun c H => ?_)
  conv => whnf
  refine Br.t ft_ ?_
  conv => whnf
  refine Br.t ft_ ?_
  conv => whnf
  refine Br.t ft_ ?_
  conv => whnf
  refine Br.t ft_ ?_
  conv => whnf
  refine Br.t rfl ?_
  conv => whnf
  refine Br.t rfl ?_
  conv => whnf
  refine Br.t rfl ?_
  conv => whnf
  refine Br.t rfl ?_
  conv => whnf
  refine Br.t rfl ?_
  conv => whnf
  refine Br.t rfl ?_
  conv => whnf
  refine Br.t rfl ?_
  conv => whnf
  refine Br.t rfl ?_
  conv => whnf
  refine Br.t rfl ?_
  conv => whnf
  refine Br.t rfl ?_
  conv => whnf
  refine cut_ 560 [(1, .bp 0 0), (74, .bool true)] [(0, .box [.int .i64 a0_0, .int .i64 a0_1, (sv_str a0_2), (sv_S_impl_ClaimUse a0_3), (sv_str a0_4), (sv_str a0_5)])] rfl ⟨.inl rfl, ⟨.inl rfl, trivial⟩⟩ ⟨rfl, trivial⟩ ?_
  conv => whnf
  refine Br.t rfl ?_
  conv => whnf
  refine cut_ 568 [(2, .bool false)] [] rfl ⟨.inl rfl, trivial⟩ trivial ?_
  conv => whnf
  injection H with H; subst H
  exact ret_fz [] (rtA_eq rfl)
  conv => whnf
  refine Br.f ff_ ?_
  conv => whnf
  refine Br.f ff_ ?_
  conv => whnf
  refine Br.f ff_ ?_
  conv => whnf
  refine Br.f ff_ ?_
  conv => whnf
  refine br_d H (fun c H => ?_) (fun c H => ?_)
  conv => whnf
  refine Br.t ft_ ?_
  conv => whnf
  refine Br.t ft_ ?_
  conv => whnf
  refine Br.t ft_ ?_
  conv => whnf
  refine Br.t ft_ ?_
  conv => whnf
  refine Br.t rfl ?_
  conv => whnf
  refine Br.t rfl ?_
  conv => whnf
  refine Br.t rfl ?_
  conv => whnf
  refine Br.t rfl ?_
  conv => whnf
  refine Br.t rfl ?_
  conv => whnf
  refine cut_ 560 [(1, .bp 0 0), (74, .bool true)] [(0, .box [.int .i64 a0_0, .int .i64 a0_1, (sv_str a0_2), (sv_S_impl_ClaimUse a0_3), (sv_str a0_4), (sv_str a0_5)])] rfl ⟨.inl rfl, ⟨.inl rfl, trivial⟩⟩ ⟨rfl, trivial⟩ ?_
  conv => whnf
  refine Br.t rfl ?_
  conv => whnf
  refine cut_ 568 [(2, .bool false)] [] rfl ⟨.inl rfl, trivial⟩ trivial ?_
  conv => whnf
  injection H with H; subst H
  exact ret_fz [] (rtA_eq rfl)
  conv => whnf
  refine Br.f ff_ ?_
  conv => whnf
  refine Br.f ff_ ?_
  conv => whnf
  revert H; refine bind_elim (fun t1065 A H => ?_)
  refine call_mk (impl_names.ac A) (avAL_cons (avA_shut' rfl) (avAL_nil)) (Or.inl rfl) rfl rfl (Nat.le_of_ble_eq_true rfl) ?_
  conv => whnf
  refine Br.f ff_ ?_
  conv => whnf
  refine Br.f ff_ ?_
  conv => whnf
  refine br_nt H (fun c H => ?_) (fun c H => ?_)
  conv => whnf
  refine Br.f ff_ ?_
  conv => whnf
  refine Br.f ff_ ?_
  conv => whnf
  revert H; refine bind_elim (fun t1066 A H => ?_)
  refine call_mk (impl_names.ac A) (avAL_cons (avA_shut' rfl) (avAL_nil)) (Or.inl rfl) rfl rfl (Nat.le_of_ble_eq_true rfl) ?_
  conv => whnf
  refine Br.f ff_ ?_
  conv => whnf
  refine Br.f ff_ ?_
  conv => whnf
  refine cut_ 560 [(1, .bp 0 0), (74, .bool (!t1066))] [(0, .box [.int .i64 a0_0, .int .i64 a0_1, (sv_str a0_2), (sv_S_impl_ClaimUse a0_3), (sv_str a0_4), (sv_str a0_5)])] rfl ⟨.inl rfl, ⟨.inl rfl, trivial⟩⟩ ⟨rfl, trivial⟩ ?_
  conv => whnf
  refine br_nt H (fun c H => ?_) (fun c H => ?_)
  conv => whnf
  refine impl_ClaimWantOk.l0_lp (a0_1 := a0_1) (a0_3 := a0_3) (a0_4 := a0_4) (a0_5 := a0_5) (k := k) H [] (fits_of ⟨.inl ⟨rfl, rfl⟩, trivial⟩ trivial fi_ trivial rfl) ?_
  intro k x78 hk H; rcases k with _ | k; exact none_elim H; rw [impl_ClaimWantOk.l0] at H; conv => whnf
  refine br_d H (fun c H => ?_) (fun c H => ?_)
  conv => whnf
  refine nd_ H (fun c H => ?_)
  conv => whnf
  refine Nd.mk nf_ ?_
  conv => whnf
  refine El.mk (rdm_en_S_impl_ClaimUse _ _ nf_ nf_) ?_
  conv => whnf
  refine cut_ 648 [(1, .bp 0 0), (3, .int .i64 x78), (4, .bp 624 0), (76, (sv_S_impl_ClaimUse a0_3)), (77, .int .i64 (a0_3.length : Int)), (78, .int .i64 x78)] [(0, .box [.int .i64 a0_0, .int .i64 a0_1, (sv_str a0_2), (sv_S_impl_ClaimUse a0_3), (sv_str a0_4), (sv_str a0_5)]), (624, .box [.str ((rd_impl_ClaimUse a0_3 x78).f0), .int .i64 ((rd_impl_ClaimUse a0_3 x78).f1), .int .i64 ((rd_impl_ClaimUse a0_3 x78).f2)])] rfl ⟨.inl rfl, ⟨.inl rfl, ⟨.inl rfl, ⟨.inl rfl, ⟨.inl rfl, ⟨.inl rfl, trivial⟩⟩⟩⟩⟩⟩ ⟨rfl, ⟨rfl, trivial⟩⟩ ?_
  conv => whnf
  refine impl_ClaimWantOk.j0_sq (a0_1 := a0_1) (a0_3 := a0_3) (a0_4 := a0_4) (a0_5 := a0_5) (x78 := x78) (KK := k + 1) (r := r) ?_ ?_
  conv => whnf
  revert H; refine bind_elim (fun t1074 A H => ?_)
  refine call_mk (impl_isName.ac A) (avAL_cons (avA_shut' rfl) (avAL_nil)) (Or.inl rfl) rfl rfl (Nat.le_of_ble_eq_true rfl) ?_
  conv => whnf
  refine br_nt H (fun c H => ?_) (fun c H => ?_)
  conv => whnf
  refine Br.f ff_ ?_
  conv => whnf
  refine Br.f ff_ ?_
  conv => whnf
  refine br_d H (fun c H => ?_) (fun c H => ?_)
  conv => whnf
  refine Br.t ft_ ?_
  conv => whnf
  refine Br.t ft_ ?_
  conv => whnf
  refine Br.t ft_ ?_
  conv => whnf
  refine Br.t ft_ ?_
  conv => whnf
  refine nd_ H (fun c H => ?_)
  conv => whnf
  refine nd_ H (fun c H => ?_)
  conv => whnf
  refine El.mk (rdm_en_S_impl_ClaimUse _ _ nf_ nf_) ?_
  conv => whnf
  refine Br.t ft_ ?_
  conv => whnf
  refine Br.t ft_ ?_
  conv => whnf
  refine Br.t ft_ ?_
  conv => whnf
  refine Br.t ft_ ?_
  conv => whnf
  refine Br.t ft_ ?_
  conv => whnf
  refine Br.f ff_ ?_
  conv => whnf
  refine Br.t ft_ ?_
  conv => whnf
  refine Br.f ff_ ?_
  conv => whnf
  refine cut_ 808 [(1, .bp 0 0), (4, .bp 624 0), (76, (sv_S_impl_ClaimUse a0_3)), (77, .int .i64 (a0_3.length : Int)), (78, .int .i64 x78), (102, .bool (!(Op.bytesLess ((rd_impl_ClaimUse a0_3 (wrap64 (x78 - 1))).f0).toList ((rd_impl_ClaimUse a0_3 x78).f0).toList)))] [(0, .box [.int .i64 a0_0, .int .i64 a0_1, (sv_str a0_2), (sv_S_impl_ClaimUse a0_3), (sv_str a0_4), (sv_str a0_5)]), (624, .box [.str ((rd_impl_ClaimUse a0_3 x78).f0), .int .i64 ((rd_impl_ClaimUse a0_3 x78).f1), .int .i64 ((rd_impl_ClaimUse a0_3 x78).f2)])] rfl ⟨.inl rfl, ⟨.inl rfl, ⟨.inl rfl, ⟨.inl rfl, ⟨.inl rfl, ⟨.inl rfl, trivial⟩⟩⟩⟩⟩⟩ ⟨rfl, ⟨rfl, trivial⟩⟩ ?_
  conv => whnf
  refine br_nt H (fun c H => ?_) (fun c H => ?_)
  conv => whnf
  exact ⟨k, [], ⟨H, lt_⟩, (fits_of trivial trivial fi_ trivial rfl)⟩
  conv => whnf
  refine cut_ 816 [(2, .bool false)] [] rfl ⟨.inl rfl, trivial⟩ trivial ?_
  conv => whnf
  injection H with H; subst H
  exact ret_fz [] (rtA_eq rfl)
  conv => whnf
  refine Br.f ff_ ?_
  conv => whnf
  refine Br.f ff_ ?_
  conv => whnf
  refine Br.f ff_ ?_
  conv => whnf
  refine Br.f ff_ ?_
  conv => whnf
  refine Br.f ff_ ?_
  conv => whnf
  refine Br.f ff_ ?_
  conv => whnf
  refine Br.f ff_ ?_
  conv => whnf
  refine Br.f ff_ ?_
  conv => whnf
  refine Br.f ff_ ?_
  conv => whnf
  refine Br.f ff_ ?_
  conv => whnf
  refine Br.f ff_ ?_
  conv => whnf
  refine Br.f ff_ ?_
  conv => whnf
  refine cut_ 808 [(1, .bp 0 0), (4, .bp 624 0), (76, (sv_S_impl_ClaimUse a0_3)), (77, .int .i64 (a0_3.length : Int)), (78, .int .i64 x78), (102, .bool false)] [(0, .box [.int .i64 a0_0, .int .i64 a0_1, (sv_str a0_2), (sv_S_impl_ClaimUse a0_3), (sv_str a0_4), (sv_str a0_5)]), (624, .box [.str ((rd_impl_ClaimUse a0_3 x78).f0), .int .i64 ((rd_impl_ClaimUse a0_3 x78).f1), .int .i64 ((rd_impl_ClaimUse a0_3 x78).f2)])] rfl ⟨.inl rfl, ⟨.inl rfl, ⟨.inl rfl, ⟨.inl rfl, ⟨.inl rfl, ⟨.inl rfl, trivial⟩⟩⟩⟩⟩⟩ ⟨rfl, ⟨rfl, trivial⟩⟩ ?_
  conv => whnf
  refine Br.f rfl ?_
  conv => whnf
  exact ⟨k, [], ⟨H, lt_⟩, (fits_of trivial trivial fi_ trivial rfl)⟩
  conv => whnf
  refine Br.t ft_ ?_
  conv => whnf
  refine Br.t ft_ ?_
  conv => whnf
  refine Br.t ft_ ?_
  conv => whnf
  refine Br.t ft_ ?_
  conv => whnf
  refine cut_ 808 [(1, .bp 0 0), (4, .bp 624 0), (76, (sv_S_impl_ClaimUse a0_3)), (77, .int .i64 (a0_3.length : Int)), (78, .int .i64 x78), (102, .bool true)] [(0, .box [.int .i64 a0_0, .int .i64 a0_1, (sv_str a0_2), (sv_S_impl_ClaimUse a0_3), (sv_str a0_4), (sv_str a0_5)]), (624, .box [.str ((rd_impl_ClaimUse a0_3 x78).f0), .int .i64 ((rd_impl_ClaimUse a0_3 x78).f1), .int .i64 ((rd_impl_ClaimUse a0_3 x78).f2)])] rfl ⟨.inl rfl, ⟨.inl rfl, ⟨.inl rfl, ⟨.inl rfl, ⟨.inl rfl, ⟨.inl rfl, trivial⟩⟩⟩⟩⟩⟩ ⟨rfl, ⟨rfl, trivial⟩⟩ ?_
  conv => whnf
  refine Br.t rfl ?_
  conv => whnf
  refine cut_ 816 [(2, .bool false)] [] rfl ⟨.inl rfl, trivial⟩ trivial ?_
  conv => whnf
  injection H with H; subst H
  exact ret_fz [] (rtA_eq rfl)
  intro k hk H; rcases k with _ | k; exact none_elim H; rw [impl_ClaimWantOk.j0] at H; conv => whnf
  refine cut_ 664 [(1, .bp 0 0), (4, .bp 624 0), (76, (sv_S_impl_ClaimUse a0_3)), (77, .int .i64 (a0_3.length : Int)), (78, .int .i64 x78), (104, .int .i64 ((rd_impl_ClaimUse a0_3 x78).f1))] [(0, .box [.int .i64 a0_0, .int .i64 a0_1, (sv_str a0_2), (sv_S_impl_ClaimUse a0_3), (sv_str a0_4), (sv_str a0_5)]), (624, .box [.str ((rd_impl_ClaimUse a0_3 x78).f0), .int .i64 ((rd_impl_ClaimUse a0_3 x78).f1), .int .i64 ((rd_impl_ClaimUse a0_3 x78).f2)])] rfl ⟨.inl rfl, ⟨.inl rfl, ⟨.inl rfl, ⟨.inl rfl, ⟨.inl rfl, ⟨.inl rfl, trivial⟩⟩⟩⟩⟩⟩ ⟨rfl, ⟨rfl, trivial⟩⟩ ?_
  conv => whnf
  refine br_d H (fun c H => ?_) (fun c H => ?_)
  conv => whnf
  refine br_nd H (fun c H => ?_) (fun c H => ?_)
  conv => whnf
  exact ⟨(k, wrap64 (x78 + 1)), [], ⟨H, lt_⟩, lt_, (fits_of ⟨.inl ⟨rfl, rfl⟩, trivial⟩ trivial fi_ trivial rfl)⟩
  conv => whnf
  injection H with H; subst H
  exact ret_fz [] (rtA_eq rfl)
  conv => whnf
  refine br_d H (fun c H => ?_) (fun c H => ?_)
  conv => whnf
  refine Br.t ft_ ?_
  conv => whnf
  refine br_d H (fun c H => ?_) (fun c H => ?_)
  conv => whnf
  refine Br.t ft_ ?_
  conv => whnf
  refine Br.t ft_ ?_
  conv => whnf
  refine Br.t ft_ ?_
  conv => whnf
  refine Br.t rfl ?_
  conv => whnf
  refine Br.t rfl ?_
  conv => whnf
  refine Br.t rfl ?_
  conv => whnf
  refine Br.t rfl ?_
  conv => whnf
  refine cut_ 800 [(1, .bp 0 0), (76, (sv_S_impl_ClaimUse a0_3)), (77, .int .i64 (a0_3.length : Int)), (78, .int .i64 x78), (125, .bool true)] [(0, .box [.int .i64 a0_0, .int .i64 a0_1, (sv_str a0_2), (sv_S_impl_ClaimUse a0_3), (sv_str a0_4), (sv_str a0_5)])] rfl ⟨.inl rfl, ⟨.inl rfl, ⟨.inl rfl, ⟨.inl rfl, ⟨.inl rfl, trivial⟩⟩⟩⟩⟩ ⟨rfl, trivial⟩ ?_
  conv => whnf
  refine Br.t rfl ?_
  conv => whnf
  refine cut_ 808 [(2, .bool false)] [] rfl ⟨.inl rfl, trivial⟩ trivial ?_
  conv => whnf
  injection H with H; subst H
  exact ret_fz [] (rtA_eq rfl)
  conv => whnf
  refine Br.f ff_ ?_
  conv => whnf
  refine Br.f ff_ ?_
  conv => whnf
  refine Br.f ff_ ?_
  conv => whnf
  refine br_d H (fun c H => ?_) (fun c H => ?_)
  conv => whnf
  refine Br.t ft_ ?_
  conv => whnf
  refine Br.t ft_ ?_
  conv => whnf
  refine Br.t ft_ ?_
  conv => whnf
  refine cut_ 800 [(1, .bp 0 0), (76, (sv_S_impl_ClaimUse a0_3)), (77, .int .i64 (a0_3.length : Int)), (78, .int .i64 x78), (125, .bool true)] [(0, .box [.int .i64 a0_0, .int .i64 a0_1, (sv_str a0_2), (sv_S_impl_ClaimUse a0_3), (sv_str a0_4), (sv_str a0_5)])] rfl ⟨.inl rfl, ⟨.inl rfl, ⟨.inl rfl, ⟨.inl rfl, ⟨.inl rfl, trivial⟩⟩⟩⟩⟩ ⟨rfl, trivial⟩ ?_
  conv => whnf
  refine Br.t rfl ?_
  conv => whnf
  refine cut_ 808 [(2, .bool false)] [] rfl ⟨.inl rfl, trivial⟩ trivial ?_
  conv => whnf
  injection H with H; subst H
  exact ret_fz [] (rtA_eq rfl)
  conv => whnf
  refine Br.f ff_ ?_
  conv => whnf
  refine Br.f ff_ ?_
  conv => whnf
  refine Br.f ff_ ?_
  conv => whnf
  refine cut_ 800 [(1, .bp 0 0), (76, (sv_S_impl_ClaimUse a0_3)), (77, .int .i64 (a0_3.length : Int)), (78, .int .i64 x78), (125, .bool (!(decide (a0_1 = 1))))] [(0, .box [.int .i64 a0_0, .int .i64 a0_1, (sv_str a0_2), (sv_S_impl_ClaimUse a0_3), (sv_str a0_4), (sv_str a0_5)])] rfl ⟨.inl rfl, ⟨.inl rfl, ⟨.inl rfl, ⟨.inl rfl, ⟨.inl rfl, trivial⟩⟩⟩⟩⟩ ⟨rfl, trivial⟩ ?_
  conv => whnf
  refine br_nd H (fun c H => ?_) (fun c H => ?_)
  conv => whnf
  exact ⟨(k, wrap64 (x78 + 1)), [], ⟨H, lt_⟩, lt_, (fits_of ⟨.inl ⟨rfl, rfl⟩, trivial⟩ trivial fi_ trivial rfl)⟩
  conv => whnf
  refine cut_ 808 [(2, .bool false)] [] rfl ⟨.inl rfl, trivial⟩ trivial ?_
  conv => whnf
  injection H with H; subst H
  exact ret_fz [] (rtA_eq rfl)
  conv => whnf
  refine br_d H (fun c H => ?_) (fun c H => ?_)
  conv => whnf
  refine br_d H (fun c H => ?_) (fun c H => ?_)
  conv => whnf
  refine Br.t ft_ ?_
  conv => whnf
  refine Br.t ft_ ?_
  conv => whnf
  refine Br.t ft_ ?_
  conv => whnf
  refine Br.t rfl ?_
  conv => whnf
  refine Br.t rfl ?_
  conv => whnf
  refine Br.t rfl ?_
  conv => whnf
  refine Br.t rfl ?_
  conv => whnf
  refine cut_ 816 [(1, .bp 0 0), (76, (sv_S_impl_ClaimUse a0_3)), (77, .int .i64 (a0_3.length : Int)), (78, .int .i64 x78), (125, .bool true)] [(0, .box [.int .i64 a0_0, .int .i64 a0_1, (sv_str a0_2), (sv_S_impl_ClaimUse a0_3), (sv_str a0_4), (sv_str a0_5)])] rfl ⟨.inl rfl, ⟨.inl rfl, ⟨.inl rfl, ⟨.inl rfl, ⟨.inl rfl, trivial⟩⟩⟩⟩⟩ ⟨rfl, trivial⟩ ?_
  conv => whnf
  refine Br.t rfl ?_
  conv => whnf
  refine cut_ 824 [(2, .bool false)] [] rfl ⟨.inl rfl, trivial⟩ trivial ?_
  conv => whnf
  injection H with H; subst H
  exact ret_fz [] (rtA_eq rfl)
  conv => whnf
  refine Br.f ff_ ?_
  conv => whnf
  refine Br.f ff_ ?_
  conv => whnf
  refine Br.f ff_ ?_
  conv => whnf
  refine br_d H (fun c H => ?_) (fun c H => ?_)
  conv => whnf
  refine Br.t ft_ ?_
  conv => whnf
  refine Br.t ft_ ?_
  conv => whnf
  refine Br.t ft_ ?_
  conv => whnf
  refine cut_ 816 [(1, .bp 0 0), (76, (sv_S_impl_ClaimUse a0_3)), (77, .int .i64 (a0_3.length : Int)), (78, .int .i64 x78), (125, .bool true)] [(0, .box [.int .i64 a0_0, .int .i64 a0_1, (sv_str a0_2), (sv_S_impl_ClaimUse a0_3), (sv_str a0_4), (sv_str a0_5)])] rfl ⟨.inl rfl, ⟨.inl rfl, ⟨.inl rfl, ⟨.inl rfl, ⟨.inl rfl, trivial⟩⟩⟩⟩⟩ ⟨rfl, trivial⟩ ?_
  conv => whnf
  refine Br.t rfl ?_
  conv => whnf
  refine cut_ 824 [(2, .bool false)] [] rfl ⟨.inl rfl, trivial⟩ trivial ?_
  conv => whnf
  injection H with H; subst H
  exact ret_fz [] (rtA_eq rfl)
  conv => whnf
  refine Br.f ff_ ?_
  conv => whnf
  refine Br.f ff_ ?_
  conv => whnf
  refine Br.f ff_ ?_
  conv => whnf
  refine cut_ 816 [(1, .bp 0 0), (76, (sv_S_impl_ClaimUse a0_3)), (77, .int .i64 (a0_3.length : Int)), (78, .int .i64 x78), (125, .bool (!(decide (a0_1 = 1))))] [(0, .box [.int .i64 a0_0, .int .i64 a0_1, (sv_str a0_2), (sv_S_impl_ClaimUse a0_3), (sv_str a0_4), (sv_str a0_5)])] rfl ⟨.inl rfl, ⟨.inl rfl, ⟨.inl rfl, ⟨.inl rfl, ⟨.inl rfl, trivial⟩⟩⟩⟩⟩ ⟨rfl, trivial⟩ ?_
  conv => whnf
  refine br_nd H (fun c H => ?_) (fun c H => ?_)
  conv => whnf
  exact ⟨(k, wrap64 (x78 + 1)), [], ⟨H, lt_⟩, lt_, (fits_of ⟨.inl ⟨rfl, rfl⟩, trivial⟩ trivial fi_ trivial rfl)⟩
  conv => whnf
  refine cut_ 824 [(2, .bool false)] [] rfl ⟨.inl rfl, trivial⟩ trivial ?_
  conv => whnf
  injection H with H; subst H
  exact ret_fz [] (rtA_eq rfl)
  conv => whnf
  injection H with H; subst H
  exact ret_fz [] (rtA_eq rfl)
  conv => whnf
  refine impl_ClaimWantOk.l1_lp (a0_1 := a0_1) (a0_3 := a0_3) (a0_4 := a0_4) (a0_5 := a0_5) (k := k) H [] (fits_of ⟨.inl ⟨rfl, rfl⟩, trivial⟩ trivial fi_ trivial rfl) ?_
  intro k x130 hk H; rcases k with _ | k; exact none_elim H; rw [impl_ClaimWantOk.l1] at H; conv => whnf
  refine cut_ 640 [(1, .bp 0 0), (128, (sv_str a0_4)), (129, .int .i64 (a0_4.length : Int)), (130, .int .i64 x130), (131, .bool (decide (x130 < (a0_4.length : Int))))] [(0, .box [.int .i64 a0_0, .int .i64 a0_1, (sv_str a0_2), (sv_S_impl_ClaimUse a0_3), (sv_str a0_4), (sv_str a0_5)])] rfl ⟨.inl rfl, ⟨.inl rfl, ⟨.inl rfl, ⟨.inl rfl, ⟨.inl rfl, trivial⟩⟩⟩⟩⟩ ⟨rfl, trivial⟩ ?_
  conv => whnf
  refine br_d H (fun c H => ?_) (fun c H => ?_)
  conv => whnf
  refine nd_ H (fun c H => ?_)
  conv => whnf
  refine Nd.mk nf_ ?_
  conv => whnf
  refine El.mk (rdm_en_str _ _ nf_ nf_) ?_
  conv => whnf
  revert H; refine bind_elim (fun t1078 A H => ?_)
  refine call_mk (impl_has.ac A) (avAL_cons (avA_shut' rfl) (avAL_cons (avA_shut' rfl) (avAL_nil))) (Or.inl rfl) rfl rfl (Nat.le_of_ble_eq_true rfl) ?_
  conv => whnf
  refine br_t H (fun c H => ?_) (fun c H => ?_)
  conv => whnf
  injection H with H; subst H
  exact ret_fz [] (rtA_eq rfl)
  conv => whnf
  exact ⟨(k, wrap64 (x130 + 1)), [], ⟨H, lt_⟩, lt_, (fits_of ⟨.inl ⟨rfl, rfl⟩, trivial⟩ trivial fi_ trivial rfl)⟩
  conv => whnf
  refine br_d H (fun c H => ?_) (fun c H => ?_)
  conv => whnf
  refine Br.t ft_ ?_
  conv => whnf
  refine Br.t ft_ ?_
  conv => whnf
  refine Br.t ft_ ?_
  conv => whnf
  refine Br.t rfl ?_
  conv => whnf
  refine Br.t rfl ?_
  conv => whnf
  refine Br.t rfl ?_
  conv => whnf
  refine Br.t rfl ?_
  conv => whnf
  refine Br.t rfl ?_
  conv => whnf
  refine Br.t rfl ?_
  conv => whnf
  refine Br.t rfl ?_
  conv => whnf
  refine Br.t rfl ?_
  conv => whnf
  refine Br.t rfl ?_
  conv => whnf
  refine Br.t rfl ?_
  conv => whnf
  refine Br.t rfl ?_
  conv => whnf
  refine Br.t rfl ?_
  conv => whnf
  refine Br.t rfl ?_
  conv => whnf
  refine cut_ 832 [(2, .bool (decide ((wrap64 ((wrap64 ((a0_3.length : Int) + (a0_4.length : Int))) + (a0_5.length : Int))) > 0)))] [] rfl ⟨.inl rfl, trivial⟩ trivial ?_
  conv => whnf
  injection H with H; subst H
  exact ret_fz [] (rtA_eq rfl)
  conv => whnf
  refine Br.f ff_ ?_
  conv => whnf
  refine Br.f ff_ ?_
  conv => whnf
  refine Br.f ff_ ?_
  conv => whnf
  refine br_d H (fun c H => ?_) (fun c H => ?_)
  conv => whnf
  refine Br.t ft_ ?_
  conv => whnf
  refine Br.t ft_ ?_
  conv => whnf
  refine Br.t ft_ ?_
  conv => whnf
  refine Br.t ft_ ?_
  conv => whnf
  refine Br.t ft_ ?_
  conv => whnf
  refine Br.t ft_ ?_
  conv => whnf
  refine Br.t ft_ ?_
  conv => whnf
  refine Br.t ft_ ?_
  conv => whnf
  refine Br.t ft_ ?_
  conv => whnf
  refine Br.t ft_ ?_
  conv => whnf
  refine Br.t ft_ ?_
  conv => whnf
  refine Br.t ft_ ?_
  conv => whnf
  refine cut_ 832 [(2, .bool (decide ((wrap64 ((wrap64 ((a0_3.length : Int) + (a0_4.length : Int))) + (a0_5.length : Int))) > 0)))] [] rfl ⟨.inl rfl, trivial⟩ trivial ?_
  conv => whnf
  injection H with H; subst H
  exact ret_fz [] (rtA_eq rfl)
  conv => whnf
  refine Br.f ff_ ?_
  conv => whnf
  refine Br.f ff_ ?_
  conv => whnf
  refine Br.f ff_ ?_
  conv => whnf
  refine Br.f ff_ ?_
  conv => whnf
  refine Br.f ff_ ?_
  conv => whnf
  refine Br.f ff_ ?_
  conv => whnf
  refine Br.f ff_ ?_
  conv => whnf
  refine Br.f ff_ ?_
  conv => whnf
  refine Br.f ff_ ?_
  conv => whnf
  refine Br.f ff_ ?_
  conv => whnf
  refine Br.f ff_ ?_
  conv => whnf
  refine Br.f ff_ ?_
  conv => whnf
  refine cut_ 832 [(2, .bool false)] [] rfl ⟨.inl rfl, trivial⟩ trivial ?_
  conv => whnf
  injection H with H; subst H
  exact ret_fz [] (rtA_eq rfl)
  conv => whnf
  refine cut_ 568 [(2, .bool false)] [] rfl ⟨.inl rfl, trivial⟩ trivial ?_
  conv => whnf
  injection H with H; subst H
  exact ret_fz [] (rtA_eq rfl)
  conv => whnf
  refine Br.t ft_ ?_
  conv => whnf
  refine Br.t ft_ ?_
  conv => whnf
  refine Br.t ft_ ?_
  conv => whnf
  refine Br.t ft_ ?_
  conv => whnf
  refine cut_ 560 [(1, .bp 0 0), (74, .bool true)] [(0, .box [.int .i64 a0_0, .int .i64 a0_1, (sv_str a0_2), (sv_S_impl_ClaimUse a0_3), (sv_str a0_4), (sv_str a0_5)])] rfl ⟨.inl rfl, ⟨.inl rfl, trivial⟩⟩ ⟨rfl, trivial⟩ ?_
  conv => whnf
  refine Br.t rfl ?_
  conv => whnf
  refine cut_ 568 [(2, .bool false)] [] rfl ⟨.inl rfl, trivial⟩ trivial ?_
  conv => whnf
  injection H with H; subst H
  exact ret_fz [] (rtA_eq rfl)
  conv => whnf
  refine Br.t ft_ ?_
  conv => whnf
  refine Br.t ft_ ?_
  conv => whnf
  refine Br.t ft_ ?_
  conv => whnf
  refine Br.t ft_ ?_
  conv => whnf
  refine Br.t ft_ ?_
  conv => whnf
  refine Br.t ft_ ?_
  conv => whnf
  refine Br.t ft_ ?_
  conv => whnf
  refine Br.t ft_ ?_
  conv => whnf
  refine cut_ 336 [(1, .bp 0 0), (46, .bool true)] [(0, .box [.int .i64 a0_0, .int .i64 a0_1, (sv_str a0_2), (sv_S_impl_ClaimUse a0_3), (sv_str a0_4), (sv_str a0_5)])] rfl ⟨.inl rfl, ⟨.inl rfl, trivial⟩⟩ ⟨rfl, trivial⟩ ?_
  conv => whnf
  refine Br.t rfl ?_
  conv => whnf
  refine cut_ 344 [(2, .bool false)] [] rfl ⟨.inl rfl, trivial⟩ trivial ?_
  conv => whnf
  injection H with H; subst H
  exact ret_fz [] (rtA_eq rfl)
theorem impl_ClaimBook_spot.l0_lp {F : (Exit → St → Prop) → St → Prop} {hv : List Tmp} {Q : Exit → St → Prop} {σ : St} {r : Int} {k : Nat} {a0_1 : List S_impl_ClaimSpot} {a1 : ByteArray} {x10 : Int} (H : impl_ClaimBook_spot.l0 k a0_1 a1 x10 = some r) (rn : List (Option Nat)) (h1 : Fits σ σ [0] [(10, .int .i64 x10)] [] [] rn)
    (h2 : ∀ (k0 : Nat) (x10 : Int), k0 < k + 1 → impl_ClaimBook_spot.l0 k0 a0_1 a1 x10 = some r → headN σ hv [0] [(10, .int .i64 x10)] [] [] (F (fun e σ' => match e with | .normal => ∃ (y : Nat × Int) (rn : List (Option Nat)), (impl_ClaimBook_spot.l0 y.1 a0_1 a1 y.2 = some r ∧ y.1 < k + 1) ∧ y.1 < k0 ∧ Fits σ σ' [0] [(10, .int .i64 y.2)] [] [] rn | e => Q e σ'))) : Lp F hv Q σ := by
  unfold Lp
  refine ⟨Nat × Int, fun x => impl_ClaimBook_spot.l0 x.1 a0_1 a1 x.2 = some r ∧ x.1 < k + 1, fun x => x.1, [0], fun x => [(10, .int .i64 x.2)], fun x => [], fun x => [], ⟨(k, x10), rn, ⟨H, Nat.lt_succ_self _⟩, h1⟩, ?_⟩
  rintro ⟨k, x10⟩ ⟨H, hk⟩
  exact h2 k x10 hk H
theorem impl_ClaimBook_spot.ac {k : Nat} {a0_0 : List S_impl_ClaimFoe} {a0_1 : List S_impl_ClaimSpot} {a0_2 : List ByteArray} {a0_3 : List S_impl_ClaimPart} {a0_4 : Int} {a1 : ByteArray} {r : Int} (H : impl_ClaimBook_spot.f k a0_0 a0_1 a0_2 a0_3 a0_4 a1 = some r) : ACalls Try.prog G 177 [] [.agg [(sv_S_impl_ClaimFoe a0_0), (sv_S_impl_ClaimSpot a0_1), (sv_str a0_2), (sv_S_impl_ClaimPart a0_3), .int .i64 a0_4], .str a1] [] (.int .i64 r) := by
  refine acalls_of tok hP Try.func177 rfl (by kernel_rfl) [.tmp 4] rfl (by kernel_rfl) (Nat.le_of_ble_eq_true rfl) (.l .n (.l (.l .n (.l .n (.l .n (.l (.c .n .n) .n)))) .n)) rfl ?_
  unfold impl_ClaimBook_spot.f at H
  conv => whnf
  refine impl_ClaimBook_spot.l0_lp (a0_1 := a0_1) (a1 := a1) (k := k) H [] (fits_of ⟨.inl ⟨rfl, rfl⟩, trivial⟩ trivial fi_ trivial rfl) ?_
  intro k x10 hk H; rcases k with _ | k; exact none_elim H; rw [impl_ClaimBook_spot.l0] at H; conv => whnf
  refine br_d H (fun c H => ?_) (fun c H => ?_)
  conv => whnf
  refine nd_ H (fun c H => ?_)
  conv => whnf
  refine Nd.mk nf_ ?_
  conv => whnf
  refine El.mk (rdm_en_S_impl_ClaimSpot _ _ nf_ nf_) ?_
  conv => whnf
  refine cut_ 104 [(1, .str a1), (5, .int .i64 x10), (6, .bp 80 0), (8, (sv_S_impl_ClaimSpot a0_1)), (9, .int .i64 (a0_1.length : Int)), (10, .int .i64 x10)] [(80, .box [.str ((rd_impl_ClaimSpot a0_1 x10).f0), .int .i64 ((rd_impl_ClaimSpot a0_1 x10).f1), .int .i64 ((rd_impl_ClaimSpot a0_1 x10).f2), .int .i64 ((rd_impl_ClaimSpot a0_1 x10).f3), (sv_str ((rd_impl_ClaimSpot a0_1 x10).f4))])] rfl ⟨.inl rfl, ⟨.inl rfl, ⟨.inl rfl, ⟨.inl rfl, ⟨.inl rfl, ⟨.inl rfl, trivial⟩⟩⟩⟩⟩⟩ ⟨rfl, trivial⟩ ?_
  conv => whnf
  refine br_d H (fun c H => ?_) (fun c H => ?_)
  conv => whnf
  injection H with H; subst H
  exact ret_fz [] (rtA_eq rfl)
  conv => whnf
  exact ⟨(k, wrap64 (x10 + 1)), [], ⟨H, lt_⟩, lt_, (fits_of ⟨.inl ⟨rfl, rfl⟩, trivial⟩ trivial fi_ trivial rfl)⟩
  conv => whnf
  injection H with H; subst H
  exact ret_fz [] (rtA_eq rfl)
theorem impl_within.l0_lp {F : (Exit → St → Prop) → St → Prop} {hv : List Tmp} {Q : Exit → St → Prop} {σ : St} {r : Bool} {k : Nat} {l0 : List ByteArray} {l1 : List ByteArray} {x9 : Int} (H : impl_within.l0 k l0 l1 x9 = some r) (rn : List (Option Nat)) (h1 : Fits σ σ [] [(9, .int .i64 x9)] [] [] rn)
    (h2 : ∀ (k0 : Nat) (x9 : Int), k0 < k + 1 → impl_within.l0 k0 l0 l1 x9 = some r → headN σ hv [] [(9, .int .i64 x9)] [] [] (F (fun e σ' => match e with | .normal => ∃ (y : Nat × Int) (rn : List (Option Nat)), (impl_within.l0 y.1 l0 l1 y.2 = some r ∧ y.1 < k + 1) ∧ y.1 < k0 ∧ Fits σ σ' [] [(9, .int .i64 y.2)] [] [] rn | e => Q e σ'))) : Lp F hv Q σ := by
  unfold Lp
  refine ⟨Nat × Int, fun x => impl_within.l0 x.1 l0 l1 x.2 = some r ∧ x.1 < k + 1, fun x => x.1, [], fun x => [(9, .int .i64 x.2)], fun x => [], fun x => [], ⟨(k, x9), rn, ⟨H, Nat.lt_succ_self _⟩, h1⟩, ?_⟩
  rintro ⟨k, x9⟩ ⟨H, hk⟩
  exact h2 k x9 hk H
theorem impl_within.ac {k : Nat} {l0 : List ByteArray} {l1 : List ByteArray} {r : Bool} (H : impl_within.f k l0 l1 = some r) : ACalls Try.prog G 178 [] [(sv_str l0), (sv_str l1)] [] (.bool r) := by
  refine acalls_of tok hP Try.func178 rfl (by kernel_rfl) [.tmp 4] rfl (by kernel_rfl) (Nat.le_of_ble_eq_true rfl) (.l .n (.l (.l .n (.l .n (.l .n (.l (.l .n (.c .n .n)) .n)))) .n)) rfl ?_
  unfold impl_within.f at H
  conv => whnf
  refine impl_within.l0_lp (l0 := l0) (l1 := l1) (k := k) H [] (fits_of ⟨.inl ⟨rfl, rfl⟩, trivial⟩ trivial fi_ trivial rfl) ?_
  intro k x9 hk H; rcases k with _ | k; exact none_elim H; rw [impl_within.l0] at H; conv => whnf
  refine br_d H (fun c H => ?_) (fun c H => ?_)
  conv => whnf
  refine nd_ H (fun c H => ?_)
  conv => whnf
  refine Nd.mk nf_ ?_
  conv => whnf
  refine El.mk (rdm_en_str _ _ nf_ nf_) ?_
  conv => whnf
  revert H; refine bind_elim (fun t1227 A H => ?_)
  refine call_mk (impl_has.ac A) (avAL_cons (avA_shut' rfl) (avAL_cons (avA_shut' rfl) (avAL_nil))) (Or.inl rfl) rfl rfl (Nat.le_of_ble_eq_true rfl) ?_
  conv => whnf
  refine cut_ 96 [(1, (sv_str l1)), (7, (sv_str l0)), (8, .int .i64 (l0.length : Int)), (9, .int .i64 x9), (16, .bool (!t1227))] [] rfl ⟨.inl rfl, ⟨.inl rfl, ⟨.inl rfl, ⟨.inl rfl, ⟨.inl rfl, trivial⟩⟩⟩⟩⟩ trivial ?_
  conv => whnf
  refine br_nt H (fun c H => ?_) (fun c H => ?_)
  conv => whnf
  exact ⟨(k, wrap64 (x9 + 1)), [], ⟨H, lt_⟩, lt_, (fits_of ⟨.inl ⟨rfl, rfl⟩, trivial⟩ trivial fi_ trivial rfl)⟩
  conv => whnf
  injection H with H; subst H
  exact ret_fz [] (rtA_eq rfl)
  conv => whnf
  injection H with H; subst H
  exact ret_fz [] (rtA_eq rfl)
theorem impl_ClaimBook_knows.l0_lp {F : (Exit → St → Prop) → St → Prop} {hv : List Tmp} {Q : Exit → St → Prop} {σ : St} {r : Bool} {k : Nat} {a0_0 : List S_impl_ClaimFoe} {a0_1 : List S_impl_ClaimSpot} {a0_2 : List ByteArray} {a0_3 : List S_impl_ClaimPart} {a0_4 : Int} {a1_3 : List S_impl_ClaimUse} {a1_4 : List ByteArray} {a1_5 : List ByteArray} {x10 : Int} (H : impl_ClaimBook_knows.l0 k a0_0 a0_1 a0_2 a0_3 a0_4 a1_3 a1_4 a1_5 x10 = some r) (rn : List (Option Nat)) (h1 : Fits σ σ [] [(10, .int .i64 x10)] [] [] rn)
    (h2 : ∀ (k0 : Nat) (x10 : Int), k0 < k + 1 → impl_ClaimBook_knows.l0 k0 a0_0 a0_1 a0_2 a0_3 a0_4 a1_3 a1_4 a1_5 x10 = some r → headN σ hv [] [(10, .int .i64 x10)] [] [] (F (fun e σ' => match e with | .normal => ∃ (y : Nat × Int) (rn : List (Option Nat)), (impl_ClaimBook_knows.l0 y.1 a0_0 a0_1 a0_2 a0_3 a0_4 a1_3 a1_4 a1_5 y.2 = some r ∧ y.1 < k + 1) ∧ y.1 < k0 ∧ Fits σ σ' [] [(10, .int .i64 y.2)] [] [] rn | e => Q e σ'))) : Lp F hv Q σ := by
  unfold Lp
  refine ⟨Nat × Int, fun x => impl_ClaimBook_knows.l0 x.1 a0_0 a0_1 a0_2 a0_3 a0_4 a1_3 a1_4 a1_5 x.2 = some r ∧ x.1 < k + 1, fun x => x.1, [], fun x => [(10, .int .i64 x.2)], fun x => [], fun x => [], ⟨(k, x10), rn, ⟨H, Nat.lt_succ_self _⟩, h1⟩, ?_⟩
  rintro ⟨k, x10⟩ ⟨H, hk⟩
  exact h2 k x10 hk H
theorem impl_ClaimBook_knows.ac {k : Nat} {a0_0 : List S_impl_ClaimFoe} {a0_1 : List S_impl_ClaimSpot} {a0_2 : List ByteArray} {a0_3 : List S_impl_ClaimPart} {a0_4 : Int} {a1_0 : Int} {a1_1 : Int} {a1_2 : List ByteArray} {a1_3 : List S_impl_ClaimUse} {a1_4 : List ByteArray} {a1_5 : List ByteArray} {r : Bool} (H : impl_ClaimBook_knows.f k a0_0 a0_1 a0_2 a0_3 a0_4 a1_0 a1_1 a1_2 a1_3 a1_4 a1_5 = some r) : ACalls Try.prog G 105 [] [.agg [(sv_S_impl_ClaimFoe a0_0), (sv_S_impl_ClaimSpot a0_1), (sv_str a0_2), (sv_S_impl_ClaimPart a0_3), .int .i64 a0_4], .agg [.int .i64 a1_0, .int .i64 a1_1, (sv_str a1_2), (sv_S_impl_ClaimUse a1_3), (sv_str a1_4), (sv_str a1_5)]] [] (.bool r) := by
  refine acalls_of tok hP Try.func105 rfl (by kernel_rfl) [.tmp 4] rfl (by kernel_rfl) (Nat.le_of_ble_eq_true rfl) (.l .n (.l (.l .n (.l .n (.l .n (.l (.c .n .n) .n)))) (.c .n .n))) rfl ?_
  unfold impl_ClaimBook_knows.f at H
  conv => whnf
  refine impl_ClaimBook_knows.l0_lp (a0_0 := a0_0) (a0_1 := a0_1) (a0_2 := a0_2) (a0_3 := a0_3) (a0_4 := a0_4) (a1_3 := a1_3) (a1_4 := a1_4) (a1_5 := a1_5) (k := k) H [] (fits_of ⟨.inl ⟨rfl, rfl⟩, trivial⟩ trivial fi_ trivial rfl) ?_
  intro k x10 hk H; rcases k with _ | k; exact none_elim H; rw [impl_ClaimBook_knows.l0] at H; conv => whnf
  refine br_d H (fun c H => ?_) (fun c H => ?_)
  conv => whnf
  refine nd_ H (fun c H => ?_)
  conv => whnf
  refine Nd.mk nf_ ?_
  conv => whnf
  refine El.mk (rdm_en_S_impl_ClaimUse _ _ nf_ nf_) ?_
  conv => whnf
  refine cut_ 96 [(2, .bp 0 0), (3, .bp 8 0), (6, .bp 80 0), (8, (sv_S_impl_ClaimUse a1_3)), (9, .int .i64 (a1_3.length : Int)), (10, .int .i64 x10)] [(0, .box [(sv_S_impl_ClaimFoe a0_0), (sv_S_impl_ClaimSpot a0_1), (sv_str a0_2), (sv_S_impl_ClaimPart a0_3), .int .i64 a0_4]), (8, .box [.int .i64 a1_0, .int .i64 a1_1, (sv_str a1_2), (sv_S_impl_ClaimUse a1_3), (sv_str a1_4), (sv_str a1_5)]), (80, .box [.str ((rd_impl_ClaimUse a1_3 x10).f0), .int .i64 ((rd_impl_ClaimUse a1_3 x10).f1), .int .i64 ((rd_impl_ClaimUse a1_3 x10).f2)])] rfl ⟨.inl rfl, ⟨.inl rfl, ⟨.inl rfl, ⟨.inl rfl, ⟨.inl rfl, ⟨.inl rfl, trivial⟩⟩⟩⟩⟩⟩ ⟨rfl, ⟨rfl, ⟨rfl, trivial⟩⟩⟩ ?_
  conv => whnf
  revert H; refine bind_elim (fun t1231 A H => ?_)
  refine call_mk (impl_ClaimBook_spot.ac A) (avAL_cons (avA_agg (avL_cons (av_shut' rfl) (avL_cons (av_shut' rfl) (avL_cons (av_shut' rfl) (avL_cons (av_shut' rfl) (avL_cons (av_shut' rfl) (avL_nil))))))) (avAL_cons (avA_shut' rfl) (avAL_nil))) (Or.inl rfl) rfl rfl (Nat.le_of_ble_eq_true rfl) ?_
  conv => whnf
  refine br_d H (fun c H => ?_) (fun c H => ?_)
  conv => whnf
  injection H with H; subst H
  exact ret_fz [] (rtA_eq rfl)
  conv => whnf
  exact ⟨(k, wrap64 (x10 + 1)), [], ⟨H, lt_⟩, lt_, (fits_of ⟨.inl ⟨rfl, rfl⟩, trivial⟩ trivial fi_ trivial rfl)⟩
  conv => whnf
  revert H; refine bind_elim (fun t1234 A H => ?_)
  refine call_mk (impl_within.ac A) (avAL_cons (avA_shut' rfl) (avAL_cons (avA_shut' rfl) (avAL_nil))) (Or.inl rfl) rfl rfl (Nat.le_of_ble_eq_true rfl) ?_
  conv => whnf
  refine br_t H (fun c H => ?_) (fun c H => ?_)
  conv => whnf
  refine Br.t ft_ ?_
  conv => whnf
  refine Br.t ft_ ?_
  conv => whnf
  refine Br.t ft_ ?_
  conv => whnf
  refine Br.t ft_ ?_
  conv => whnf
  revert H; refine bind_elim (fun t1235 A H => ?_)
  refine call_mk (impl_within.ac A) (avAL_cons (avA_shut' rfl) (avAL_cons (avA_shut' rfl) (avAL_nil))) (Or.inl rfl) rfl rfl (Nat.le_of_ble_eq_true rfl) ?_
  conv => whnf
  refine Br.t ft_ ?_
  conv => whnf
  refine cut_ 168 [(4, .bool t1235)] [] rfl ⟨.inl rfl, trivial⟩ trivial ?_
  conv => whnf
  injection H with H; subst H
  exact ret_fz [] (rtA_eq rfl)
  conv => whnf
  refine Br.f ff_ ?_
  conv => whnf
  refine Br.f ff_ ?_
  conv => whnf
  refine Br.f ff_ ?_
  conv => whnf
  refine Br.f ff_ ?_
  conv => whnf
  refine Br.f ff_ ?_
  conv => whnf
  refine cut_ 168 [(4, .bool false)] [] rfl ⟨.inl rfl, trivial⟩ trivial ?_
  conv => whnf
  injection H with H; subst H
  exact ret_fz [] (rtA_eq rfl)
theorem impl_ClaimBook_settled.j0_sq {F : (Exit → St → Prop) → St → Prop} {hv : List Tmp} {K : St → Prop} {Q : Exit → St → Prop} {σ : St} {r : Bool} {KK : Nat} {a0_0 : List S_impl_ClaimFoe} {a0_1 : List S_impl_ClaimSpot} {a0_2 : List ByteArray} {a0_3 : List S_impl_ClaimPart} {a0_4 : Int} {a1_1 : Int} {a1_2 : List ByteArray} {a1_3 : List S_impl_ClaimUse} {x11 : Int}
    (h1 : F (fun e σ' => match e with | .normal => ∃ (y : Nat) (rn : List (Option Nat)), (impl_ClaimBook_settled.j0 y a0_0 a0_1 a0_2 a0_3 a0_4 a1_1 a1_2 a1_3 x11 = some r ∧ y < KK) ∧ Fits σ σ' [] [] [] [] rn | e => Q e σ') σ)
    (h2 : ∀ (k : Nat), k < KK → impl_ClaimBook_settled.j0 k a0_0 a0_1 a0_2 a0_3 a0_4 a1_1 a1_2 a1_3 x11 = some r → headN σ hv [] [] [] [] K) : Sq F hv K Q σ := by
  unfold Sq
  refine ⟨Nat, fun x => impl_ClaimBook_settled.j0 x a0_0 a0_1 a0_2 a0_3 a0_4 a1_1 a1_2 a1_3 x11 = some r ∧ x < KK, [], fun x => [], fun x => [], fun x => [], h1, ?_⟩
  rintro k ⟨H, hk⟩
  exact h2 k hk H
theorem impl_ClaimBook_settled.l0_lp {F : (Exit → St → Prop) → St → Prop} {hv : List Tmp} {Q : Exit → St → Prop} {σ : St} {r : Bool} {k : Nat} {a0_0 : List S_impl_ClaimFoe} {a0_1 : List S_impl_ClaimSpot} {a0_2 : List ByteArray} {a0_3 : List S_impl_ClaimPart} {a0_4 : Int} {a1_1 : Int} {a1_2 : List ByteArray} {a1_3 : List S_impl_ClaimUse} {x11 : Int} (H : impl_ClaimBook_settled.l0 k a0_0 a0_1 a0_2 a0_3 a0_4 a1_1 a1_2 a1_3 x11 = some r) (rn : List (Option Nat)) (h1 : Fits σ σ [] [(11, .int .i64 x11)] [] [] rn)
    (h2 : ∀ (k0 : Nat) (x11 : Int), k0 < k + 1 → impl_ClaimBook_settled.l0 k0 a0_0 a0_1 a0_2 a0_3 a0_4 a1_1 a1_2 a1_3 x11 = some r → headN σ hv [] [(11, .int .i64 x11)] [] [] (F (fun e σ' => match e with | .normal => ∃ (y : Nat × Int) (rn : List (Option Nat)), (impl_ClaimBook_settled.l0 y.1 a0_0 a0_1 a0_2 a0_3 a0_4 a1_1 a1_2 a1_3 y.2 = some r ∧ y.1 < k + 1) ∧ y.1 < k0 ∧ Fits σ σ' [] [(11, .int .i64 y.2)] [] [] rn | e => Q e σ'))) : Lp F hv Q σ := by
  unfold Lp
  refine ⟨Nat × Int, fun x => impl_ClaimBook_settled.l0 x.1 a0_0 a0_1 a0_2 a0_3 a0_4 a1_1 a1_2 a1_3 x.2 = some r ∧ x.1 < k + 1, fun x => x.1, [], fun x => [(11, .int .i64 x.2)], fun x => [], fun x => [], ⟨(k, x11), rn, ⟨H, Nat.lt_succ_self _⟩, h1⟩, ?_⟩
  rintro ⟨k, x11⟩ ⟨H, hk⟩
  exact h2 k x11 hk H
theorem impl_ClaimBook_settled.ac {k : Nat} {a0_0 : List S_impl_ClaimFoe} {a0_1 : List S_impl_ClaimSpot} {a0_2 : List ByteArray} {a0_3 : List S_impl_ClaimPart} {a0_4 : Int} {a1_0 : Int} {a1_1 : Int} {a1_2 : List ByteArray} {a1_3 : List S_impl_ClaimUse} {a1_4 : List ByteArray} {a1_5 : List ByteArray} {r : Bool} (H : impl_ClaimBook_settled.f k a0_0 a0_1 a0_2 a0_3 a0_4 a1_0 a1_1 a1_2 a1_3 a1_4 a1_5 = some r) : ACalls Try.prog G 106 [] [.agg [(sv_S_impl_ClaimFoe a0_0), (sv_S_impl_ClaimSpot a0_1), (sv_str a0_2), (sv_S_impl_ClaimPart a0_3), .int .i64 a0_4], .agg [.int .i64 a1_0, .int .i64 a1_1, (sv_str a1_2), (sv_S_impl_ClaimUse a1_3), (sv_str a1_4), (sv_str a1_5)]] [] (.bool r) := by
  refine acalls_of tok hP Try.func106 rfl (by kernel_rfl) [.tmp 4] rfl (by kernel_rfl) (Nat.le_of_ble_eq_true rfl) (.l .n (.l (.l .n (.l .n (.l .n (.j (.c .n (.l .n (.l (.c .n (.l (.c .n .n) .n)) (.l .n (.c .n .n))))) .n)))) .n)) rfl ?_
  unfold impl_ClaimBook_settled.f at H
  conv => whnf
  refine impl_ClaimBook_settled.l0_lp (a0_0 := a0_0) (a0_1 := a0_1) (a0_2 := a0_2) (a0_3 := a0_3) (a0_4 := a0_4) (a1_1 := a1_1) (a1_2 := a1_2) (a1_3 := a1_3) (k := k) H [] (fits_of ⟨.inl ⟨rfl, rfl⟩, trivial⟩ trivial fi_ trivial rfl) ?_
  intro k x11 hk H; rcases k with _ | k; exact none_elim H; rw [impl_ClaimBook_settled.l0] at H; conv => whnf
  refine br_d H (fun c H => ?_) (fun c H => ?_)
  conv => whnf
  refine impl_ClaimBook_settled.j0_sq (a0_0 := a0_0) (a0_1 := a0_1) (a0_2 := a0_2) (a0_3 := a0_3) (a0_4 := a0_4) (a1_1 := a1_1) (a1_2 := a1_2) (a1_3 := a1_3) (x11 := x11) (KK := k + 1) (r := r) ?_ ?_
  conv => whnf
  refine nd_ H (fun c H => ?_)
  conv => whnf
  refine Nd.mk nf_ ?_
  conv => whnf
  refine El.mk (rdm_en_S_impl_ClaimUse _ _ nf_ nf_) ?_
  conv => whnf
  refine cut_ 96 [(2, .bp 0 0), (3, .bp 8 0), (6, .bp 80 0), (9, (sv_S_impl_ClaimUse a1_3)), (10, .int .i64 (a1_3.length : Int)), (11, .int .i64 x11)] [(0, .box [(sv_S_impl_ClaimFoe a0_0), (sv_S_impl_ClaimSpot a0_1), (sv_str a0_2), (sv_S_impl_ClaimPart a0_3), .int .i64 a0_4]), (8, .box [.int .i64 a1_0, .int .i64 a1_1, (sv_str a1_2), (sv_S_impl_ClaimUse a1_3), (sv_str a1_4), (sv_str a1_5)]), (80, .box [.str ((rd_impl_ClaimUse a1_3 x11).f0), .int .i64 ((rd_impl_ClaimUse a1_3 x11).f1), .int .i64 ((rd_impl_ClaimUse a1_3 x11).f2)])] rfl ⟨.inl rfl, ⟨.inl rfl, ⟨.inl rfl, ⟨.inl rfl, ⟨.inl rfl, ⟨.inl rfl, trivial⟩⟩⟩⟩⟩⟩ ⟨rfl, ⟨rfl, ⟨rfl, trivial⟩⟩⟩ ?_
  conv => whnf
  revert H; refine bind_elim (fun t1319 A H => ?_)
  refine call_mk (impl_ClaimBook_spot.ac A) (avAL_cons (avA_agg (avL_cons (av_shut' rfl) (avL_cons (av_shut' rfl) (avL_cons (av_shut' rfl) (avL_cons (av_shut' rfl) (avL_cons (av_shut' rfl) (avL_nil))))))) (avAL_cons (avA_shut' rfl) (avAL_nil))) (Or.inl rfl) rfl rfl (Nat.le_of_ble_eq_true rfl) ?_
  conv => whnf
  refine nd_ H (fun c H => ?_)
  conv => whnf
  refine nd_ H (fun c H => ?_)
  conv => whnf
  refine El.mk (rdm_en_S_impl_ClaimSpot _ _ nf_ nf_) ?_
  conv => whnf
  refine br_d H (fun c H => ?_) (fun c H => ?_)
  conv => whnf
  refine Br.t ft_ ?_
  conv => whnf
  refine Br.t ft_ ?_
  conv => whnf
  refine Br.t ft_ ?_
  conv => whnf
  refine Br.t ft_ ?_
  conv => whnf
  refine Br.t ft_ ?_
  conv => whnf
  refine cut_ 320 [(2, .bp 0 0), (3, .bp 8 0), (6, .bp 80 0), (7, .bp 160 0), (9, (sv_S_impl_ClaimUse a1_3)), (10, .int .i64 (a1_3.length : Int)), (11, .int .i64 x11), (40, .bool true)] [(0, .box [(sv_S_impl_ClaimFoe a0_0), (sv_S_impl_ClaimSpot a0_1), (sv_str a0_2), (sv_S_impl_ClaimPart a0_3), .int .i64 a0_4]), (8, .box [.int .i64 a1_0, .int .i64 a1_1, (sv_str a1_2), (sv_S_impl_ClaimUse a1_3), (sv_str a1_4), (sv_str a1_5)]), (80, .box [.str ((rd_impl_ClaimUse a1_3 x11).f0), .int .i64 ((rd_impl_ClaimUse a1_3 x11).f1), .int .i64 ((rd_impl_ClaimUse a1_3 x11).f2)]), (160, .box [.str ((rd_impl_ClaimSpot a0_1 t1319).f0), .int .i64 ((rd_impl_ClaimSpot a0_1 t1319).f1), .int .i64 ((rd_impl_ClaimSpot a0_1 t1319).f2), .int .i64 ((rd_impl_ClaimSpot a0_1 t1319).f3), (sv_str ((rd_impl_ClaimSpot a0_1 t1319).f4))])] rfl ⟨.inl rfl, ⟨.inl rfl, ⟨.inl rfl, ⟨.inl rfl, ⟨.inl rfl, ⟨.inl rfl, ⟨.inl rfl, ⟨.inl rfl, trivial⟩⟩⟩⟩⟩⟩⟩⟩ ⟨rfl, ⟨rfl, ⟨rfl, ⟨rfl, trivial⟩⟩⟩⟩ ?_
  conv => whnf
  refine Br.t rfl ?_
  conv => whnf
  refine cut_ 328 [(4, .bool false)] [] rfl ⟨.inl rfl, trivial⟩ trivial ?_
  conv => whnf
  injection H with H; subst H
  exact ret_fz [] (rtA_eq rfl)
  conv => whnf
  refine Br.f ff_ ?_
  conv => whnf
  refine Br.f ff_ ?_
  conv => whnf
  refine Br.f ff_ ?_
  conv => whnf
  refine br_d H (fun c H => ?_) (fun c H => ?_)
  conv => whnf
  refine Br.t ft_ ?_
  conv => whnf
  refine Br.t ft_ ?_
  conv => whnf
  refine Br.f ff_ ?_
  conv => whnf
  refine Br.t ft_ ?_
  conv => whnf
  refine Br.f ff_ ?_
  conv => whnf
  refine cut_ 320 [(2, .bp 0 0), (3, .bp 8 0), (6, .bp 80 0), (7, .bp 160 0), (9, (sv_S_impl_ClaimUse a1_3)), (10, .int .i64 (a1_3.length : Int)), (11, .int .i64 x11), (40, .bool (!(decide (((rd_impl_ClaimSpot a0_1 t1319).f3) = 0))))] [(0, .box [(sv_S_impl_ClaimFoe a0_0), (sv_S_impl_ClaimSpot a0_1), (sv_str a0_2), (sv_S_impl_ClaimPart a0_3), .int .i64 a0_4]), (8, .box [.int .i64 a1_0, .int .i64 a1_1, (sv_str a1_2), (sv_S_impl_ClaimUse a1_3), (sv_str a1_4), (sv_str a1_5)]), (80, .box [.str ((rd_impl_ClaimUse a1_3 x11).f0), .int .i64 ((rd_impl_ClaimUse a1_3 x11).f1), .int .i64 ((rd_impl_ClaimUse a1_3 x11).f2)]), (160, .box [.str ((rd_impl_ClaimSpot a0_1 t1319).f0), .int .i64 ((rd_impl_ClaimSpot a0_1 t1319).f1), .int .i64 ((rd_impl_ClaimSpot a0_1 t1319).f2), .int .i64 ((rd_impl_ClaimSpot a0_1 t1319).f3), (sv_str ((rd_impl_ClaimSpot a0_1 t1319).f4))])] rfl ⟨.inl rfl, ⟨.inl rfl, ⟨.inl rfl, ⟨.inl rfl, ⟨.inl rfl, ⟨.inl rfl, ⟨.inl rfl, ⟨.inl rfl, trivial⟩⟩⟩⟩⟩⟩⟩⟩ ⟨rfl, ⟨rfl, ⟨rfl, ⟨rfl, trivial⟩⟩⟩⟩ ?_
  conv => whnf
  refine br_nd H (fun c H => ?_) (fun c H => ?_)
  conv => whnf
  refine br_nd H (fun c H => ?_) (fun c H => ?_)
  conv => whnf
  refine br_nd H (fun c H => ?_) (fun c H => ?_)
  conv => whnf
  refine Br.f ff_ ?_
  conv => whnf
  refine Br.f ff_ ?_
  conv => whnf
  refine Br.f ff_ ?_
  conv => whnf
  refine Br.f ff_ ?_
  conv => whnf
  refine Br.f ff_ ?_
  conv => whnf
  refine Br.f ff_ ?_
  conv => whnf
  refine Br.f rfl ?_
  conv => whnf
  refine Br.f rfl ?_
  conv => whnf
  refine Br.f rfl ?_
  conv => whnf
  refine Br.f rfl ?_
  conv => whnf
  refine br_nd H (fun c H => ?_) (fun c H => ?_)
  conv => whnf
  refine Br.f ff_ ?_
  conv => whnf
  refine Br.f ff_ ?_
  conv => whnf
  refine Br.f ff_ ?_
  conv => whnf
  refine Br.f ff_ ?_
  conv => whnf
  refine Br.f ff_ ?_
  conv => whnf
  refine Br.f rfl ?_
  conv => whnf
  refine Br.f ff_ ?_
  conv => whnf
  refine Br.f rfl ?_
  conv => whnf
  refine cut_ 536 [(2, .bp 0 0), (3, .bp 8 0), (9, (sv_S_impl_ClaimUse a1_3)), (10, .int .i64 (a1_3.length : Int)), (11, .int .i64 x11), (67, .bool false)] [(0, .box [(sv_S_impl_ClaimFoe a0_0), (sv_S_impl_ClaimSpot a0_1), (sv_str a0_2), (sv_S_impl_ClaimPart a0_3), .int .i64 a0_4]), (8, .box [.int .i64 a1_0, .int .i64 a1_1, (sv_str a1_2), (sv_S_impl_ClaimUse a1_3), (sv_str a1_4), (sv_str a1_5)])] rfl ⟨.inl rfl, ⟨.inl rfl, ⟨.inl rfl, ⟨.inl rfl, ⟨.inl rfl, ⟨.inl rfl, trivial⟩⟩⟩⟩⟩⟩ ⟨rfl, ⟨rfl, trivial⟩⟩ ?_
  conv => whnf
  refine Br.f rfl ?_
  conv => whnf
  exact ⟨k, [], ⟨H, lt_⟩, (fits_of trivial trivial fi_ trivial rfl)⟩
  conv => whnf
  refine Br.t ft_ ?_
  conv => whnf
  refine Br.t ft_ ?_
  conv => whnf
  refine Br.t ft_ ?_
  conv => whnf
  refine Br.t ft_ ?_
  conv => whnf
  revert H; refine bind_elim (fun t1320 A H => ?_)
  refine call_mk (impl_within.ac A) (avAL_cons (avA_shut' rfl) (avAL_cons (avA_shut' rfl) (avAL_nil))) (Or.inl rfl) rfl rfl (Nat.le_of_ble_eq_true rfl) ?_
  conv => whnf
  refine Br.t ft_ ?_
  conv => whnf
  refine Br.f rfl ?_
  conv => whnf
  refine Br.t ft_ ?_
  conv => whnf
  refine Br.f rfl ?_
  conv => whnf
  refine cut_ 536 [(2, .bp 0 0), (3, .bp 8 0), (9, (sv_S_impl_ClaimUse a1_3)), (10, .int .i64 (a1_3.length : Int)), (11, .int .i64 x11), (67, .bool (!t1320))] [(0, .box [(sv_S_impl_ClaimFoe a0_0), (sv_S_impl_ClaimSpot a0_1), (sv_str a0_2), (sv_S_impl_ClaimPart a0_3), .int .i64 a0_4]), (8, .box [.int .i64 a1_0, .int .i64 a1_1, (sv_str a1_2), (sv_S_impl_ClaimUse a1_3), (sv_str a1_4), (sv_str a1_5)])] rfl ⟨.inl rfl, ⟨.inl rfl, ⟨.inl rfl, ⟨.inl rfl, ⟨.inl rfl, ⟨.inl rfl, trivial⟩⟩⟩⟩⟩⟩ ⟨rfl, ⟨rfl, trivial⟩⟩ ?_
  conv => whnf
  refine br_nt H (fun c H => ?_) (fun c H => ?_)
  conv => whnf
  exact ⟨k, [], ⟨H, lt_⟩, (fits_of trivial trivial fi_ trivial rfl)⟩
  conv => whnf
  injection H with H; subst H
  exact ret_fz [] (rtA_eq rfl)
  conv => whnf
  refine Br.t ft_ ?_
  conv => whnf
  refine Br.t ft_ ?_
  conv => whnf
  refine Br.t ft_ ?_
  conv => whnf
  refine Br.t ft_ ?_
  conv => whnf
  revert H; refine bind_elim (fun t1321 A H => ?_)
  refine call_mk (impl_within.ac A) (avAL_cons (avA_shut' rfl) (avAL_cons (avA_shut' rfl) (avAL_nil))) (Or.inl rfl) rfl rfl (Nat.le_of_ble_eq_true rfl) ?_
  conv => whnf
  refine Br.t ft_ ?_
  conv => whnf
  refine Br.t ft_ ?_
  conv => whnf
  refine br_nt H (fun c H => ?_) (fun c H => ?_)
  conv => whnf
  refine Br.f ff_ ?_
  conv => whnf
  refine Br.f ff_ ?_
  conv => whnf
  refine Br.f ff_ ?_
  conv => whnf
  refine br_nd H (fun c H => ?_) (fun c H => ?_)
  conv => whnf
  refine Br.f ff_ ?_
  conv => whnf
  refine Br.f ff_ ?_
  conv => whnf
  refine Br.f ff_ ?_
  conv => whnf
  refine Br.f ff_ ?_
  conv => whnf
  refine Br.f ff_ ?_
  conv => whnf
  refine Br.f ff_ ?_
  conv => whnf
  refine Br.f ff_ ?_
  conv => whnf
  refine Br.f ff_ ?_
  conv => whnf
  refine cut_ 536 [(2, .bp 0 0), (3, .bp 8 0), (9, (sv_S_impl_ClaimUse a1_3)), (10, .int .i64 (a1_3.length : Int)), (11, .int .i64 x11), (67, .bool false)] [(0, .box [(sv_S_impl_ClaimFoe a0_0), (sv_S_impl_ClaimSpot a0_1), (sv_str a0_2), (sv_S_impl_ClaimPart a0_3), .int .i64 a0_4]), (8, .box [.int .i64 a1_0, .int .i64 a1_1, (sv_str a1_2), (sv_S_impl_ClaimUse a1_3), (sv_str a1_4), (sv_str a1_5)])] rfl ⟨.inl rfl, ⟨.inl rfl, ⟨.inl rfl, ⟨.inl rfl, ⟨.inl rfl, ⟨.inl rfl, trivial⟩⟩⟩⟩⟩⟩ ⟨rfl, ⟨rfl, trivial⟩⟩ ?_
  conv => whnf
  refine Br.f rfl ?_
  conv => whnf
  exact ⟨k, [], ⟨H, lt_⟩, (fits_of trivial trivial fi_ trivial rfl)⟩
  conv => whnf
  refine Br.t ft_ ?_
  conv => whnf
  refine Br.t ft_ ?_
  conv => whnf
  refine Br.t ft_ ?_
  conv => whnf
  refine Br.t ft_ ?_
  conv => whnf
  revert H; refine bind_elim (fun t1322 A H => ?_)
  refine call_mk (impl_within.ac A) (avAL_cons (avA_shut' rfl) (avAL_cons (avA_shut' rfl) (avAL_nil))) (Or.inl rfl) rfl rfl (Nat.le_of_ble_eq_true rfl) ?_
  conv => whnf
  refine Br.t ft_ ?_
  conv => whnf
  refine Br.f ff_ ?_
  conv => whnf
  refine Br.t ft_ ?_
  conv => whnf
  refine Br.f ff_ ?_
  conv => whnf
  refine cut_ 536 [(2, .bp 0 0), (3, .bp 8 0), (9, (sv_S_impl_ClaimUse a1_3)), (10, .int .i64 (a1_3.length : Int)), (11, .int .i64 x11), (67, .bool (!t1322))] [(0, .box [(sv_S_impl_ClaimFoe a0_0), (sv_S_impl_ClaimSpot a0_1), (sv_str a0_2), (sv_S_impl_ClaimPart a0_3), .int .i64 a0_4]), (8, .box [.int .i64 a1_0, .int .i64 a1_1, (sv_str a1_2), (sv_S_impl_ClaimUse a1_3), (sv_str a1_4), (sv_str a1_5)])] rfl ⟨.inl rfl, ⟨.inl rfl, ⟨.inl rfl, ⟨.inl rfl, ⟨.inl rfl, ⟨.inl rfl, trivial⟩⟩⟩⟩⟩⟩ ⟨rfl, ⟨rfl, trivial⟩⟩ ?_
  conv => whnf
  refine br_nt H (fun c H => ?_) (fun c H => ?_)
  conv => whnf
  exact ⟨k, [], ⟨H, lt_⟩, (fits_of trivial trivial fi_ trivial rfl)⟩
  conv => whnf
  injection H with H; subst H
  exact ret_fz [] (rtA_eq rfl)
  conv => whnf
  refine Br.t ft_ ?_
  conv => whnf
  refine Br.t ft_ ?_
  conv => whnf
  refine Br.t ft_ ?_
  conv => whnf
  refine Br.t ft_ ?_
  conv => whnf
  refine Br.t ft_ ?_
  conv => whnf
  refine cut_ 536 [(2, .bp 0 0), (3, .bp 8 0), (9, (sv_S_impl_ClaimUse a1_3)), (10, .int .i64 (a1_3.length : Int)), (11, .int .i64 x11), (67, .bool true)] [(0, .box [(sv_S_impl_ClaimFoe a0_0), (sv_S_impl_ClaimSpot a0_1), (sv_str a0_2), (sv_S_impl_ClaimPart a0_3), .int .i64 a0_4]), (8, .box [.int .i64 a1_0, .int .i64 a1_1, (sv_str a1_2), (sv_S_impl_ClaimUse a1_3), (sv_str a1_4), (sv_str a1_5)])] rfl ⟨.inl rfl, ⟨.inl rfl, ⟨.inl rfl, ⟨.inl rfl, ⟨.inl rfl, ⟨.inl rfl, trivial⟩⟩⟩⟩⟩⟩ ⟨rfl, ⟨rfl, trivial⟩⟩ ?_
  conv => whnf
  refine Br.t rfl ?_
  conv => whnf
  injection H with H; subst H
  exact ret_fz [] (rtA_eq rfl)
  conv => whnf
  exact ⟨k, [], ⟨H, lt_⟩, (fits_of trivial trivial fi_ trivial rfl)⟩
  conv => whnf
  refine cut_ 328 [(4, .bool false)] [] rfl ⟨.inl rfl, trivial⟩ trivial ?_
  conv => whnf
  injection H with H; subst H
  exact ret_fz [] (rtA_eq rfl)
  conv => whnf
  refine Br.f ff_ ?_
  conv => whnf
  refine Br.f ff_ ?_
  conv => whnf
  refine Br.f ff_ ?_
  conv => whnf
  refine Br.f ff_ ?_
  conv => whnf
  refine Br.f ff_ ?_
  conv => whnf
  refine cut_ 320 [(2, .bp 0 0), (3, .bp 8 0), (6, .bp 80 0), (7, .bp 160 0), (9, (sv_S_impl_ClaimUse a1_3)), (10, .int .i64 (a1_3.length : Int)), (11, .int .i64 x11), (40, .bool false)] [(0, .box [(sv_S_impl_ClaimFoe a0_0), (sv_S_impl_ClaimSpot a0_1), (sv_str a0_2), (sv_S_impl_ClaimPart a0_3), .int .i64 a0_4]), (8, .box [.int .i64 a1_0, .int .i64 a1_1, (sv_str a1_2), (sv_S_impl_ClaimUse a1_3), (sv_str a1_4), (sv_str a1_5)]), (80, .box [.str ((rd_impl_ClaimUse a1_3 x11).f0), .int .i64 ((rd_impl_ClaimUse a1_3 x11).f1), .int .i64 ((rd_impl_ClaimUse a1_3 x11).f2)]), (160, .box [.str ((rd_impl_ClaimSpot a0_1 t1319).f0), .int .i64 ((rd_impl_ClaimSpot a0_1 t1319).f1), .int .i64 ((rd_impl_ClaimSpot a0_1 t1319).f2), .int .i64 ((rd_impl_ClaimSpot a0_1 t1319).f3), (sv_str ((rd_impl_ClaimSpot a0_1 t1319).f4))])] rfl ⟨.inl rfl, ⟨.inl rfl, ⟨.inl rfl, ⟨.inl rfl, ⟨.inl rfl, ⟨.inl rfl, ⟨.inl rfl, ⟨.inl rfl, trivial⟩⟩⟩⟩⟩⟩⟩⟩ ⟨rfl, ⟨rfl, ⟨rfl, ⟨rfl, trivial⟩⟩⟩⟩ ?_
  conv => whnf
  refine Br.f rfl ?_
  conv => whnf
  refine br_nd H (fun c H => ?_) (fun c H => ?_)
  conv => whnf
  refine br_nd H (fun c H => ?_) (fun c H => ?_)
  conv => whnf
  refine Br.f ff_ ?_
  conv => whnf
  refine Br.f ff_ ?_
  conv => whnf
  refine Br.f ff_ ?_
  conv => whnf
  refine Br.f ff_ ?_
  conv => whnf
  refine Br.f ff_ ?_
  conv => whnf
  refine Br.f ff_ ?_
  conv => whnf
  refine Br.f rfl ?_
  conv => whnf
  refine Br.f rfl ?_
  conv => whnf
  refine Br.f rfl ?_
  conv => whnf
  refine Br.f rfl ?_
  conv => whnf
  refine br_nd H (fun c H => ?_) (fun c H => ?_)
  conv => whnf
  refine Br.f ff_ ?_
  conv => whnf
  refine Br.f ff_ ?_
  conv => whnf
  refine Br.f ff_ ?_
  conv => whnf
  refine Br.f ff_ ?_
  conv => whnf
  refine Br.f ff_ ?_
  conv => whnf
  refine Br.f rfl ?_
  conv => whnf
  refine Br.f ff_ ?_
  conv => whnf
  refine Br.f rfl ?_
  conv => whnf
  refine cut_ 536 [(2, .bp 0 0), (3, .bp 8 0), (9, (sv_S_impl_ClaimUse a1_3)), (10, .int .i64 (a1_3.length : Int)), (11, .int .i64 x11), (67, .bool false)] [(0, .box [(sv_S_impl_ClaimFoe a0_0), (sv_S_impl_ClaimSpot a0_1), (sv_str a0_2), (sv_S_impl_ClaimPart a0_3), .int .i64 a0_4]), (8, .box [.int .i64 a1_0, .int .i64 a1_1, (sv_str a1_2), (sv_S_impl_ClaimUse a1_3), (sv_str a1_4), (sv_str a1_5)])] rfl ⟨.inl rfl, ⟨.inl rfl, ⟨.inl rfl, ⟨.inl rfl, ⟨.inl rfl, ⟨.inl rfl, trivial⟩⟩⟩⟩⟩⟩ ⟨rfl, ⟨rfl, trivial⟩⟩ ?_
  conv => whnf
  refine Br.f rfl ?_
  conv => whnf
  exact ⟨k, [], ⟨H, lt_⟩, (fits_of trivial trivial fi_ trivial rfl)⟩
  conv => whnf
  refine Br.t ft_ ?_
  conv => whnf
  refine Br.t ft_ ?_
  conv => whnf
  refine Br.t ft_ ?_
  conv => whnf
  refine Br.t ft_ ?_
  conv => whnf
  revert H; refine bind_elim (fun t1323 A H => ?_)
  refine call_mk (impl_within.ac A) (avAL_cons (avA_shut' rfl) (avAL_cons (avA_shut' rfl) (avAL_nil))) (Or.inl rfl) rfl rfl (Nat.le_of_ble_eq_true rfl) ?_
  conv => whnf
  refine Br.t ft_ ?_
  conv => whnf
  refine Br.f rfl ?_
  conv => whnf
  refine Br.t ft_ ?_
  conv => whnf
  refine Br.f rfl ?_
  conv => whnf
  refine cut_ 536 [(2, .bp 0 0), (3, .bp 8 0), (9, (sv_S_impl_ClaimUse a1_3)), (10, .int .i64 (a1_3.length : Int)), (11, .int .i64 x11), (67, .bool (!t1323))] [(0, .box [(sv_S_impl_ClaimFoe a0_0), (sv_S_impl_ClaimSpot a0_1), (sv_str a0_2), (sv_S_impl_ClaimPart a0_3), .int .i64 a0_4]), (8, .box [.int .i64 a1_0, .int .i64 a1_1, (sv_str a1_2), (sv_S_impl_ClaimUse a1_3), (sv_str a1_4), (sv_str a1_5)])] rfl ⟨.inl rfl, ⟨.inl rfl, ⟨.inl rfl, ⟨.inl rfl, ⟨.inl rfl, ⟨.inl rfl, trivial⟩⟩⟩⟩⟩⟩ ⟨rfl, ⟨rfl, trivial⟩⟩ ?_
  conv => whnf
  refine br_nt H (fun c H => ?_) (fun c H => ?_)
  conv => whnf
  exact ⟨k, [], ⟨H, lt_⟩, (fits_of trivial trivial fi_ trivial rfl)⟩
  conv => whnf
  injection H with H; subst H
  exact ret_fz [] (rtA_eq rfl)
  conv => whnf
  refine Br.t ft_ ?_
  conv => whnf
  refine Br.t ft_ ?_
  conv => whnf
  refine Br.t ft_ ?_
  conv => whnf
  refine Br.t ft_ ?_
  conv => whnf
  revert H; refine bind_elim (fun t1324 A H => ?_)
  refine call_mk (impl_within.ac A) (avAL_cons (avA_shut' rfl) (avAL_cons (avA_shut' rfl) (avAL_nil))) (Or.inl rfl) rfl rfl (Nat.le_of_ble_eq_true rfl) ?_
  conv => whnf
  refine Br.t ft_ ?_
  conv => whnf
  refine Br.t ft_ ?_
  conv => whnf
  refine br_nt H (fun c H => ?_) (fun c H => ?_)
  conv => whnf
  refine Br.f ff_ ?_
  conv => whnf
  refine Br.f ff_ ?_
  conv => whnf
  refine Br.f ff_ ?_
  conv => whnf
  refine br_nd H (fun c H => ?_) (fun c H => ?_)
  conv => whnf
  refine Br.f ff_ ?_
  conv => whnf
  refine Br.f ff_ ?_
  conv => whnf
  refine Br.f ff_ ?_
  conv => whnf
  refine Br.f ff_ ?_
  conv => whnf
  refine Br.f ff_ ?_
  conv => whnf
  refine Br.f ff_ ?_
  conv => whnf
  refine Br.f ff_ ?_
  conv => whnf
  refine Br.f ff_ ?_
  conv => whnf
  refine cut_ 536 [(2, .bp 0 0), (3, .bp 8 0), (9, (sv_S_impl_ClaimUse a1_3)), (10, .int .i64 (a1_3.length : Int)), (11, .int .i64 x11), (67, .bool false)] [(0, .box [(sv_S_impl_ClaimFoe a0_0), (sv_S_impl_ClaimSpot a0_1), (sv_str a0_2), (sv_S_impl_ClaimPart a0_3), .int .i64 a0_4]), (8, .box [.int .i64 a1_0, .int .i64 a1_1, (sv_str a1_2), (sv_S_impl_ClaimUse a1_3), (sv_str a1_4), (sv_str a1_5)])] rfl ⟨.inl rfl, ⟨.inl rfl, ⟨.inl rfl, ⟨.inl rfl, ⟨.inl rfl, ⟨.inl rfl, trivial⟩⟩⟩⟩⟩⟩ ⟨rfl, ⟨rfl, trivial⟩⟩ ?_
  conv => whnf
  refine Br.f rfl ?_
  conv => whnf
  exact ⟨k, [], ⟨H, lt_⟩, (fits_of trivial trivial fi_ trivial rfl)⟩
  conv => whnf
  refine Br.t ft_ ?_
  conv => whnf
  refine Br.t ft_ ?_
  conv => whnf
  refine Br.t ft_ ?_
  conv => whnf
  refine Br.t ft_ ?_
  conv => whnf
  revert H; refine bind_elim (fun t1325 A H => ?_)
  refine call_mk (impl_within.ac A) (avAL_cons (avA_shut' rfl) (avAL_cons (avA_shut' rfl) (avAL_nil))) (Or.inl rfl) rfl rfl (Nat.le_of_ble_eq_true rfl) ?_
  conv => whnf
  refine Br.t ft_ ?_
  conv => whnf
  refine Br.f ff_ ?_
  conv => whnf
  refine Br.t ft_ ?_
  conv => whnf
  refine Br.f ff_ ?_
  conv => whnf
  refine cut_ 536 [(2, .bp 0 0), (3, .bp 8 0), (9, (sv_S_impl_ClaimUse a1_3)), (10, .int .i64 (a1_3.length : Int)), (11, .int .i64 x11), (67, .bool (!t1325))] [(0, .box [(sv_S_impl_ClaimFoe a0_0), (sv_S_impl_ClaimSpot a0_1), (sv_str a0_2), (sv_S_impl_ClaimPart a0_3), .int .i64 a0_4]), (8, .box [.int .i64 a1_0, .int .i64 a1_1, (sv_str a1_2), (sv_S_impl_ClaimUse a1_3), (sv_str a1_4), (sv_str a1_5)])] rfl ⟨.inl rfl, ⟨.inl rfl, ⟨.inl rfl, ⟨.inl rfl, ⟨.inl rfl, ⟨.inl rfl, trivial⟩⟩⟩⟩⟩⟩ ⟨rfl, ⟨rfl, trivial⟩⟩ ?_
  conv => whnf
  refine br_nt H (fun c H => ?_) (fun c H => ?_)
  conv => whnf
  exact ⟨k, [], ⟨H, lt_⟩, (fits_of trivial trivial fi_ trivial rfl)⟩
  conv => whnf
  injection H with H; subst H
  exact ret_fz [] (rtA_eq rfl)
  conv => whnf
  refine Br.t ft_ ?_
  conv => whnf
  refine Br.t ft_ ?_
  conv => whnf
  refine Br.t ft_ ?_
  conv => whnf
  refine Br.t ft_ ?_
  conv => whnf
  refine Br.t ft_ ?_
  conv => whnf
  refine cut_ 536 [(2, .bp 0 0), (3, .bp 8 0), (9, (sv_S_impl_ClaimUse a1_3)), (10, .int .i64 (a1_3.length : Int)), (11, .int .i64 x11), (67, .bool true)] [(0, .box [(sv_S_impl_ClaimFoe a0_0), (sv_S_impl_ClaimSpot a0_1), (sv_str a0_2), (sv_S_impl_ClaimPart a0_3), .int .i64 a0_4]), (8, .box [.int .i64 a1_0, .int .i64 a1_1, (sv_str a1_2), (sv_S_impl_ClaimUse a1_3), (sv_str a1_4), (sv_str a1_5)])] rfl ⟨.inl rfl, ⟨.inl rfl, ⟨.inl rfl, ⟨.inl rfl, ⟨.inl rfl, ⟨.inl rfl, trivial⟩⟩⟩⟩⟩⟩ ⟨rfl, ⟨rfl, trivial⟩⟩ ?_
  conv => whnf
  refine Br.t rfl ?_
  conv => whnf
  injection H with H; subst H
  exact ret_fz [] (rtA_eq rfl)
  conv => whnf
  exact ⟨k, [], ⟨H, lt_⟩, (fits_of trivial trivial fi_ trivial rfl)⟩
  intro k hk H; rcases k with _ | k; exact none_elim H; rw [impl_ClaimBook_settled.j0] at H; conv => whnf
  exact ⟨(k, wrap64 (x11 + 1)), [], ⟨H, lt_⟩, lt_, (fits_of ⟨.inl ⟨rfl, rfl⟩, trivial⟩ trivial fi_ trivial rfl)⟩
  conv => whnf
  injection H with H; subst H
  exact ret_fz [] (rtA_eq rfl)
theorem impl_shareUse.l1_lp {F : (Exit → St → Prop) → St → Prop} {hv : List Tmp} {Q : Exit → St → Prop} {σ : St} {r : Bool} {k : Nat} {a0_3 : List S_impl_ClaimUse} {a1_3 : List S_impl_ClaimUse} {x12 : Int} {x19 : Int} (H : impl_shareUse.l1 k a0_3 a1_3 x12 x19 = some r) (rn : List (Option Nat)) (h1 : Fits σ σ [] [(19, .int .i64 x19)] [] [] rn)
    (h2 : ∀ (k0 : Nat) (x19 : Int), k0 < k + 1 → impl_shareUse.l1 k0 a0_3 a1_3 x12 x19 = some r → headN σ hv [] [(19, .int .i64 x19)] [] [] (F (fun e σ' => match e with | .normal => ∃ (y : Nat × Int) (rn : List (Option Nat)), (impl_shareUse.l1 y.1 a0_3 a1_3 x12 y.2 = some r ∧ y.1 < k + 1) ∧ y.1 < k0 ∧ Fits σ σ' [] [(19, .int .i64 y.2)] [] [] rn | e => Q e σ'))) : Lp F hv Q σ := by
  unfold Lp
  refine ⟨Nat × Int, fun x => impl_shareUse.l1 x.1 a0_3 a1_3 x12 x.2 = some r ∧ x.1 < k + 1, fun x => x.1, [], fun x => [(19, .int .i64 x.2)], fun x => [], fun x => [], ⟨(k, x19), rn, ⟨H, Nat.lt_succ_self _⟩, h1⟩, ?_⟩
  rintro ⟨k, x19⟩ ⟨H, hk⟩
  exact h2 k x19 hk H
theorem impl_shareUse.l0_lp {F : (Exit → St → Prop) → St → Prop} {hv : List Tmp} {Q : Exit → St → Prop} {σ : St} {r : Bool} {k : Nat} {a0_3 : List S_impl_ClaimUse} {a1_3 : List S_impl_ClaimUse} {x12 : Int} (H : impl_shareUse.l0 k a0_3 a1_3 x12 = some r) (rn : List (Option Nat)) (h1 : Fits σ σ [0] [(12, .int .i64 x12)] [] [] rn)
    (h2 : ∀ (k0 : Nat) (x12 : Int), k0 < k + 1 → impl_shareUse.l0 k0 a0_3 a1_3 x12 = some r → headN σ hv [0] [(12, .int .i64 x12)] [] [] (F (fun e σ' => match e with | .normal => ∃ (y : Nat × Int) (rn : List (Option Nat)), (impl_shareUse.l0 y.1 a0_3 a1_3 y.2 = some r ∧ y.1 < k + 1) ∧ y.1 < k0 ∧ Fits σ σ' [0] [(12, .int .i64 y.2)] [] [] rn | e => Q e σ'))) : Lp F hv Q σ := by
  unfold Lp
  refine ⟨Nat × Int, fun x => impl_shareUse.l0 x.1 a0_3 a1_3 x.2 = some r ∧ x.1 < k + 1, fun x => x.1, [0], fun x => [(12, .int .i64 x.2)], fun x => [], fun x => [], ⟨(k, x12), rn, ⟨H, Nat.lt_succ_self _⟩, h1⟩, ?_⟩
  rintro ⟨k, x12⟩ ⟨H, hk⟩
  exact h2 k x12 hk H
theorem impl_shareUse.ac {k : Nat} {a0_0 : Int} {a0_1 : Int} {a0_2 : List ByteArray} {a0_3 : List S_impl_ClaimUse} {a0_4 : List ByteArray} {a0_5 : List ByteArray} {a1_0 : Int} {a1_1 : Int} {a1_2 : List ByteArray} {a1_3 : List S_impl_ClaimUse} {a1_4 : List ByteArray} {a1_5 : List ByteArray} {r : Bool} (H : impl_shareUse.f k a0_0 a0_1 a0_2 a0_3 a0_4 a0_5 a1_0 a1_1 a1_2 a1_3 a1_4 a1_5 = some r) : ACalls Try.prog G 107 [] [.agg [.int .i64 a0_0, .int .i64 a0_1, (sv_str a0_2), (sv_S_impl_ClaimUse a0_3), (sv_str a0_4), (sv_str a0_5)], .agg [.int .i64 a1_0, .int .i64 a1_1, (sv_str a1_2), (sv_S_impl_ClaimUse a1_3), (sv_str a1_4), (sv_str a1_5)]] [] (.bool r) := by
  refine acalls_of tok hP Try.func107 rfl (by kernel_rfl) [.tmp 4] rfl (by kernel_rfl) (Nat.le_of_ble_eq_true rfl) (.l .n (.l (.l .n (.l .n (.l .n (.l (.c .n (.l .n (.l .n (.l .n (.l (.l .n (.c .n .n)) .n))))) .n)))) .n)) rfl ?_
  unfold impl_shareUse.f at H
  conv => whnf
  refine impl_shareUse.l0_lp (a0_3 := a0_3) (a1_3 := a1_3) (k := k) H [] (fits_of ⟨.inl ⟨rfl, rfl⟩, trivial⟩ trivial fi_ trivial rfl) ?_
  intro k x12 hk H; rcases k with _ | k; exact none_elim H; rw [impl_shareUse.l0] at H; conv => whnf
  refine br_d H (fun c H => ?_) (fun c H => ?_)
  conv => whnf
  refine nd_ H (fun c H => ?_)
  conv => whnf
  refine Nd.mk nf_ ?_
  conv => whnf
  refine El.mk (rdm_en_S_impl_ClaimUse _ _ nf_ nf_) ?_
  conv => whnf
  refine cut_ 96 [(3, .bp 8 0), (6, .bp 80 0), (10, (sv_S_impl_ClaimUse a0_3)), (11, .int .i64 (a0_3.length : Int)), (12, .int .i64 x12)] [(8, .box [.int .i64 a1_0, .int .i64 a1_1, (sv_str a1_2), (sv_S_impl_ClaimUse a1_3), (sv_str a1_4), (sv_str a1_5)]), (80, .box [.str ((rd_impl_ClaimUse a0_3 x12).f0), .int .i64 ((rd_impl_ClaimUse a0_3 x12).f1), .int .i64 ((rd_impl_ClaimUse a0_3 x12).f2)])] rfl ⟨.inl rfl, ⟨.inl rfl, ⟨.inl rfl, ⟨.inl rfl, ⟨.inl rfl, trivial⟩⟩⟩⟩⟩ ⟨rfl, ⟨rfl, trivial⟩⟩ ?_
  conv => whnf
  refine impl_shareUse.l1_lp (a0_3 := a0_3) (a1_3 := a1_3) (x12 := x12) (k := k) H [] (fits_of ⟨.inl ⟨rfl, rfl⟩, trivial⟩ trivial fi_ trivial rfl) ?_
  intro k x19 hk H; rcases k with _ | k; exact none_elim H; rw [impl_shareUse.l1] at H; conv => whnf
  refine br_d H (fun c H => ?_) (fun c H => ?_)
  conv => whnf
  refine nd_ H (fun c H => ?_)
  conv => whnf
  refine Nd.mk nf_ ?_
  conv => whnf
  refine El.mk (rdm_en_S_impl_ClaimUse _ _ nf_ nf_) ?_
  conv => whnf
  refine cut_ 208 [(3, .bp 8 0), (6, .bp 80 0), (10, (sv_S_impl_ClaimUse a0_3)), (11, .int .i64 (a0_3.length : Int)), (12, .int .i64 x12), (17, (sv_S_impl_ClaimUse a1_3)), (18, .int .i64 (a1_3.length : Int)), (19, .int .i64 x19), (27, .bool (decide (((rd_impl_ClaimUse a0_3 x12).f0).toList = ((rd_impl_ClaimUse a1_3 x19).f0).toList)))] [(8, .box [.int .i64 a1_0, .int .i64 a1_1, (sv_str a1_2), (sv_S_impl_ClaimUse a1_3), (sv_str a1_4), (sv_str a1_5)]), (80, .box [.str ((rd_impl_ClaimUse a0_3 x12).f0), .int .i64 ((rd_impl_ClaimUse a0_3 x12).f1), .int .i64 ((rd_impl_ClaimUse a0_3 x12).f2)])] rfl ⟨.inl rfl, ⟨.inl rfl, ⟨.inl rfl, ⟨.inl rfl, ⟨.inl rfl, ⟨.inl rfl, ⟨.inl rfl, ⟨.inl rfl, ⟨.inl rfl, trivial⟩⟩⟩⟩⟩⟩⟩⟩⟩ ⟨rfl, ⟨rfl, trivial⟩⟩ ?_
  conv => whnf
  refine br_d H (fun c H => ?_) (fun c H => ?_)
  conv => whnf
  injection H with H; subst H
  exact ret_fz [] (rtA_eq rfl)
  conv => whnf
  exact ⟨(k, wrap64 (x19 + 1)), [], ⟨H, lt_⟩, lt_, (fits_of ⟨.inl ⟨rfl, rfl⟩, trivial⟩ trivial fi_ trivial rfl)⟩
  conv => whnf
  exact ⟨(k, wrap64 (x12 + 1)), [], ⟨H, lt_⟩, lt_, (fits_of ⟨.inl ⟨rfl, rfl⟩, trivial⟩ trivial fi_ trivial rfl)⟩
  conv => whnf
  injection H with H; subst H
  exact ret_fz [] (rtA_eq rfl)
theorem impl_crosses_1.l0_lp {F : (Exit → St → Prop) → St → Prop} {hv : List Tmp} {Q : Exit → St → Prop} {σ : St} {r : Bool} {k : Nat} {a0_4 : List ByteArray} {a1_4 : List ByteArray} {a1_5 : List ByteArray} {x10 : Int} (H : impl_crosses_1.l0 k a0_4 a1_4 a1_5 x10 = some r) (rn : List (Option Nat)) (h1 : Fits σ σ [0] [(10, .int .i64 x10)] [] [] rn)
    (h2 : ∀ (k0 : Nat) (x10 : Int), k0 < k + 1 → impl_crosses_1.l0 k0 a0_4 a1_4 a1_5 x10 = some r → headN σ hv [0] [(10, .int .i64 x10)] [] [] (F (fun e σ' => match e with | .normal => ∃ (y : Nat × Int) (rn : List (Option Nat)), (impl_crosses_1.l0 y.1 a0_4 a1_4 a1_5 y.2 = some r ∧ y.1 < k + 1) ∧ y.1 < k0 ∧ Fits σ σ' [0] [(10, .int .i64 y.2)] [] [] rn | e => Q e σ'))) : Lp F hv Q σ := by
  unfold Lp
  refine ⟨Nat × Int, fun x => impl_crosses_1.l0 x.1 a0_4 a1_4 a1_5 x.2 = some r ∧ x.1 < k + 1, fun x => x.1, [0], fun x => [(10, .int .i64 x.2)], fun x => [], fun x => [], ⟨(k, x10), rn, ⟨H, Nat.lt_succ_self _⟩, h1⟩, ?_⟩
  rintro ⟨k, x10⟩ ⟨H, hk⟩
  exact h2 k x10 hk H
theorem impl_crosses_1.ac {k : Nat} {a0_0 : Int} {a0_1 : Int} {a0_2 : List ByteArray} {a0_3 : List S_impl_ClaimUse} {a0_4 : List ByteArray} {a0_5 : List ByteArray} {a1_0 : Int} {a1_1 : Int} {a1_2 : List ByteArray} {a1_3 : List S_impl_ClaimUse} {a1_4 : List ByteArray} {a1_5 : List ByteArray} {r : Bool} (H : impl_crosses_1.f k a0_0 a0_1 a0_2 a0_3 a0_4 a0_5 a1_0 a1_1 a1_2 a1_3 a1_4 a1_5 = some r) : ACalls Try.prog G 179 [] [.agg [.int .i64 a0_0, .int .i64 a0_1, (sv_str a0_2), (sv_S_impl_ClaimUse a0_3), (sv_str a0_4), (sv_str a0_5)], .agg [.int .i64 a1_0, .int .i64 a1_1, (sv_str a1_2), (sv_S_impl_ClaimUse a1_3), (sv_str a1_4), (sv_str a1_5)]] [] (.bool r) := by
  refine acalls_of tok hP Try.func179 rfl (by kernel_rfl) [.tmp 4] rfl (by kernel_rfl) (Nat.le_of_ble_eq_true rfl) (.l .n (.l (.l .n (.l .n (.l .n (.l (.c .n (.c .n (.l (.c .n .n) .n))) .n)))) .n)) rfl ?_
  unfold impl_crosses_1.f at H
  conv => whnf
  refine impl_crosses_1.l0_lp (a0_4 := a0_4) (a1_4 := a1_4) (a1_5 := a1_5) (k := k) H [] (fits_of ⟨.inl ⟨rfl, rfl⟩, trivial⟩ trivial fi_ trivial rfl) ?_
  intro k x10 hk H; rcases k with _ | k; exact none_elim H; rw [impl_crosses_1.l0] at H; conv => whnf
  refine br_d H (fun c H => ?_) (fun c H => ?_)
  conv => whnf
  refine nd_ H (fun c H => ?_)
  conv => whnf
  refine Nd.mk nf_ ?_
  conv => whnf
  refine El.mk (rdm_en_str _ _ nf_ nf_) ?_
  conv => whnf
  refine cut_ 88 [(3, .bp 8 0), (6, .str (rdOf ByteArray.empty a0_4 x10)), (8, (sv_str a0_4)), (9, .int .i64 (a0_4.length : Int)), (10, .int .i64 x10)] [(8, .box [.int .i64 a1_0, .int .i64 a1_1, (sv_str a1_2), (sv_S_impl_ClaimUse a1_3), (sv_str a1_4), (sv_str a1_5)])] rfl ⟨.inl rfl, ⟨.inl rfl, ⟨.inl rfl, ⟨.inl rfl, ⟨.inl rfl, trivial⟩⟩⟩⟩⟩ ⟨rfl, trivial⟩ ?_
  conv => whnf
  revert H; refine bind_elim (fun t1512 A H => ?_)
  refine call_mk (impl_has.ac A) (avAL_cons (avA_shut' rfl) (avAL_cons (avA_shut' rfl) (avAL_nil))) (Or.inl rfl) rfl rfl (Nat.le_of_ble_eq_true rfl) ?_
  conv => whnf
  refine br_t H (fun c H => ?_) (fun c H => ?_)
  conv => whnf
  refine Br.t ft_ ?_
  conv => whnf
  refine Br.t ft_ ?_
  conv => whnf
  refine Br.t ft_ ?_
  conv => whnf
  refine Br.t ft_ ?_
  conv => whnf
  refine cut_ 168 [(3, .bp 8 0), (8, (sv_str a0_4)), (9, .int .i64 (a0_4.length : Int)), (10, .int .i64 x10), (23, .bool true)] [(8, .box [.int .i64 a1_0, .int .i64 a1_1, (sv_str a1_2), (sv_S_impl_ClaimUse a1_3), (sv_str a1_4), (sv_str a1_5)])] rfl ⟨.inl rfl, ⟨.inl rfl, ⟨.inl rfl, ⟨.inl rfl, ⟨.inl rfl, trivial⟩⟩⟩⟩⟩ ⟨rfl, trivial⟩ ?_
  conv => whnf
  refine Br.t rfl ?_
  conv => whnf
  refine cut_ 176 [(4, .bool true)] [] rfl ⟨.inl rfl, trivial⟩ trivial ?_
  conv => whnf
  injection H with H; subst H
  exact ret_fz [] (rtA_eq rfl)
  conv => whnf
  refine Br.f ff_ ?_
  conv => whnf
  refine Br.f ff_ ?_
  conv => whnf
  refine Br.f ff_ ?_
  conv => whnf
  revert H; refine bind_elim (fun t1513 A H => ?_)
  refine call_mk (impl_has.ac A) (avAL_cons (avA_shut' rfl) (avAL_cons (avA_shut' rfl) (avAL_nil))) (Or.inl rfl) rfl rfl (Nat.le_of_ble_eq_true rfl) ?_
  conv => whnf
  refine Br.f ff_ ?_
  conv => whnf
  refine cut_ 168 [(3, .bp 8 0), (8, (sv_str a0_4)), (9, .int .i64 (a0_4.length : Int)), (10, .int .i64 x10), (23, .bool t1513)] [(8, .box [.int .i64 a1_0, .int .i64 a1_1, (sv_str a1_2), (sv_S_impl_ClaimUse a1_3), (sv_str a1_4), (sv_str a1_5)])] rfl ⟨.inl rfl, ⟨.inl rfl, ⟨.inl rfl, ⟨.inl rfl, ⟨.inl rfl, trivial⟩⟩⟩⟩⟩ ⟨rfl, trivial⟩ ?_
  conv => whnf
  refine br_t H (fun c H => ?_) (fun c H => ?_)
  conv => whnf
  refine cut_ 176 [(4, .bool true)] [] rfl ⟨.inl rfl, trivial⟩ trivial ?_
  conv => whnf
  injection H with H; subst H
  exact ret_fz [] (rtA_eq rfl)
  conv => whnf
  exact ⟨(k, wrap64 (x10 + 1)), [], ⟨H, lt_⟩, lt_, (fits_of ⟨.inl ⟨rfl, rfl⟩, trivial⟩ trivial fi_ trivial rfl)⟩
  conv => whnf
  injection H with H; subst H
  exact ret_fz [] (rtA_eq rfl)
theorem impl_crosses.ac {k : Nat} {a0_0 : Int} {a0_1 : Int} {a0_2 : List ByteArray} {a0_3 : List S_impl_ClaimUse} {a0_4 : List ByteArray} {a0_5 : List ByteArray} {a1_0 : Int} {a1_1 : Int} {a1_2 : List ByteArray} {a1_3 : List S_impl_ClaimUse} {a1_4 : List ByteArray} {a1_5 : List ByteArray} {r : Bool} (H : impl_crosses.f k a0_0 a0_1 a0_2 a0_3 a0_4 a0_5 a1_0 a1_1 a1_2 a1_3 a1_4 a1_5 = some r) : ACalls Try.prog G 108 [] [.agg [.int .i64 a0_0, .int .i64 a0_1, (sv_str a0_2), (sv_S_impl_ClaimUse a0_3), (sv_str a0_4), (sv_str a0_5)], .agg [.int .i64 a1_0, .int .i64 a1_1, (sv_str a1_2), (sv_S_impl_ClaimUse a1_3), (sv_str a1_4), (sv_str a1_5)]] [] (.bool r) := by
  refine acalls_of tok hP Try.func108 rfl (by kernel_rfl) [.tmp 4] rfl (by kernel_rfl) (Nat.le_of_ble_eq_true rfl) (.l .n (.l .n (.c .n .n))) rfl ?_
  unfold impl_crosses.f at H
  conv => whnf
  revert H; refine bind_elim (fun t1516 A H => ?_)
  refine call_mk (impl_crosses_1.ac A) (avAL_cons (avA_agg (avL_cons (av_shut' rfl) (avL_cons (av_shut' rfl) (avL_cons (av_shut' rfl) (avL_cons (av_shut' rfl) (avL_cons (av_shut' rfl) (avL_cons (av_shut' rfl) (avL_nil)))))))) (avAL_cons (avA_agg (avL_cons (av_shut' rfl) (avL_cons (av_shut' rfl) (avL_cons (av_shut' rfl) (avL_cons (av_shut' rfl) (avL_cons (av_shut' rfl) (avL_cons (av_shut' rfl) (avL_nil)))))))) (avAL_nil))) (Or.inl rfl) rfl rfl (Nat.le_of_ble_eq_true rfl) ?_
  conv => whnf
  refine br_t H (fun c H => ?_) (fun c H => ?_)
  conv => whnf
  refine Br.t ft_ ?_
  conv => whnf
  refine Br.t ft_ ?_
  conv => whnf
  refine Br.t ft_ ?_
  conv => whnf
  refine Br.t ft_ ?_
  conv => whnf
  refine cut_ 120 [(4, .bool true)] [] rfl ⟨.inl rfl, trivial⟩ trivial ?_
  conv => whnf
  injection H with H; subst H
  exact ret_fz [] (rtA_eq rfl)
  conv => whnf
  refine Br.f ff_ ?_
  conv => whnf
  refine Br.f ff_ ?_
  conv => whnf
  refine Br.f ff_ ?_
  conv => whnf
  revert H; refine bind_elim (fun t1517 A H => ?_)
  refine call_mk (impl_crosses_1.ac A) (avAL_cons (avA_agg (avL_cons (av_shut' rfl) (avL_cons (av_shut' rfl) (avL_cons (av_shut' rfl) (avL_cons (av_shut' rfl) (avL_cons (av_shut' rfl) (avL_cons (av_shut' rfl) (avL_nil)))))))) (avAL_cons (avA_agg (avL_cons (av_shut' rfl) (avL_cons (av_shut' rfl) (avL_cons (av_shut' rfl) (avL_cons (av_shut' rfl) (avL_cons (av_shut' rfl) (avL_cons (av_shut' rfl) (avL_nil)))))))) (avAL_nil))) (Or.inl rfl) rfl rfl (Nat.le_of_ble_eq_true rfl) ?_
  conv => whnf
  refine Br.f ff_ ?_
  conv => whnf
  refine cut_ 120 [(4, .bool t1517)] [] rfl ⟨.inl rfl, trivial⟩ trivial ?_
  conv => whnf
  injection H with H; subst H
  exact ret_fz [] (rtA_eq rfl)
theorem impl_ClaimBookOk.l2_lp {F : (Exit → St → Prop) → St → Prop} {hv : List Tmp} {Q : Exit → St → Prop} {σ : St} {r : Bool} {k : Nat} {a0_0 : List S_impl_ClaimFoe} {a0_1 : List S_impl_ClaimSpot} {a0_2 : List ByteArray} {a0_3 : List S_impl_ClaimPart} {a0_4 : Int} {x128 : Int} {x179 : Int} (H : impl_ClaimBookOk.l2 k a0_0 a0_1 a0_2 a0_3 a0_4 x128 x179 = some r) (rn : List (Option Nat)) (h1 : Fits σ σ [] [(179, .int .i64 x179)] [] [] rn)
    (h2 : ∀ (k0 : Nat) (x179 : Int), k0 < k + 1 → impl_ClaimBookOk.l2 k0 a0_0 a0_1 a0_2 a0_3 a0_4 x128 x179 = some r → headN σ hv [] [(179, .int .i64 x179)] [] [] (F (fun e σ' => match e with | .normal => ∃ (y : Nat × Int) (rn : List (Option Nat)), (impl_ClaimBookOk.l2 y.1 a0_0 a0_1 a0_2 a0_3 a0_4 x128 y.2 = some r ∧ y.1 < k + 1) ∧ y.1 < k0 ∧ Fits σ σ' [] [(179, .int .i64 y.2)] [] [] rn | e => Q e σ'))) : Lp F hv Q σ := by
  unfold Lp
  refine ⟨Nat × Int, fun x => impl_ClaimBookOk.l2 x.1 a0_0 a0_1 a0_2 a0_3 a0_4 x128 x.2 = some r ∧ x.1 < k + 1, fun x => x.1, [], fun x => [(179, .int .i64 x.2)], fun x => [], fun x => [], ⟨(k, x179), rn, ⟨H, Nat.lt_succ_self _⟩, h1⟩, ?_⟩
  rintro ⟨k, x179⟩ ⟨H, hk⟩
  exact h2 k x179 hk H
theorem impl_ClaimBookOk.l3_lp {F : (Exit → St → Prop) → St → Prop} {hv : List Tmp} {Q : Exit → St → Prop} {σ : St} {r : Bool} {k : Nat} {a0_0 : List S_impl_ClaimFoe} {a0_1 : List S_impl_ClaimSpot} {a0_2 : List ByteArray} {a0_3 : List S_impl_ClaimPart} {a0_4 : Int} {x128 : Int} {x179_1 : Int} (H : impl_ClaimBookOk.l3 k a0_0 a0_1 a0_2 a0_3 a0_4 x128 x179_1 = some r) (rn : List (Option Nat)) (h1 : Fits σ σ [] [(179, .int .i64 x179_1)] [] [] rn)
    (h2 : ∀ (k0 : Nat) (x179_1 : Int), k0 < k + 1 → impl_ClaimBookOk.l3 k0 a0_0 a0_1 a0_2 a0_3 a0_4 x128 x179_1 = some r → headN σ hv [] [(179, .int .i64 x179_1)] [] [] (F (fun e σ' => match e with | .normal => ∃ (y : Nat × Int) (rn : List (Option Nat)), (impl_ClaimBookOk.l3 y.1 a0_0 a0_1 a0_2 a0_3 a0_4 x128 y.2 = some r ∧ y.1 < k + 1) ∧ y.1 < k0 ∧ Fits σ σ' [] [(179, .int .i64 y.2)] [] [] rn | e => Q e σ'))) : Lp F hv Q σ := by
  unfold Lp
  refine ⟨Nat × Int, fun x => impl_ClaimBookOk.l3 x.1 a0_0 a0_1 a0_2 a0_3 a0_4 x128 x.2 = some r ∧ x.1 < k + 1, fun x => x.1, [], fun x => [(179, .int .i64 x.2)], fun x => [], fun x => [], ⟨(k, x179_1), rn, ⟨H, Nat.lt_succ_self _⟩, h1⟩, ?_⟩
  rintro ⟨k, x179_1⟩ ⟨H, hk⟩
  exact h2 k x179_1 hk H
theorem impl_ClaimBookOk.l1_lp {F : (Exit → St → Prop) → St → Prop} {hv : List Tmp} {Q : Exit → St → Prop} {σ : St} {r : Bool} {k : Nat} {a0_0 : List S_impl_ClaimFoe} {a0_1 : List S_impl_ClaimSpot} {a0_2 : List ByteArray} {a0_3 : List S_impl_ClaimPart} {a0_4 : Int} {x128 : Int} (H : impl_ClaimBookOk.l1 k a0_0 a0_1 a0_2 a0_3 a0_4 x128 = some r) (rn : List (Option Nat)) (h1 : Fits σ σ [] [(128, .int .i64 x128)] [] [] rn)
    (h2 : ∀ (k0 : Nat) (x128 : Int), k0 < k + 1 → impl_ClaimBookOk.l1 k0 a0_0 a0_1 a0_2 a0_3 a0_4 x128 = some r → headN σ hv [] [(128, .int .i64 x128)] [] [] (F (fun e σ' => match e with | .normal => ∃ (y : Nat × Int) (rn : List (Option Nat)), (impl_ClaimBookOk.l1 y.1 a0_0 a0_1 a0_2 a0_3 a0_4 y.2 = some r ∧ y.1 < k + 1) ∧ y.1 < k0 ∧ Fits σ σ' [] [(128, .int .i64 y.2)] [] [] rn | e => Q e σ'))) : Lp F hv Q σ := by
  unfold Lp
  refine ⟨Nat × Int, fun x => impl_ClaimBookOk.l1 x.1 a0_0 a0_1 a0_2 a0_3 a0_4 x.2 = some r ∧ x.1 < k + 1, fun x => x.1, [], fun x => [(128, .int .i64 x.2)], fun x => [], fun x => [], ⟨(k, x128), rn, ⟨H, Nat.lt_succ_self _⟩, h1⟩, ?_⟩
  rintro ⟨k, x128⟩ ⟨H, hk⟩
  exact h2 k x128 hk H
theorem impl_ClaimBookOk.l0_lp {F : (Exit → St → Prop) → St → Prop} {hv : List Tmp} {Q : Exit → St → Prop} {σ : St} {r : Bool} {k : Nat} {a0_0 : List S_impl_ClaimFoe} {a0_1 : List S_impl_ClaimSpot} {a0_2 : List ByteArray} {a0_3 : List S_impl_ClaimPart} {a0_4 : Int} {x51 : Int} (H : impl_ClaimBookOk.l0 k a0_0 a0_1 a0_2 a0_3 a0_4 x51 = some r) (rn : List (Option Nat)) (h1 : Fits σ σ [] [(51, .int .i64 x51)] [] [] rn)
    (h2 : ∀ (k0 : Nat) (x51 : Int), k0 < k + 1 → impl_ClaimBookOk.l0 k0 a0_0 a0_1 a0_2 a0_3 a0_4 x51 = some r → headN σ hv [] [(51, .int .i64 x51)] [] [] (F (fun e σ' => match e with | .normal => ∃ (y : Nat × Int) (rn : List (Option Nat)), (impl_ClaimBookOk.l0 y.1 a0_0 a0_1 a0_2 a0_3 a0_4 y.2 = some r ∧ y.1 < k + 1) ∧ y.1 < k0 ∧ Fits σ σ' [] [(51, .int .i64 y.2)] [] [] rn | e => Q e σ'))) : Lp F hv Q σ := by
  unfold Lp
  refine ⟨Nat × Int, fun x => impl_ClaimBookOk.l0 x.1 a0_0 a0_1 a0_2 a0_3 a0_4 x.2 = some r ∧ x.1 < k + 1, fun x => x.1, [], fun x => [(51, .int .i64 x.2)], fun x => [], fun x => [], ⟨(k, x51), rn, ⟨H, Nat.lt_succ_self _⟩, h1⟩, ?_⟩
  rintro ⟨k, x51⟩ ⟨H, hk⟩
  exact h2 k x51 hk H
theorem impl_ClaimBookOk.ac {k : Nat} {a0_0 : List S_impl_ClaimFoe} {a0_1 : List S_impl_ClaimSpot} {a0_2 : List ByteArray} {a0_3 : List S_impl_ClaimPart} {a0_4 : Int} {r : Bool} (H : impl_ClaimBookOk.f k a0_0 a0_1 a0_2 a0_3 a0_4 = some r) : ACalls Try.prog G 31 [] [.agg [(sv_S_impl_ClaimFoe a0_0), (sv_S_impl_ClaimSpot a0_1), (sv_str a0_2), (sv_S_impl_ClaimPart a0_3), .int .i64 a0_4]] [] (.bool r) := by
  refine acalls_of tok hP Try.func31 rfl (by kernel_rfl) [.tmp 2] rfl (by kernel_rfl) (Nat.le_of_ble_eq_true rfl) (.l .n (.l (.c .n (.l (.c .n .n) .n)) (.l (.l .n (.l .n (.l .n (.l (.c .n (.l (.c .n (.l (.c .n .n) .n)) (.c .n (.l (.c .n .n) .n)))) .n)))) (.l (.l .n (.c .n (.l .n (.l (.l .n (.l .n (.l (.c .n (.l (.c .n .n) .n)) (.l .n (.l .n (.l .n (.l (.c .n (.c .n (.l (.c .n .n) .n))) .n))))))) .n)))) .n)))) rfl ?_
  unfold impl_ClaimBookOk.f at H
  conv => whnf
  revert H; refine bind_elim (fun t1524 A H => ?_)
  refine call_mk (impl_ClaimBook_pairs.ac A) (avAL_cons (avA_agg (avL_cons (av_shut' rfl) (avL_cons (av_shut' rfl) (avL_cons (av_shut' rfl) (avL_cons (av_shut' rfl) (avL_cons (av_shut' rfl) (avL_nil))))))) (avAL_nil)) (Or.inl rfl) rfl rfl (Nat.le_of_ble_eq_true rfl) ?_
  conv => whnf
  revert H; refine bind_elim (fun t1525 A H => ?_)
  refine call_mk (impl_foesOk.ac A) (avAL_cons (avA_shut' rfl) (avAL_cons (avA_shut' rfl) (avAL_nil))) (Or.inl rfl) rfl rfl (Nat.le_of_ble_eq_true rfl) ?_
  conv => whnf
  refine br_nt H (fun c H => ?_) (fun c H => ?_)
  conv => whnf
  refine Br.f ff_ ?_
  conv => whnf
  refine Br.f ff_ ?_
  conv => whnf
  refine Br.f ff_ ?_
  conv => whnf
  refine Br.f ff_ ?_
  conv => whnf
  refine br_d H (fun c H => ?_) (fun c H => ?_)
  conv => whnf
  refine Br.t ft_ ?_
  conv => whnf
  refine Br.t ft_ ?_
  conv => whnf
  refine Br.t ft_ ?_
  conv => whnf
  refine Br.t ft_ ?_
  conv => whnf
  refine Br.t rfl ?_
  conv => whnf
  refine Br.t rfl ?_
  conv => whnf
  refine Br.t rfl ?_
  conv => whnf
  refine Br.t rfl ?_
  conv => whnf
  refine Br.t rfl ?_
  conv => whnf
  refine Br.t rfl ?_
  conv => whnf
  refine Br.t rfl ?_
  conv => whnf
  refine Br.t rfl ?_
  conv => whnf
  refine Br.t rfl ?_
  conv => whnf
  refine Br.t rfl ?_
  conv => whnf
  refine Br.t rfl ?_
  conv => whnf
  refine Br.t rfl ?_
  conv => whnf
  refine Br.t rfl ?_
  conv => whnf
  refine Br.t rfl ?_
  conv => whnf
  refine Br.t rfl ?_
  conv => whnf
  refine Br.t rfl ?_
  conv => whnf
  refine Br.t rfl ?_
  conv => whnf
  refine Br.t rfl ?_
  conv => whnf
  refine cut_ 320 [(1, .bp 0 0), (47, .bool true)] [(0, .box [(sv_S_impl_ClaimFoe a0_0), (sv_S_impl_ClaimSpot a0_1), (sv_str a0_2), (sv_S_impl_ClaimPart a0_3), .int .i64 a0_4])] rfl ⟨.inl rfl, ⟨.inl rfl, trivial⟩⟩ ⟨rfl, trivial⟩ ?_
  conv => whnf
  refine Br.t rfl ?_
  conv => whnf
  refine cut_ 328 [(2, .bool false)] [] rfl ⟨.inl rfl, trivial⟩ trivial ?_
  conv => whnf
  injection H with H; subst H
  exact ret_fz [] (rtA_eq rfl)
  conv => whnf
  refine Br.f ff_ ?_
  conv => whnf
  refine Br.f ff_ ?_
  conv => whnf
  refine Br.f ff_ ?_
  conv => whnf
  refine Br.f ff_ ?_
  conv => whnf
  refine br_d H (fun c H => ?_) (fun c H => ?_)
  conv => whnf
  refine Br.t ft_ ?_
  conv => whnf
  refine Br.t ft_ ?_
  conv => whnf
  refine Br.t ft_ ?_
  conv => whnf
  refine Br.t ft_ ?_
  conv => whnf
  refine Br.t rfl ?_
  conv => whnf
  refine Br.t rfl ?_
  conv => whnf
  refine Br.t rfl ?_
  conv => whnf
  refine Br.t rfl ?_
  conv => whnf
  refine Br.t rfl ?_
  conv => whnf
  refine Br.t rfl ?_
  conv => whnf
  refine Br.t rfl ?_
  conv => whnf
  refine Br.t rfl ?_
  conv => whnf
  refine Br.t rfl ?_
  conv => whnf
  refine Br.t rfl ?_
  conv => whnf
  refine Br.t rfl ?_
  conv => whnf
  refine Br.t rfl ?_
  conv => whnf
  refine Br.t rfl ?_
  conv => whnf
  refine cut_ 320 [(1, .bp 0 0), (47, .bool true)] [(0, .box [(sv_S_impl_ClaimFoe a0_0), (sv_S_impl_ClaimSpot a0_1), (sv_str a0_2), (sv_S_impl_ClaimPart a0_3), .int .i64 a0_4])] rfl ⟨.inl rfl, ⟨.inl rfl, trivial⟩⟩ ⟨rfl, trivial⟩ ?_
  conv => whnf
  refine Br.t rfl ?_
  conv => whnf
  refine cut_ 328 [(2, .bool false)] [] rfl ⟨.inl rfl, trivial⟩ trivial ?_
  conv => whnf
  injection H with H; subst H
  exact ret_fz [] (rtA_eq rfl)
  conv => whnf
  refine Br.f ff_ ?_
  conv => whnf
  refine Br.f ff_ ?_
  conv => whnf
  revert H; refine bind_elim (fun t1526 A H => ?_)
  refine call_mk (impl_names.ac A) (avAL_cons (avA_shut' rfl) (avAL_nil)) (Or.inl rfl) rfl rfl (Nat.le_of_ble_eq_true rfl) ?_
  conv => whnf
  refine Br.f ff_ ?_
  conv => whnf
  refine Br.f ff_ ?_
  conv => whnf
  refine br_nt H (fun c H => ?_) (fun c H => ?_)
  conv => whnf
  refine Br.f ff_ ?_
  conv => whnf
  refine Br.f ff_ ?_
  conv => whnf
  refine Br.f ff_ ?_
  conv => whnf
  refine br_d H (fun c H => ?_) (fun c H => ?_)
  conv => whnf
  refine Br.t ft_ ?_
  conv => whnf
  refine Br.t ft_ ?_
  conv => whnf
  refine Br.t ft_ ?_
  conv => whnf
  refine Br.t rfl ?_
  conv => whnf
  refine Br.t rfl ?_
  conv => whnf
  refine Br.t rfl ?_
  conv => whnf
  refine Br.t rfl ?_
  conv => whnf
  refine Br.t rfl ?_
  conv => whnf
  refine cut_ 320 [(1, .bp 0 0), (47, .bool true)] [(0, .box [(sv_S_impl_ClaimFoe a0_0), (sv_S_impl_ClaimSpot a0_1), (sv_str a0_2), (sv_S_impl_ClaimPart a0_3), .int .i64 a0_4])] rfl ⟨.inl rfl, ⟨.inl rfl, trivial⟩⟩ ⟨rfl, trivial⟩ ?_
  conv => whnf
  refine Br.t rfl ?_
  conv => whnf
  refine cut_ 328 [(2, .bool false)] [] rfl ⟨.inl rfl, trivial⟩ trivial ?_
  conv => whnf
  injection H with H; subst H
  exact ret_fz [] (rtA_eq rfl)
  conv => whnf
  refine Br.f ff_ ?_
  conv => whnf
  refine Br.f ff_ ?_
  conv => whnf
  refine Br.f ff_ ?_
  conv => whnf
  refine br_d H (fun c H => ?_) (fun c H => ?_)
  conv => whnf
  refine Br.t ft_ ?_
  conv => whnf
  refine Br.t ft_ ?_
  conv => whnf
  refine Br.t ft_ ?_
  conv => whnf
  refine Br.t ft_ ?_
  conv => whnf
  refine cut_ 320 [(1, .bp 0 0), (47, .bool true)] [(0, .box [(sv_S_impl_ClaimFoe a0_0), (sv_S_impl_ClaimSpot a0_1), (sv_str a0_2), (sv_S_impl_ClaimPart a0_3), .int .i64 a0_4])] rfl ⟨.inl rfl, ⟨.inl rfl, trivial⟩⟩ ⟨rfl, trivial⟩ ?_
  conv => whnf
  refine Br.t rfl ?_
  conv => whnf
  refine cut_ 328 [(2, .bool false)] [] rfl ⟨.inl rfl, trivial⟩ trivial ?_
  conv => whnf
  injection H with H; subst H
  exact ret_fz [] (rtA_eq rfl)
  conv => whnf
  refine Br.f ff_ ?_
  conv => whnf
  refine Br.f ff_ ?_
  conv => whnf
  refine Br.f ff_ ?_
  conv => whnf
  refine Br.f ff_ ?_
  conv => whnf
  refine cut_ 320 [(1, .bp 0 0), (47, .bool (decide ((a0_3.length : Int) > 6)))] [(0, .box [(sv_S_impl_ClaimFoe a0_0), (sv_S_impl_ClaimSpot a0_1), (sv_str a0_2), (sv_S_impl_ClaimPart a0_3), .int .i64 a0_4])] rfl ⟨.inl rfl, ⟨.inl rfl, trivial⟩⟩ ⟨rfl, trivial⟩ ?_
  conv => whnf
  refine br_d H (fun c H => ?_) (fun c H => ?_)
  conv => whnf
  refine cut_ 328 [(2, .bool false)] [] rfl ⟨.inl rfl, trivial⟩ trivial ?_
  conv => whnf
  injection H with H; subst H
  exact ret_fz [] (rtA_eq rfl)
  conv => whnf
  refine impl_ClaimBookOk.l0_lp (a0_0 := a0_0) (a0_1 := a0_1) (a0_2 := a0_2) (a0_3 := a0_3) (a0_4 := a0_4) (k := k) H [] (fits_of ⟨.inl ⟨rfl, rfl⟩, trivial⟩ trivial fi_ trivial rfl) ?_
  intro k x51 hk H; rcases k with _ | k; exact none_elim H; rw [impl_ClaimBookOk.l0] at H; conv => whnf
  refine br_d H (fun c H => ?_) (fun c H => ?_)
  conv => whnf
  refine nd_ H (fun c H => ?_)
  conv => whnf
  refine Nd.mk nf_ ?_
  conv => whnf
  refine El.mk (rdm_en_S_impl_ClaimSpot _ _ nf_ nf_) ?_
  conv => whnf
  refine cut_ 408 [(1, .bp 0 0), (3, .int .i64 x51), (4, .bp 384 0), (49, (sv_S_impl_ClaimSpot a0_1)), (50, .int .i64 (a0_1.length : Int)), (51, .int .i64 x51)] [(0, .box [(sv_S_impl_ClaimFoe a0_0), (sv_S_impl_ClaimSpot a0_1), (sv_str a0_2), (sv_S_impl_ClaimPart a0_3), .int .i64 a0_4]), (384, .box [.str ((rd_impl_ClaimSpot a0_1 x51).f0), .int .i64 ((rd_impl_ClaimSpot a0_1 x51).f1), .int .i64 ((rd_impl_ClaimSpot a0_1 x51).f2), .int .i64 ((rd_impl_ClaimSpot a0_1 x51).f3), (sv_str ((rd_impl_ClaimSpot a0_1 x51).f4))])] rfl ⟨.inl rfl, ⟨.inl rfl, ⟨.inl rfl, ⟨.inl rfl, ⟨.inl rfl, ⟨.inl rfl, trivial⟩⟩⟩⟩⟩⟩ ⟨rfl, ⟨rfl, trivial⟩⟩ ?_
  conv => whnf
  revert H; refine bind_elim (fun t1549 A H => ?_)
  refine call_mk (impl_isName.ac A) (avAL_cons (avA_shut' rfl) (avAL_nil)) (Or.inl rfl) rfl rfl (Nat.le_of_ble_eq_true rfl) ?_
  conv => whnf
  refine br_nt H (fun c H => ?_) (fun c H => ?_)
  conv => whnf
  refine Br.f ff_ ?_
  conv => whnf
  refine Br.f ff_ ?_
  conv => whnf
  refine br_d H (fun c H => ?_) (fun c H => ?_)
  conv => whnf
  refine Br.t ft_ ?_
  conv => whnf
  refine Br.t ft_ ?_
  conv => whnf
  refine Br.t ft_ ?_
  conv => whnf
  refine Br.t ft_ ?_
  conv => whnf
  refine nd_ H (fun c H => ?_)
  conv => whnf
  refine nd_ H (fun c H => ?_)
  conv => whnf
  refine El.mk (rdm_en_S_impl_ClaimSpot _ _ nf_ nf_) ?_
  conv => whnf
  refine Br.t ft_ ?_
  conv => whnf
  refine Br.t ft_ ?_
  conv => whnf
  refine Br.t ft_ ?_
  conv => whnf
  refine Br.t ft_ ?_
  conv => whnf
  refine Br.t ft_ ?_
  conv => whnf
  refine Br.f ff_ ?_
  conv => whnf
  refine Br.t ft_ ?_
  conv => whnf
  refine Br.f ff_ ?_
  conv => whnf
  refine br_nt H (fun c H => ?_) (fun c H => ?_)
  conv => whnf
  refine Br.f ff_ ?_
  conv => whnf
  refine Br.f ff_ ?_
  conv => whnf
  refine Br.f ff_ ?_
  conv => whnf
  refine br_d H (fun c H => ?_) (fun c H => ?_)
  conv => whnf
  refine Br.t ft_ ?_
  conv => whnf
  refine Br.t ft_ ?_
  conv => whnf
  refine Br.t ft_ ?_
  conv => whnf
  refine Br.t rfl ?_
  conv => whnf
  refine Br.t rfl ?_
  conv => whnf
  refine Br.t rfl ?_
  conv => whnf
  refine Br.t rfl ?_
  conv => whnf
  refine Br.t rfl ?_
  conv => whnf
  refine Br.t rfl ?_
  conv => whnf
  refine Br.t rfl ?_
  conv => whnf
  refine Br.t rfl ?_
  conv => whnf
  refine Br.t rfl ?_
  conv => whnf
  refine Br.t rfl ?_
  conv => whnf
  refine Br.t rfl ?_
  conv => whnf
  refine Br.t rfl ?_
  conv => whnf
  refine Br.t rfl ?_
  conv => whnf
  refine Br.t rfl ?_
  conv => whnf
  refine Br.t rfl ?_
  conv => whnf
  refine Br.t rfl ?_
  conv => whnf
  refine cut_ 800 [(1, .bp 0 0), (4, .bp 384 0), (49, (sv_S_impl_ClaimSpot a0_1)), (50, .int .i64 (a0_1.length : Int)), (51, .int .i64 x51), (104, .bool true)] [(0, .box [(sv_S_impl_ClaimFoe a0_0), (sv_S_impl_ClaimSpot a0_1), (sv_str a0_2), (sv_S_impl_ClaimPart a0_3), .int .i64 a0_4]), (384, .box [.str ((rd_impl_ClaimSpot a0_1 x51).f0), .int .i64 ((rd_impl_ClaimSpot a0_1 x51).f1), .int .i64 ((rd_impl_ClaimSpot a0_1 x51).f2), .int .i64 ((rd_impl_ClaimSpot a0_1 x51).f3), (sv_str ((rd_impl_ClaimSpot a0_1 x51).f4))])] rfl ⟨.inl rfl, ⟨.inl rfl, ⟨.inl rfl, ⟨.inl rfl, ⟨.inl rfl, ⟨.inl rfl, trivial⟩⟩⟩⟩⟩⟩ ⟨rfl, ⟨rfl, trivial⟩⟩ ?_
  conv => whnf
  refine Br.t rfl ?_
  conv => whnf
  refine cut_ 808 [(2, .bool false)] [] rfl ⟨.inl rfl, trivial⟩ trivial ?_
  conv => whnf
  injection H with H; subst H
  exact ret_fz [] (rtA_eq rfl)
  conv => whnf
  refine Br.f ff_ ?_
  conv => whnf
  refine Br.f ff_ ?_
  conv => whnf
  refine Br.f ff_ ?_
  conv => whnf
  refine br_d H (fun c H => ?_) (fun c H => ?_)
  conv => whnf
  refine Br.t ft_ ?_
  conv => whnf
  refine Br.t ft_ ?_
  conv => whnf
  refine Br.t ft_ ?_
  conv => whnf
  refine Br.t rfl ?_
  conv => whnf
  refine Br.t rfl ?_
  conv => whnf
  refine Br.t rfl ?_
  conv => whnf
  refine Br.t rfl ?_
  conv => whnf
  refine Br.t rfl ?_
  conv => whnf
  refine Br.t rfl ?_
  conv => whnf
  refine Br.t rfl ?_
  conv => whnf
  refine Br.t rfl ?_
  conv => whnf
  refine Br.t rfl ?_
  conv => whnf
  refine Br.t rfl ?_
  conv => whnf
  refine Br.t rfl ?_
  conv => whnf
  refine Br.t rfl ?_
  conv => whnf
  refine cut_ 800 [(1, .bp 0 0), (4, .bp 384 0), (49, (sv_S_impl_ClaimSpot a0_1)), (50, .int .i64 (a0_1.length : Int)), (51, .int .i64 x51), (104, .bool true)] [(0, .box [(sv_S_impl_ClaimFoe a0_0), (sv_S_impl_ClaimSpot a0_1), (sv_str a0_2), (sv_S_impl_ClaimPart a0_3), .int .i64 a0_4]), (384, .box [.str ((rd_impl_ClaimSpot a0_1 x51).f0), .int .i64 ((rd_impl_ClaimSpot a0_1 x51).f1), .int .i64 ((rd_impl_ClaimSpot a0_1 x51).f2), .int .i64 ((rd_impl_ClaimSpot a0_1 x51).f3), (sv_str ((rd_impl_ClaimSpot a0_1 x51).f4))])] rfl ⟨.inl rfl, ⟨.inl rfl, ⟨.inl rfl, ⟨.inl rfl, ⟨.inl rfl, ⟨.inl rfl, trivial⟩⟩⟩⟩⟩⟩ ⟨rfl, ⟨rfl, trivial⟩⟩ ?_
  conv => whnf
  refine Br.t rfl ?_
  conv => whnf
  refine cut_ 808 [(2, .bool false)] [] rfl ⟨.inl rfl, trivial⟩ trivial ?_
  conv => whnf
  injection H with H; subst H
  exact ret_fz [] (rtA_eq rfl)
  conv => whnf
  refine Br.f ff_ ?_
  conv => whnf
  refine Br.f ff_ ?_
  conv => whnf
  refine Br.f ff_ ?_
  conv => whnf
  refine br_d H (fun c H => ?_) (fun c H => ?_)
  conv => whnf
  refine Br.t ft_ ?_
  conv => whnf
  refine Br.t ft_ ?_
  conv => whnf
  refine Br.t ft_ ?_
  conv => whnf
  refine Br.t ft_ ?_
  conv => whnf
  refine Br.t ft_ ?_
  conv => whnf
  refine Br.t rfl ?_
  conv => whnf
  refine Br.t rfl ?_
  conv => whnf
  refine Br.t rfl ?_
  conv => whnf
  refine Br.t rfl ?_
  conv => whnf
  refine Br.t rfl ?_
  conv => whnf
  refine Br.t rfl ?_
  conv => whnf
  refine cut_ 800 [(1, .bp 0 0), (4, .bp 384 0), (49, (sv_S_impl_ClaimSpot a0_1)), (50, .int .i64 (a0_1.length : Int)), (51, .int .i64 x51), (104, .bool true)] [(0, .box [(sv_S_impl_ClaimFoe a0_0), (sv_S_impl_ClaimSpot a0_1), (sv_str a0_2), (sv_S_impl_ClaimPart a0_3), .int .i64 a0_4]), (384, .box [.str ((rd_impl_ClaimSpot a0_1 x51).f0), .int .i64 ((rd_impl_ClaimSpot a0_1 x51).f1), .int .i64 ((rd_impl_ClaimSpot a0_1 x51).f2), .int .i64 ((rd_impl_ClaimSpot a0_1 x51).f3), (sv_str ((rd_impl_ClaimSpot a0_1 x51).f4))])] rfl ⟨.inl rfl, ⟨.inl rfl, ⟨.inl rfl, ⟨.inl rfl, ⟨.inl rfl, ⟨.inl rfl, trivial⟩⟩⟩⟩⟩⟩ ⟨rfl, ⟨rfl, trivial⟩⟩ ?_
  conv => whnf
  refine Br.t rfl ?_
  conv => whnf
  refine cut_ 808 [(2, .bool false)] [] rfl ⟨.inl rfl, trivial⟩ trivial ?_
  conv => whnf
  injection H with H; subst H
  exact ret_fz [] (rtA_eq rfl)
  conv => whnf
  refine Br.f ff_ ?_
  conv => whnf
  refine Br.f ff_ ?_
  conv => whnf
  refine Br.f ff_ ?_
  conv => whnf
  refine Br.f ff_ ?_
  conv => whnf
  refine Br.f ff_ ?_
  conv => whnf
  refine br_d H (fun c H => ?_) (fun c H => ?_)
  conv => whnf
  refine Br.t ft_ ?_
  conv => whnf
  refine Br.t ft_ ?_
  conv => whnf
  refine Br.t ft_ ?_
  conv => whnf
  refine Br.t ft_ ?_
  conv => whnf
  refine Br.t ft_ ?_
  conv => whnf
  refine cut_ 800 [(1, .bp 0 0), (4, .bp 384 0), (49, (sv_S_impl_ClaimSpot a0_1)), (50, .int .i64 (a0_1.length : Int)), (51, .int .i64 x51), (104, .bool true)] [(0, .box [(sv_S_impl_ClaimFoe a0_0), (sv_S_impl_ClaimSpot a0_1), (sv_str a0_2), (sv_S_impl_ClaimPart a0_3), .int .i64 a0_4]), (384, .box [.str ((rd_impl_ClaimSpot a0_1 x51).f0), .int .i64 ((rd_impl_ClaimSpot a0_1 x51).f1), .int .i64 ((rd_impl_ClaimSpot a0_1 x51).f2), .int .i64 ((rd_impl_ClaimSpot a0_1 x51).f3), (sv_str ((rd_impl_ClaimSpot a0_1 x51).f4))])] rfl ⟨.inl rfl, ⟨.inl rfl, ⟨.inl rfl, ⟨.inl rfl, ⟨.inl rfl, ⟨.inl rfl, trivial⟩⟩⟩⟩⟩⟩ ⟨rfl, ⟨rfl, trivial⟩⟩ ?_
  conv => whnf
  refine Br.t rfl ?_
  conv => whnf
  refine cut_ 808 [(2, .bool false)] [] rfl ⟨.inl rfl, trivial⟩ trivial ?_
  conv => whnf
  injection H with H; subst H
  exact ret_fz [] (rtA_eq rfl)
  conv => whnf
  refine Br.f ff_ ?_
  conv => whnf
  refine Br.f ff_ ?_
  conv => whnf
  refine Br.f ff_ ?_
  conv => whnf
  refine Br.f ff_ ?_
  conv => whnf
  refine Br.f ff_ ?_
  conv => whnf
  refine cut_ 800 [(1, .bp 0 0), (4, .bp 384 0), (49, (sv_S_impl_ClaimSpot a0_1)), (50, .int .i64 (a0_1.length : Int)), (51, .int .i64 x51), (104, .bool (decide (((rd_impl_ClaimSpot a0_1 x51).f3) > ((rd_impl_ClaimSpot a0_1 x51).f1))))] [(0, .box [(sv_S_impl_ClaimFoe a0_0), (sv_S_impl_ClaimSpot a0_1), (sv_str a0_2), (sv_S_impl_ClaimPart a0_3), .int .i64 a0_4]), (384, .box [.str ((rd_impl_ClaimSpot a0_1 x51).f0), .int .i64 ((rd_impl_ClaimSpot a0_1 x51).f1), .int .i64 ((rd_impl_ClaimSpot a0_1 x51).f2), .int .i64 ((rd_impl_ClaimSpot a0_1 x51).f3), (sv_str ((rd_impl_ClaimSpot a0_1 x51).f4))])] rfl ⟨.inl rfl, ⟨.inl rfl, ⟨.inl rfl, ⟨.inl rfl, ⟨.inl rfl, ⟨.inl rfl, trivial⟩⟩⟩⟩⟩⟩ ⟨rfl, ⟨rfl, trivial⟩⟩ ?_
  conv => whnf
  refine br_d H (fun c H => ?_) (fun c H => ?_)
  conv => whnf
  refine cut_ 808 [(2, .bool false)] [] rfl ⟨.inl rfl, trivial⟩ trivial ?_
  conv => whnf
  injection H with H; subst H
  exact ret_fz [] (rtA_eq rfl)
  conv => whnf
  refine br_d H (fun c H => ?_) (fun c H => ?_)
  conv => whnf
  refine Br.t ft_ ?_
  conv => whnf
  refine Br.t ft_ ?_
  conv => whnf
  refine Br.t ft_ ?_
  conv => whnf
  refine Br.t ft_ ?_
  conv => whnf
  refine Br.t rfl ?_
  conv => whnf
  refine Br.t rfl ?_
  conv => whnf
  refine Br.t rfl ?_
  conv => whnf
  refine Br.t rfl ?_
  conv => whnf
  refine Br.t rfl ?_
  conv => whnf
  refine Br.t rfl ?_
  conv => whnf
  refine Br.t rfl ?_
  conv => whnf
  refine Br.t rfl ?_
  conv => whnf
  refine cut_ 952 [(1, .bp 0 0), (49, (sv_S_impl_ClaimSpot a0_1)), (50, .int .i64 (a0_1.length : Int)), (51, .int .i64 x51), (123, .bool true)] [(0, .box [(sv_S_impl_ClaimFoe a0_0), (sv_S_impl_ClaimSpot a0_1), (sv_str a0_2), (sv_S_impl_ClaimPart a0_3), .int .i64 a0_4])] rfl ⟨.inl rfl, ⟨.inl rfl, ⟨.inl rfl, ⟨.inl rfl, ⟨.inl rfl, trivial⟩⟩⟩⟩⟩ ⟨rfl, trivial⟩ ?_
  conv => whnf
  refine Br.t rfl ?_
  conv => whnf
  refine cut_ 960 [(2, .bool false)] [] rfl ⟨.inl rfl, trivial⟩ trivial ?_
  conv => whnf
  injection H with H; subst H
  exact ret_fz [] (rtA_eq rfl)
  conv => whnf
  refine Br.f ff_ ?_
  conv => whnf
  refine Br.f ff_ ?_
  conv => whnf
  revert H; refine bind_elim (fun t1550 A H => ?_)
  refine call_mk (impl_names.ac A) (avAL_cons (avA_shut' rfl) (avAL_nil)) (Or.inl rfl) rfl rfl (Nat.le_of_ble_eq_true rfl) ?_
  conv => whnf
  refine Br.f ff_ ?_
  conv => whnf
  refine Br.f ff_ ?_
  conv => whnf
  refine br_nt H (fun c H => ?_) (fun c H => ?_)
  conv => whnf
  refine Br.f ff_ ?_
  conv => whnf
  revert H; refine bind_elim (fun t1551 A H => ?_)
  refine call_mk (impl_ClaimBook_pairs.ac A) (avAL_cons (avA_agg (avL_cons (av_shut' rfl) (avL_cons (av_shut' rfl) (avL_cons (av_shut' rfl) (avL_cons (av_shut' rfl) (avL_cons (av_shut' rfl) (avL_nil))))))) (avAL_nil)) (Or.inl rfl) rfl rfl (Nat.le_of_ble_eq_true rfl) ?_
  conv => whnf
  refine Br.f ff_ ?_
  conv => whnf
  refine Br.f ff_ ?_
  conv => whnf
  refine Br.f ff_ ?_
  conv => whnf
  refine Br.f ff_ ?_
  conv => whnf
  refine Br.f ff_ ?_
  conv => whnf
  revert H; refine bind_elim (fun t1552 A H => ?_)
  refine call_mk (impl_anyFoes.ac A) (avAL_cons (avA_shut' rfl) (avAL_cons (avA_shut' rfl) (avAL_cons (avA_shut' rfl) (avAL_nil)))) (Or.inl rfl) rfl rfl (Nat.le_of_ble_eq_true rfl) ?_
  conv => whnf
  refine Br.f ff_ ?_
  conv => whnf
  refine cut_ 952 [(1, .bp 0 0), (49, (sv_S_impl_ClaimSpot a0_1)), (50, .int .i64 (a0_1.length : Int)), (51, .int .i64 x51), (123, .bool t1552)] [(0, .box [(sv_S_impl_ClaimFoe a0_0), (sv_S_impl_ClaimSpot a0_1), (sv_str a0_2), (sv_S_impl_ClaimPart a0_3), .int .i64 a0_4])] rfl ⟨.inl rfl, ⟨.inl rfl, ⟨.inl rfl, ⟨.inl rfl, ⟨.inl rfl, trivial⟩⟩⟩⟩⟩ ⟨rfl, trivial⟩ ?_
  conv => whnf
  refine br_t H (fun c H => ?_) (fun c H => ?_)
  conv => whnf
  refine cut_ 960 [(2, .bool false)] [] rfl ⟨.inl rfl, trivial⟩ trivial ?_
  conv => whnf
  injection H with H; subst H
  exact ret_fz [] (rtA_eq rfl)
  conv => whnf
  exact ⟨(k, wrap64 (x51 + 1)), [], ⟨H, lt_⟩, lt_, (fits_of ⟨.inl ⟨rfl, rfl⟩, trivial⟩ trivial fi_ trivial rfl)⟩
  conv => whnf
  refine Br.t ft_ ?_
  conv => whnf
  refine Br.t ft_ ?_
  conv => whnf
  refine Br.t ft_ ?_
  conv => whnf
  refine Br.t ft_ ?_
  conv => whnf
  refine Br.t ft_ ?_
  conv => whnf
  refine Br.t ft_ ?_
  conv => whnf
  refine Br.t ft_ ?_
  conv => whnf
  refine cut_ 952 [(1, .bp 0 0), (49, (sv_S_impl_ClaimSpot a0_1)), (50, .int .i64 (a0_1.length : Int)), (51, .int .i64 x51), (123, .bool true)] [(0, .box [(sv_S_impl_ClaimFoe a0_0), (sv_S_impl_ClaimSpot a0_1), (sv_str a0_2), (sv_S_impl_ClaimPart a0_3), .int .i64 a0_4])] rfl ⟨.inl rfl, ⟨.inl rfl, ⟨.inl rfl, ⟨.inl rfl, ⟨.inl rfl, trivial⟩⟩⟩⟩⟩ ⟨rfl, trivial⟩ ?_
  conv => whnf
  refine Br.t rfl ?_
  conv => whnf
  refine cut_ 960 [(2, .bool false)] [] rfl ⟨.inl rfl, trivial⟩ trivial ?_
  conv => whnf
  injection H with H; subst H
  exact ret_fz [] (rtA_eq rfl)
  conv => whnf
  refine Br.t ft_ ?_
  conv => whnf
  refine Br.t ft_ ?_
  conv => whnf
  refine Br.t ft_ ?_
  conv => whnf
  refine Br.t rfl ?_
  conv => whnf
  refine Br.t rfl ?_
  conv => whnf
  refine Br.t rfl ?_
  conv => whnf
  refine Br.t rfl ?_
  conv => whnf
  refine Br.t rfl ?_
  conv => whnf
  refine Br.t rfl ?_
  conv => whnf
  refine Br.t rfl ?_
  conv => whnf
  refine Br.t rfl ?_
  conv => whnf
  refine Br.t rfl ?_
  conv => whnf
  refine Br.t rfl ?_
  conv => whnf
  refine Br.t rfl ?_
  conv => whnf
  refine Br.t rfl ?_
  conv => whnf
  refine Br.t rfl ?_
  conv => whnf
  refine Br.t rfl ?_
  conv => whnf
  refine Br.t rfl ?_
  conv => whnf
  refine Br.t rfl ?_
  conv => whnf
  refine Br.t rfl ?_
  conv => whnf
  refine Br.t rfl ?_
  conv => whnf
  refine Br.t rfl ?_
  conv => whnf
  refine Br.t rfl ?_
  conv => whnf
  refine cut_ 800 [(1, .bp 0 0), (4, .bp 384 0), (49, (sv_S_impl_ClaimSpot a0_1)), (50, .int .i64 (a0_1.length : Int)), (51, .int .i64 x51), (104, .bool true)] [(0, .box [(sv_S_impl_ClaimFoe a0_0), (sv_S_impl_ClaimSpot a0_1), (sv_str a0_2), (sv_S_impl_ClaimPart a0_3), .int .i64 a0_4]), (384, .box [.str ((rd_impl_ClaimSpot a0_1 x51).f0), .int .i64 ((rd_impl_ClaimSpot a0_1 x51).f1), .int .i64 ((rd_impl_ClaimSpot a0_1 x51).f2), .int .i64 ((rd_impl_ClaimSpot a0_1 x51).f3), (sv_str ((rd_impl_ClaimSpot a0_1 x51).f4))])] rfl ⟨.inl rfl, ⟨.inl rfl, ⟨.inl rfl, ⟨.inl rfl, ⟨.inl rfl, ⟨.inl rfl, trivial⟩⟩⟩⟩⟩⟩ ⟨rfl, ⟨rfl, trivial⟩⟩ ?_
  conv => whnf
  refine Br.t rfl ?_
  conv => whnf
  refine cut_ 808 [(2, .bool false)] [] rfl ⟨.inl rfl, trivial⟩ trivial ?_
  conv => whnf
  injection H with H; subst H
  exact ret_fz [] (rtA_eq rfl)
  conv => whnf
  refine Br.f ff_ ?_
  conv => whnf
  refine Br.f ff_ ?_
  conv => whnf
  refine Br.f ff_ ?_
  conv => whnf
  refine Br.f ff_ ?_
  conv => whnf
  refine Br.f ff_ ?_
  conv => whnf
  refine Br.f ff_ ?_
  conv => whnf
  refine Br.f ff_ ?_
  conv => whnf
  refine Br.f ff_ ?_
  conv => whnf
  refine Br.f ff_ ?_
  conv => whnf
  refine Br.f ff_ ?_
  conv => whnf
  refine Br.f ff_ ?_
  conv => whnf
  refine Br.f ff_ ?_
  conv => whnf
  refine Br.f rfl ?_
  conv => whnf
  refine Br.f rfl ?_
  conv => whnf
  refine Br.f rfl ?_
  conv => whnf
  refine Br.f rfl ?_
  conv => whnf
  refine br_d H (fun c H => ?_) (fun c H => ?_)
  conv => whnf
  refine Br.t ft_ ?_
  conv => whnf
  refine Br.t ft_ ?_
  conv => whnf
  refine Br.t ft_ ?_
  conv => whnf
  refine Br.t rfl ?_
  conv => whnf
  refine Br.t rfl ?_
  conv => whnf
  refine Br.t rfl ?_
  conv => whnf
  refine Br.t rfl ?_
  conv => whnf
  refine Br.t rfl ?_
  conv => whnf
  refine Br.t rfl ?_
  conv => whnf
  refine Br.t rfl ?_
  conv => whnf
  refine Br.t rfl ?_
  conv => whnf
  refine Br.t rfl ?_
  conv => whnf
  refine Br.t rfl ?_
  conv => whnf
  refine Br.t rfl ?_
  conv => whnf
  refine Br.t rfl ?_
  conv => whnf
  refine Br.t rfl ?_
  conv => whnf
  refine Br.t rfl ?_
  conv => whnf
  refine Br.t rfl ?_
  conv => whnf
  refine Br.t rfl ?_
  conv => whnf
  refine cut_ 800 [(1, .bp 0 0), (4, .bp 384 0), (49, (sv_S_impl_ClaimSpot a0_1)), (50, .int .i64 (a0_1.length : Int)), (51, .int .i64 x51), (104, .bool true)] [(0, .box [(sv_S_impl_ClaimFoe a0_0), (sv_S_impl_ClaimSpot a0_1), (sv_str a0_2), (sv_S_impl_ClaimPart a0_3), .int .i64 a0_4]), (384, .box [.str ((rd_impl_ClaimSpot a0_1 x51).f0), .int .i64 ((rd_impl_ClaimSpot a0_1 x51).f1), .int .i64 ((rd_impl_ClaimSpot a0_1 x51).f2), .int .i64 ((rd_impl_ClaimSpot a0_1 x51).f3), (sv_str ((rd_impl_ClaimSpot a0_1 x51).f4))])] rfl ⟨.inl rfl, ⟨.inl rfl, ⟨.inl rfl, ⟨.inl rfl, ⟨.inl rfl, ⟨.inl rfl, trivial⟩⟩⟩⟩⟩⟩ ⟨rfl, ⟨rfl, trivial⟩⟩ ?_
  conv => whnf
  refine Br.t rfl ?_
  conv => whnf
  refine cut_ 808 [(2, .bool false)] [] rfl ⟨.inl rfl, trivial⟩ trivial ?_
  conv => whnf
  injection H with H; subst H
  exact ret_fz [] (rtA_eq rfl)
  conv => whnf
  refine Br.f ff_ ?_
  conv => whnf
  refine Br.f ff_ ?_
  conv => whnf
  refine Br.f ff_ ?_
  conv => whnf
  refine br_d H (fun c H => ?_) (fun c H => ?_)
  conv => whnf
  refine Br.t ft_ ?_
  conv => whnf
  refine Br.t ft_ ?_
  conv => whnf
  refine Br.t ft_ ?_
  conv => whnf
  refine Br.t rfl ?_
  conv => whnf
  refine Br.t rfl ?_
  conv => whnf
  refine Br.t rfl ?_
  conv => whnf
  refine Br.t rfl ?_
  conv => whnf
  refine Br.t rfl ?_
  conv => whnf
  refine Br.t rfl ?_
  conv => whnf
  refine Br.t rfl ?_
  conv => whnf
  refine Br.t rfl ?_
  conv => whnf
  refine Br.t rfl ?_
  conv => whnf
  refine Br.t rfl ?_
  conv => whnf
  refine Br.t rfl ?_
  conv => whnf
  refine Br.t rfl ?_
  conv => whnf
  refine cut_ 800 [(1, .bp 0 0), (4, .bp 384 0), (49, (sv_S_impl_ClaimSpot a0_1)), (50, .int .i64 (a0_1.length : Int)), (51, .int .i64 x51), (104, .bool true)] [(0, .box [(sv_S_impl_ClaimFoe a0_0), (sv_S_impl_ClaimSpot a0_1), (sv_str a0_2), (sv_S_impl_ClaimPart a0_3), .int .i64 a0_4]), (384, .box [.str ((rd_impl_ClaimSpot a0_1 x51).f0), .int .i64 ((rd_impl_ClaimSpot a0_1 x51).f1), .int .i64 ((rd_impl_ClaimSpot a0_1 x51).f2), .int .i64 ((rd_impl_ClaimSpot a0_1 x51).f3), (sv_str ((rd_impl_ClaimSpot a0_1 x51).f4))])] rfl ⟨.inl rfl, ⟨.inl rfl, ⟨.inl rfl, ⟨.inl rfl, ⟨.inl rfl, ⟨.inl rfl, trivial⟩⟩⟩⟩⟩⟩ ⟨rfl, ⟨rfl, trivial⟩⟩ ?_
  conv => whnf
  refine Br.t rfl ?_
  conv => whnf
  refine cut_ 808 [(2, .bool false)] [] rfl ⟨.inl rfl, trivial⟩ trivial ?_
  conv => whnf
  injection H with H; subst H
  exact ret_fz [] (rtA_eq rfl)
  conv => whnf
  refine Br.f ff_ ?_
  conv => whnf
  refine Br.f ff_ ?_
  conv => whnf
  refine Br.f ff_ ?_
  conv => whnf
  refine br_d H (fun c H => ?_) (fun c H => ?_)
  conv => whnf
  refine Br.t ft_ ?_
  conv => whnf
  refine Br.t ft_ ?_
  conv => whnf
  refine Br.t ft_ ?_
  conv => whnf
  refine Br.t ft_ ?_
  conv => whnf
  refine Br.t ft_ ?_
  conv => whnf
  refine Br.t rfl ?_
  conv => whnf
  refine Br.t rfl ?_
  conv => whnf
  refine Br.t rfl ?_
  conv => whnf
  refine Br.t rfl ?_
  conv => whnf
  refine Br.t rfl ?_
  conv => whnf
  refine Br.t rfl ?_
  conv => whnf
  refine cut_ 800 [(1, .bp 0 0), (4, .bp 384 0), (49, (sv_S_impl_ClaimSpot a0_1)), (50, .int .i64 (a0_1.length : Int)), (51, .int .i64 x51), (104, .bool true)] [(0, .box [(sv_S_impl_ClaimFoe a0_0), (sv_S_impl_ClaimSpot a0_1), (sv_str a0_2), (sv_S_impl_ClaimPart a0_3), .int .i64 a0_4]), (384, .box [.str ((rd_impl_ClaimSpot a0_1 x51).f0), .int .i64 ((rd_impl_ClaimSpot a0_1 x51).f1), .int .i64 ((rd_impl_ClaimSpot a0_1 x51).f2), .int .i64 ((rd_impl_ClaimSpot a0_1 x51).f3), (sv_str ((rd_impl_ClaimSpot a0_1 x51).f4))])] rfl ⟨.inl rfl, ⟨.inl rfl, ⟨.inl rfl, ⟨.inl rfl, ⟨.inl rfl, ⟨.inl rfl, trivial⟩⟩⟩⟩⟩⟩ ⟨rfl, ⟨rfl, trivial⟩⟩ ?_
  conv => whnf
  refine Br.t rfl ?_
  conv => whnf
  refine cut_ 808 [(2, .bool false)] [] rfl ⟨.inl rfl, trivial⟩ trivial ?_
  conv => whnf
  injection H with H; subst H
  exact ret_fz [] (rtA_eq rfl)
  conv => whnf
  refine Br.f ff_ ?_
  conv => whnf
  refine Br.f ff_ ?_
  conv => whnf
  refine Br.f ff_ ?_
  conv => whnf
  refine Br.f ff_ ?_
  conv => whnf
  refine Br.f ff_ ?_
  conv => whnf
  refine br_d H (fun c H => ?_) (fun c H => ?_)
  conv => whnf
  refine Br.t ft_ ?_
  conv => whnf
  refine Br.t ft_ ?_
  conv => whnf
  refine Br.t ft_ ?_
  conv => whnf
  refine Br.t ft_ ?_
  conv => whnf
  refine Br.t ft_ ?_
  conv => whnf
  refine cut_ 800 [(1, .bp 0 0), (4, .bp 384 0), (49, (sv_S_impl_ClaimSpot a0_1)), (50, .int .i64 (a0_1.length : Int)), (51, .int .i64 x51), (104, .bool true)] [(0, .box [(sv_S_impl_ClaimFoe a0_0), (sv_S_impl_ClaimSpot a0_1), (sv_str a0_2), (sv_S_impl_ClaimPart a0_3), .int .i64 a0_4]), (384, .box [.str ((rd_impl_ClaimSpot a0_1 x51).f0), .int .i64 ((rd_impl_ClaimSpot a0_1 x51).f1), .int .i64 ((rd_impl_ClaimSpot a0_1 x51).f2), .int .i64 ((rd_impl_ClaimSpot a0_1 x51).f3), (sv_str ((rd_impl_ClaimSpot a0_1 x51).f4))])] rfl ⟨.inl rfl, ⟨.inl rfl, ⟨.inl rfl, ⟨.inl rfl, ⟨.inl rfl, ⟨.inl rfl, trivial⟩⟩⟩⟩⟩⟩ ⟨rfl, ⟨rfl, trivial⟩⟩ ?_
  conv => whnf
  refine Br.t rfl ?_
  conv => whnf
  refine cut_ 808 [(2, .bool false)] [] rfl ⟨.inl rfl, trivial⟩ trivial ?_
  conv => whnf
  injection H with H; subst H
  exact ret_fz [] (rtA_eq rfl)
  conv => whnf
  refine Br.f ff_ ?_
  conv => whnf
  refine Br.f ff_ ?_
  conv => whnf
  refine Br.f ff_ ?_
  conv => whnf
  refine Br.f ff_ ?_
  conv => whnf
  refine Br.f ff_ ?_
  conv => whnf
  refine cut_ 800 [(1, .bp 0 0), (4, .bp 384 0), (49, (sv_S_impl_ClaimSpot a0_1)), (50, .int .i64 (a0_1.length : Int)), (51, .int .i64 x51), (104, .bool (decide (((rd_impl_ClaimSpot a0_1 x51).f3) > ((rd_impl_ClaimSpot a0_1 x51).f1))))] [(0, .box [(sv_S_impl_ClaimFoe a0_0), (sv_S_impl_ClaimSpot a0_1), (sv_str a0_2), (sv_S_impl_ClaimPart a0_3), .int .i64 a0_4]), (384, .box [.str ((rd_impl_ClaimSpot a0_1 x51).f0), .int .i64 ((rd_impl_ClaimSpot a0_1 x51).f1), .int .i64 ((rd_impl_ClaimSpot a0_1 x51).f2), .int .i64 ((rd_impl_ClaimSpot a0_1 x51).f3), (sv_str ((rd_impl_ClaimSpot a0_1 x51).f4))])] rfl ⟨.inl rfl, ⟨.inl rfl, ⟨.inl rfl, ⟨.inl rfl, ⟨.inl rfl, ⟨.inl rfl, trivial⟩⟩⟩⟩⟩⟩ ⟨rfl, ⟨rfl, trivial⟩⟩ ?_
  conv => whnf
  refine br_d H (fun c H => ?_) (fun c H => ?_)
  conv => whnf
  refine cut_ 808 [(2, .bool false)] [] rfl ⟨.inl rfl, trivial⟩ trivial ?_
  conv => whnf
  injection H with H; subst H
  exact ret_fz [] (rtA_eq rfl)
  conv => whnf
  refine br_d H (fun c H => ?_) (fun c H => ?_)
  conv => whnf
  refine Br.t ft_ ?_
  conv => whnf
  refine Br.t ft_ ?_
  conv => whnf
  refine Br.t ft_ ?_
  conv => whnf
  refine Br.t ft_ ?_
  conv => whnf
  refine Br.t rfl ?_
  conv => whnf
  refine Br.t rfl ?_
  conv => whnf
  refine Br.t rfl ?_
  conv => whnf
  refine Br.t rfl ?_
  conv => whnf
  refine Br.t rfl ?_
  conv => whnf
  refine Br.t rfl ?_
  conv => whnf
  refine Br.t rfl ?_
  conv => whnf
  refine Br.t rfl ?_
  conv => whnf
  refine cut_ 952 [(1, .bp 0 0), (49, (sv_S_impl_ClaimSpot a0_1)), (50, .int .i64 (a0_1.length : Int)), (51, .int .i64 x51), (123, .bool true)] [(0, .box [(sv_S_impl_ClaimFoe a0_0), (sv_S_impl_ClaimSpot a0_1), (sv_str a0_2), (sv_S_impl_ClaimPart a0_3), .int .i64 a0_4])] rfl ⟨.inl rfl, ⟨.inl rfl, ⟨.inl rfl, ⟨.inl rfl, ⟨.inl rfl, trivial⟩⟩⟩⟩⟩ ⟨rfl, trivial⟩ ?_
  conv => whnf
  refine Br.t rfl ?_
  conv => whnf
  refine cut_ 960 [(2, .bool false)] [] rfl ⟨.inl rfl, trivial⟩ trivial ?_
  conv => whnf
  injection H with H; subst H
  exact ret_fz [] (rtA_eq rfl)
  conv => whnf
  refine Br.f ff_ ?_
  conv => whnf
  refine Br.f ff_ ?_
  conv => whnf
  revert H; refine bind_elim (fun t1553 A H => ?_)
  refine call_mk (impl_names.ac A) (avAL_cons (avA_shut' rfl) (avAL_nil)) (Or.inl rfl) rfl rfl (Nat.le_of_ble_eq_true rfl) ?_
  conv => whnf
  refine Br.f ff_ ?_
  conv => whnf
  refine Br.f ff_ ?_
  conv => whnf
  refine br_nt H (fun c H => ?_) (fun c H => ?_)
  conv => whnf
  refine Br.f ff_ ?_
  conv => whnf
  revert H; refine bind_elim (fun t1554 A H => ?_)
  refine call_mk (impl_ClaimBook_pairs.ac A) (avAL_cons (avA_agg (avL_cons (av_shut' rfl) (avL_cons (av_shut' rfl) (avL_cons (av_shut' rfl) (avL_cons (av_shut' rfl) (avL_cons (av_shut' rfl) (avL_nil))))))) (avAL_nil)) (Or.inl rfl) rfl rfl (Nat.le_of_ble_eq_true rfl) ?_
  conv => whnf
  refine Br.f ff_ ?_
  conv => whnf
  refine Br.f ff_ ?_
  conv => whnf
  refine Br.f ff_ ?_
  conv => whnf
  refine Br.f ff_ ?_
  conv => whnf
  refine Br.f ff_ ?_
  conv => whnf
  revert H; refine bind_elim (fun t1555 A H => ?_)
  refine call_mk (impl_anyFoes.ac A) (avAL_cons (avA_shut' rfl) (avAL_cons (avA_shut' rfl) (avAL_cons (avA_shut' rfl) (avAL_nil)))) (Or.inl rfl) rfl rfl (Nat.le_of_ble_eq_true rfl) ?_
  conv => whnf
  refine Br.f ff_ ?_
  conv => whnf
  refine cut_ 952 [(1, .bp 0 0), (49, (sv_S_impl_ClaimSpot a0_1)), (50, .int .i64 (a0_1.length : Int)), (51, .int .i64 x51), (123, .bool t1555)] [(0, .box [(sv_S_impl_ClaimFoe a0_0), (sv_S_impl_ClaimSpot a0_1), (sv_str a0_2), (sv_S_impl_ClaimPart a0_3), .int .i64 a0_4])] rfl ⟨.inl rfl, ⟨.inl rfl, ⟨.inl rfl, ⟨.inl rfl, ⟨.inl rfl, trivial⟩⟩⟩⟩⟩ ⟨rfl, trivial⟩ ?_
  conv => whnf
  refine br_t H (fun c H => ?_) (fun c H => ?_)
  conv => whnf
  refine cut_ 960 [(2, .bool false)] [] rfl ⟨.inl rfl, trivial⟩ trivial ?_
  conv => whnf
  injection H with H; subst H
  exact ret_fz [] (rtA_eq rfl)
  conv => whnf
  exact ⟨(k, wrap64 (x51 + 1)), [], ⟨H, lt_⟩, lt_, (fits_of ⟨.inl ⟨rfl, rfl⟩, trivial⟩ trivial fi_ trivial rfl)⟩
  conv => whnf
  refine Br.t ft_ ?_
  conv => whnf
  refine Br.t ft_ ?_
  conv => whnf
  refine Br.t ft_ ?_
  conv => whnf
  refine Br.t ft_ ?_
  conv => whnf
  refine Br.t ft_ ?_
  conv => whnf
  refine Br.t ft_ ?_
  conv => whnf
  refine Br.t ft_ ?_
  conv => whnf
  refine cut_ 952 [(1, .bp 0 0), (49, (sv_S_impl_ClaimSpot a0_1)), (50, .int .i64 (a0_1.length : Int)), (51, .int .i64 x51), (123, .bool true)] [(0, .box [(sv_S_impl_ClaimFoe a0_0), (sv_S_impl_ClaimSpot a0_1), (sv_str a0_2), (sv_S_impl_ClaimPart a0_3), .int .i64 a0_4])] rfl ⟨.inl rfl, ⟨.inl rfl, ⟨.inl rfl, ⟨.inl rfl, ⟨.inl rfl, trivial⟩⟩⟩⟩⟩ ⟨rfl, trivial⟩ ?_
  conv => whnf
  refine Br.t rfl ?_
  conv => whnf
  refine cut_ 960 [(2, .bool false)] [] rfl ⟨.inl rfl, trivial⟩ trivial ?_
  conv => whnf
  injection H with H; subst H
  exact ret_fz [] (rtA_eq rfl)
  conv => whnf
  refine Br.t ft_ ?_
  conv => whnf
  refine Br.t ft_ ?_
  conv => whnf
  refine Br.t ft_ ?_
  conv => whnf
  refine Br.t ft_ ?_
  conv => whnf
  refine Br.t rfl ?_
  conv => whnf
  refine Br.t rfl ?_
  conv => whnf
  refine Br.t rfl ?_
  conv => whnf
  refine Br.t rfl ?_
  conv => whnf
  refine Br.t rfl ?_
  conv => whnf
  refine Br.t rfl ?_
  conv => whnf
  refine Br.t rfl ?_
  conv => whnf
  refine Br.t rfl ?_
  conv => whnf
  refine Br.t rfl ?_
  conv => whnf
  refine Br.t rfl ?_
  conv => whnf
  refine Br.t rfl ?_
  conv => whnf
  refine Br.t rfl ?_
  conv => whnf
  refine Br.t rfl ?_
  conv => whnf
  refine Br.t rfl ?_
  conv => whnf
  refine Br.t rfl ?_
  conv => whnf
  refine Br.t rfl ?_
  conv => whnf
  refine Br.t rfl ?_
  conv => whnf
  refine Br.t rfl ?_
  conv => whnf
  refine Br.t rfl ?_
  conv => whnf
  refine Br.t rfl ?_
  conv => whnf
  refine Br.t rfl ?_
  conv => whnf
  refine Br.t rfl ?_
  conv => whnf
  refine Br.t rfl ?_
  conv => whnf
  refine Br.t rfl ?_
  conv => whnf
  refine cut_ 800 [(1, .bp 0 0), (4, .bp 384 0), (49, (sv_S_impl_ClaimSpot a0_1)), (50, .int .i64 (a0_1.length : Int)), (51, .int .i64 x51), (104, .bool true)] [(0, .box [(sv_S_impl_ClaimFoe a0_0), (sv_S_impl_ClaimSpot a0_1), (sv_str a0_2), (sv_S_impl_ClaimPart a0_3), .int .i64 a0_4]), (384, .box [.str ((rd_impl_ClaimSpot a0_1 x51).f0), .int .i64 ((rd_impl_ClaimSpot a0_1 x51).f1), .int .i64 ((rd_impl_ClaimSpot a0_1 x51).f2), .int .i64 ((rd_impl_ClaimSpot a0_1 x51).f3), (sv_str ((rd_impl_ClaimSpot a0_1 x51).f4))])] rfl ⟨.inl rfl, ⟨.inl rfl, ⟨.inl rfl, ⟨.inl rfl, ⟨.inl rfl, ⟨.inl rfl, trivial⟩⟩⟩⟩⟩⟩ ⟨rfl, ⟨rfl, trivial⟩⟩ ?_
  conv => whnf
  refine Br.t rfl ?_
  conv => whnf
  refine cut_ 808 [(2, .bool false)] [] rfl ⟨.inl rfl, trivial⟩ trivial ?_
  conv => whnf
  injection H with H; subst H
  exact ret_fz [] (rtA_eq rfl)
  conv => whnf
  refine impl_ClaimBookOk.l1_lp (a0_0 := a0_0) (a0_1 := a0_1) (a0_2 := a0_2) (a0_3 := a0_3) (a0_4 := a0_4) (k := k) H [] (fits_of ⟨.inl ⟨rfl, rfl⟩, trivial⟩ trivial fi_ trivial rfl) ?_
  intro k x128 hk H; rcases k with _ | k; exact none_elim H; rw [impl_ClaimBookOk.l1] at H; conv => whnf
  refine cut_ 400 [(1, .bp 0 0), (126, (sv_S_impl_ClaimPart a0_3)), (127, .int .i64 (a0_3.length : Int)), (128, .int .i64 x128), (129, .bool (decide (x128 < (a0_3.length : Int))))] [(0, .box [(sv_S_impl_ClaimFoe a0_0), (sv_S_impl_ClaimSpot a0_1), (sv_str a0_2), (sv_S_impl_ClaimPart a0_3), .int .i64 a0_4])] rfl ⟨.inl rfl, ⟨.inl rfl, ⟨.inl rfl, ⟨.inl rfl, ⟨.inl rfl, trivial⟩⟩⟩⟩⟩ ⟨rfl, trivial⟩ ?_
  conv => whnf
  refine br_d H (fun c H => ?_) (fun c H => ?_)
  conv => whnf
  refine nd_ H (fun c H => ?_)
  conv => whnf
  refine Nd.mk nf_ ?_
  conv => whnf
  refine El.mk (rdm_en_S_impl_ClaimPart _ _ nf_ nf_) ?_
  conv => whnf
  refine br_d H (fun c H => ?_) (fun c H => ?_)
  conv => whnf
  refine Br.t ft_ ?_
  conv => whnf
  refine Br.t ft_ ?_
  conv => whnf
  refine Br.t ft_ ?_
  conv => whnf
  refine Br.t ft_ ?_
  conv => whnf
  refine nd_ H (fun c H => ?_)
  conv => whnf
  refine nd_ H (fun c H => ?_)
  conv => whnf
  refine El.mk (rdm_en_S_impl_ClaimPart _ _ nf_ nf_) ?_
  conv => whnf
  refine Br.t ft_ ?_
  conv => whnf
  refine Br.t ft_ ?_
  conv => whnf
  refine Br.t ft_ ?_
  conv => whnf
  refine Br.t ft_ ?_
  conv => whnf
  refine Br.t ft_ ?_
  conv => whnf
  refine Br.t ft_ ?_
  conv => whnf
  refine Br.t ft_ ?_
  conv => whnf
  refine br_d H (fun c H => ?_) (fun c H => ?_)
  conv => whnf
  refine Br.t ft_ ?_
  conv => whnf
  refine Br.t ft_ ?_
  conv => whnf
  refine Br.t ft_ ?_
  conv => whnf
  refine Br.t ft_ ?_
  conv => whnf
  refine Br.t ft_ ?_
  conv => whnf
  refine Br.t rfl ?_
  conv => whnf
  refine Br.t rfl ?_
  conv => whnf
  refine Br.t rfl ?_
  conv => whnf
  refine Br.t rfl ?_
  conv => whnf
  refine Br.t rfl ?_
  conv => whnf
  refine Br.t rfl ?_
  conv => whnf
  refine Br.t rfl ?_
  conv => whnf
  refine Br.t rfl ?_
  conv => whnf
  refine Br.t rfl ?_
  conv => whnf
  refine Br.t rfl ?_
  conv => whnf
  refine Br.t rfl ?_
  conv => whnf
  refine Br.t rfl ?_
  conv => whnf
  refine Br.t rfl ?_
  conv => whnf
  refine Br.t rfl ?_
  conv => whnf
  refine cut_ 792 [(1, .bp 0 0), (5, .int .i64 x128), (7, .bp 464 0), (126, (sv_S_impl_ClaimPart a0_3)), (127, .int .i64 (a0_3.length : Int)), (128, .int .i64 x128), (173, .bool true)] [(0, .box [(sv_S_impl_ClaimFoe a0_0), (sv_S_impl_ClaimSpot a0_1), (sv_str a0_2), (sv_S_impl_ClaimPart a0_3), .int .i64 a0_4]), (464, .box [.int .i64 (((rd_impl_ClaimPart a0_3 x128).f0).f0), .int .i64 (((rd_impl_ClaimPart a0_3 x128).f0).f1), (sv_str (((rd_impl_ClaimPart a0_3 x128).f0).f2)), (sv_S_impl_ClaimUse (((rd_impl_ClaimPart a0_3 x128).f0).f3)), (sv_str (((rd_impl_ClaimPart a0_3 x128).f0).f4)), (sv_str (((rd_impl_ClaimPart a0_3 x128).f0).f5))])] rfl ⟨.inl rfl, ⟨.inl rfl, ⟨.inl rfl, ⟨.inl rfl, ⟨.inl rfl, ⟨.inl rfl, ⟨.inl rfl, trivial⟩⟩⟩⟩⟩⟩⟩ ⟨rfl, ⟨rfl, trivial⟩⟩ ?_
  conv => whnf
  refine Br.t rfl ?_
  conv => whnf
  refine cut_ 800 [(2, .bool false)] [] rfl ⟨.inl rfl, trivial⟩ trivial ?_
  conv => whnf
  injection H with H; subst H
  exact ret_fz [] (rtA_eq rfl)
  conv => whnf
  refine Br.f ff_ ?_
  conv => whnf
  refine Br.f ff_ ?_
  conv => whnf
  refine Br.f ff_ ?_
  conv => whnf
  refine Br.f ff_ ?_
  conv => whnf
  refine Br.f ff_ ?_
  conv => whnf
  refine br_d H (fun c H => ?_) (fun c H => ?_)
  conv => whnf
  refine Br.t ft_ ?_
  conv => whnf
  refine Br.t ft_ ?_
  conv => whnf
  refine Br.t ft_ ?_
  conv => whnf
  refine Br.t rfl ?_
  conv => whnf
  refine Br.t rfl ?_
  conv => whnf
  refine Br.t rfl ?_
  conv => whnf
  refine Br.t rfl ?_
  conv => whnf
  refine Br.t rfl ?_
  conv => whnf
  refine Br.t rfl ?_
  conv => whnf
  refine Br.t rfl ?_
  conv => whnf
  refine Br.t rfl ?_
  conv => whnf
  refine Br.t rfl ?_
  conv => whnf
  refine Br.t rfl ?_
  conv => whnf
  refine cut_ 792 [(1, .bp 0 0), (5, .int .i64 x128), (7, .bp 464 0), (126, (sv_S_impl_ClaimPart a0_3)), (127, .int .i64 (a0_3.length : Int)), (128, .int .i64 x128), (173, .bool true)] [(0, .box [(sv_S_impl_ClaimFoe a0_0), (sv_S_impl_ClaimSpot a0_1), (sv_str a0_2), (sv_S_impl_ClaimPart a0_3), .int .i64 a0_4]), (464, .box [.int .i64 (((rd_impl_ClaimPart a0_3 x128).f0).f0), .int .i64 (((rd_impl_ClaimPart a0_3 x128).f0).f1), (sv_str (((rd_impl_ClaimPart a0_3 x128).f0).f2)), (sv_S_impl_ClaimUse (((rd_impl_ClaimPart a0_3 x128).f0).f3)), (sv_str (((rd_impl_ClaimPart a0_3 x128).f0).f4)), (sv_str (((rd_impl_ClaimPart a0_3 x128).f0).f5))])] rfl ⟨.inl rfl, ⟨.inl rfl, ⟨.inl rfl, ⟨.inl rfl, ⟨.inl rfl, ⟨.inl rfl, ⟨.inl rfl, trivial⟩⟩⟩⟩⟩⟩⟩ ⟨rfl, ⟨rfl, trivial⟩⟩ ?_
  conv => whnf
  refine Br.t rfl ?_
  conv => whnf
  refine cut_ 800 [(2, .bool false)] [] rfl ⟨.inl rfl, trivial⟩ trivial ?_
  conv => whnf
  injection H with H; subst H
  exact ret_fz [] (rtA_eq rfl)
  conv => whnf
  refine Br.f ff_ ?_
  conv => whnf
  revert H; refine bind_elim (fun t1594 A H => ?_)
  refine call_mk (impl_ClaimWantOk.ac A) (avAL_cons (avA_agg (avL_cons (av_shut' rfl) (avL_cons (av_shut' rfl) (avL_cons (av_shut' rfl) (avL_cons (av_shut' rfl) (avL_cons (av_shut' rfl) (avL_cons (av_shut' rfl) (avL_nil)))))))) (avAL_nil)) (Or.inl rfl) rfl rfl (Nat.le_of_ble_eq_true rfl) ?_
  conv => whnf
  refine Br.f ff_ ?_
  conv => whnf
  refine Br.f ff_ ?_
  conv => whnf
  refine br_nt H (fun c H => ?_) (fun c H => ?_)
  conv => whnf
  refine Br.f ff_ ?_
  conv => whnf
  refine Br.f ff_ ?_
  conv => whnf
  revert H; refine bind_elim (fun t1595 A H => ?_)
  refine call_mk (impl_ClaimBook_knows.ac A) (avAL_cons (avA_agg (avL_cons (av_shut' rfl) (avL_cons (av_shut' rfl) (avL_cons (av_shut' rfl) (avL_cons (av_shut' rfl) (avL_cons (av_shut' rfl) (avL_nil))))))) (avAL_cons (avA_agg (avL_cons (av_shut' rfl) (avL_cons (av_shut' rfl) (avL_cons (av_shut' rfl) (avL_cons (av_shut' rfl) (avL_cons (av_shut' rfl) (avL_cons (av_shut' rfl) (avL_nil)))))))) (avAL_nil))) (Or.inl rfl) rfl rfl (Nat.le_of_ble_eq_true rfl) ?_
  conv => whnf
  refine Br.f ff_ ?_
  conv => whnf
  refine Br.f ff_ ?_
  conv => whnf
  refine br_nt H (fun c H => ?_) (fun c H => ?_)
  conv => whnf
  refine Br.f ff_ ?_
  conv => whnf
  refine Br.f ff_ ?_
  conv => whnf
  revert H; refine bind_elim (fun t1596 A H => ?_)
  refine call_mk (impl_ClaimBook_settled.ac A) (avAL_cons (avA_agg (avL_cons (av_shut' rfl) (avL_cons (av_shut' rfl) (avL_cons (av_shut' rfl) (avL_cons (av_shut' rfl) (avL_cons (av_shut' rfl) (avL_nil))))))) (avAL_cons (avA_agg (avL_cons (av_shut' rfl) (avL_cons (av_shut' rfl) (avL_cons (av_shut' rfl) (avL_cons (av_shut' rfl) (avL_cons (av_shut' rfl) (avL_cons (av_shut' rfl) (avL_nil)))))))) (avAL_nil))) (Or.inl rfl) rfl rfl (Nat.le_of_ble_eq_true rfl) ?_
  conv => whnf
  refine Br.f ff_ ?_
  conv => whnf
  refine Br.f ff_ ?_
  conv => whnf
  refine cut_ 792 [(1, .bp 0 0), (5, .int .i64 x128), (7, .bp 464 0), (126, (sv_S_impl_ClaimPart a0_3)), (127, .int .i64 (a0_3.length : Int)), (128, .int .i64 x128), (173, .bool (!t1596))] [(0, .box [(sv_S_impl_ClaimFoe a0_0), (sv_S_impl_ClaimSpot a0_1), (sv_str a0_2), (sv_S_impl_ClaimPart a0_3), .int .i64 a0_4]), (464, .box [.int .i64 (((rd_impl_ClaimPart a0_3 x128).f0).f0), .int .i64 (((rd_impl_ClaimPart a0_3 x128).f0).f1), (sv_str (((rd_impl_ClaimPart a0_3 x128).f0).f2)), (sv_S_impl_ClaimUse (((rd_impl_ClaimPart a0_3 x128).f0).f3)), (sv_str (((rd_impl_ClaimPart a0_3 x128).f0).f4)), (sv_str (((rd_impl_ClaimPart a0_3 x128).f0).f5))])] rfl ⟨.inl rfl, ⟨.inl rfl, ⟨.inl rfl, ⟨.inl rfl, ⟨.inl rfl, ⟨.inl rfl, ⟨.inl rfl, trivial⟩⟩⟩⟩⟩⟩⟩ ⟨rfl, ⟨rfl, trivial⟩⟩ ?_
  conv => whnf
  refine br_nt H (fun c H => ?_) (fun c H => ?_)
  conv => whnf
  refine Nd.mk nf_ ?_
  conv => whnf
  refine nd_ H (fun c H => ?_)
  conv => whnf
  refine impl_ClaimBookOk.l2_lp (a0_0 := a0_0) (a0_1 := a0_1) (a0_2 := a0_2) (a0_3 := a0_3) (a0_4 := a0_4) (x128 := x128) (k := k) H [] (fits_of ⟨.inl ⟨rfl, rfl⟩, trivial⟩ trivial fi_ trivial rfl) ?_
  intro k x179 hk H; rcases k with _ | k; exact none_elim H; rw [impl_ClaimBookOk.l2] at H; conv => whnf
  refine br_d H (fun c H => ?_) (fun c H => ?_)
  conv => whnf
  refine nd_ H (fun c H => ?_)
  conv => whnf
  refine Nd.mk nf_ ?_
  conv => whnf
  refine El.mk (el_of (ys := (a0_3.take (x128).toNat).map en_S_impl_ClaimPart) lm_ (rdm_en_S_impl_ClaimPart _ _ nf_ nf_)) ?_
  conv => whnf
  refine cut_ 880 [(1, .bp 0 0), (7, .bp 464 0), (9, .bp 864 0), (126, (sv_S_impl_ClaimPart a0_3)), (127, .int .i64 (a0_3.length : Int)), (128, .int .i64 x128), (177, .sl 7 ((x128).toNat) ((a0_3.take (x128).toNat).map en_S_impl_ClaimPart)), (178, .int .i64 ((x128).toNat : Int)), (179, .int .i64 x179)] [(0, .box [(sv_S_impl_ClaimFoe a0_0), (sv_S_impl_ClaimSpot a0_1), (sv_str a0_2), (sv_S_impl_ClaimPart a0_3), .int .i64 a0_4]), (464, .box [.int .i64 (((rd_impl_ClaimPart a0_3 x128).f0).f0), .int .i64 (((rd_impl_ClaimPart a0_3 x128).f0).f1), (sv_str (((rd_impl_ClaimPart a0_3 x128).f0).f2)), (sv_S_impl_ClaimUse (((rd_impl_ClaimPart a0_3 x128).f0).f3)), (sv_str (((rd_impl_ClaimPart a0_3 x128).f0).f4)), (sv_str (((rd_impl_ClaimPart a0_3 x128).f0).f5))]), (864, .box [.int .i64 (((rd_impl_ClaimPart (a0_3.take (x128).toNat) x179).f0).f0), .int .i64 (((rd_impl_ClaimPart (a0_3.take (x128).toNat) x179).f0).f1), (sv_str (((rd_impl_ClaimPart (a0_3.take (x128).toNat) x179).f0).f2)), (sv_S_impl_ClaimUse (((rd_impl_ClaimPart (a0_3.take (x128).toNat) x179).f0).f3)), (sv_str (((rd_impl_ClaimPart (a0_3.take (x128).toNat) x179).f0).f4)), (sv_str (((rd_impl_ClaimPart (a0_3.take (x128).toNat) x179).f0).f5)), .bool ((rd_impl_ClaimPart (a0_3.take (x128).toNat) x179).f1)])] rfl ⟨.inl rfl, ⟨.inl rfl, ⟨.inl rfl, ⟨.inl rfl, ⟨.inl rfl, ⟨.inl rfl, ⟨fz_sl rfl lm_ lm_, ⟨.inl rfl, ⟨.inl rfl, trivial⟩⟩⟩⟩⟩⟩⟩⟩⟩ ⟨rfl, ⟨rfl, ⟨rfl, trivial⟩⟩⟩ ?_
  conv => whnf
  revert H; refine bind_elim (fun t1597 A H => ?_)
  refine call_mk (impl_shareUse.ac A) (avAL_cons (avA_agg (avL_cons (av_shut' rfl) (avL_cons (av_shut' rfl) (avL_cons (av_shut' rfl) (avL_cons (av_shut' rfl) (avL_cons (av_shut' rfl) (avL_cons (av_shut' rfl) (avL_nil)))))))) (avAL_cons (avA_agg (avL_cons (av_shut' rfl) (avL_cons (av_shut' rfl) (avL_cons (av_shut' rfl) (avL_cons (av_shut' rfl) (avL_cons (av_shut' rfl) (avL_cons (av_shut' rfl) (avL_nil)))))))) (avAL_nil))) (Or.inl rfl) rfl rfl (Nat.le_of_ble_eq_true rfl) ?_
  conv => whnf
  refine br_t H (fun c H => ?_) (fun c H => ?_)
  conv => whnf
  refine Br.t ft_ ?_
  conv => whnf
  refine Br.t ft_ ?_
  conv => whnf
  refine Br.t ft_ ?_
  conv => whnf
  refine Br.t ft_ ?_
  conv => whnf
  refine cut_ 960 [(1, .bp 0 0), (7, .bp 464 0), (126, (sv_S_impl_ClaimPart a0_3)), (127, .int .i64 (a0_3.length : Int)), (128, .int .i64 x128), (177, .sl 7 ((x128).toNat) ((a0_3.take (x128).toNat).map en_S_impl_ClaimPart)), (178, .int .i64 ((x128).toNat : Int)), (179, .int .i64 x179), (192, .bool true)] [(0, .box [(sv_S_impl_ClaimFoe a0_0), (sv_S_impl_ClaimSpot a0_1), (sv_str a0_2), (sv_S_impl_ClaimPart a0_3), .int .i64 a0_4]), (464, .box [.int .i64 (((rd_impl_ClaimPart a0_3 x128).f0).f0), .int .i64 (((rd_impl_ClaimPart a0_3 x128).f0).f1), (sv_str (((rd_impl_ClaimPart a0_3 x128).f0).f2)), (sv_S_impl_ClaimUse (((rd_impl_ClaimPart a0_3 x128).f0).f3)), (sv_str (((rd_impl_ClaimPart a0_3 x128).f0).f4)), (sv_str (((rd_impl_ClaimPart a0_3 x128).f0).f5))])] rfl ⟨.inl rfl, ⟨.inl rfl, ⟨.inl rfl, ⟨.inl rfl, ⟨.inl rfl, ⟨.inl rfl, ⟨.inl rfl, ⟨.inl rfl, ⟨.inl rfl, trivial⟩⟩⟩⟩⟩⟩⟩⟩⟩ ⟨rfl, ⟨rfl, trivial⟩⟩ ?_
  conv => whnf
  refine Br.t rfl ?_
  conv => whnf
  refine cut_ 968 [(2, .bool false)] [] rfl ⟨.inl rfl, trivial⟩ trivial ?_
  conv => whnf
  injection H with H; subst H
  exact ret_fz [] (rtA_eq rfl)
  conv => whnf
  refine Br.f ff_ ?_
  conv => whnf
  refine Br.f ff_ ?_
  conv => whnf
  refine Br.f ff_ ?_
  conv => whnf
  revert H; refine bind_elim (fun t1598 A H => ?_)
  refine call_mk (impl_crosses.ac A) (avAL_cons (avA_agg (avL_cons (av_shut' rfl) (avL_cons (av_shut' rfl) (avL_cons (av_shut' rfl) (avL_cons (av_shut' rfl) (avL_cons (av_shut' rfl) (avL_cons (av_shut' rfl) (avL_nil)))))))) (avAL_cons (avA_agg (avL_cons (av_shut' rfl) (avL_cons (av_shut' rfl) (avL_cons (av_shut' rfl) (avL_cons (av_shut' rfl) (avL_cons (av_shut' rfl) (avL_cons (av_shut' rfl) (avL_nil)))))))) (avAL_nil))) (Or.inl rfl) rfl rfl (Nat.le_of_ble_eq_true rfl) ?_
  conv => whnf
  refine Br.f ff_ ?_
  conv => whnf
  refine cut_ 960 [(1, .bp 0 0), (7, .bp 464 0), (126, (sv_S_impl_ClaimPart a0_3)), (127, .int .i64 (a0_3.length : Int)), (128, .int .i64 x128), (177, .sl 7 ((x128).toNat) ((a0_3.take (x128).toNat).map en_S_impl_ClaimPart)), (178, .int .i64 ((x128).toNat : Int)), (179, .int .i64 x179), (192, .bool t1598)] [(0, .box [(sv_S_impl_ClaimFoe a0_0), (sv_S_impl_ClaimSpot a0_1), (sv_str a0_2), (sv_S_impl_ClaimPart a0_3), .int .i64 a0_4]), (464, .box [.int .i64 (((rd_impl_ClaimPart a0_3 x128).f0).f0), .int .i64 (((rd_impl_ClaimPart a0_3 x128).f0).f1), (sv_str (((rd_impl_ClaimPart a0_3 x128).f0).f2)), (sv_S_impl_ClaimUse (((rd_impl_ClaimPart a0_3 x128).f0).f3)), (sv_str (((rd_impl_ClaimPart a0_3 x128).f0).f4)), (sv_str (((rd_impl_ClaimPart a0_3 x128).f0).f5))])] rfl ⟨.inl rfl, ⟨.inl rfl, ⟨.inl rfl, ⟨.inl rfl, ⟨.inl rfl, ⟨.inl rfl, ⟨.inl rfl, ⟨.inl rfl, ⟨.inl rfl, trivial⟩⟩⟩⟩⟩⟩⟩⟩⟩ ⟨rfl, ⟨rfl, trivial⟩⟩ ?_
  conv => whnf
  refine br_t H (fun c H => ?_) (fun c H => ?_)
  conv => whnf
  refine cut_ 968 [(2, .bool false)] [] rfl ⟨.inl rfl, trivial⟩ trivial ?_
  conv => whnf
  injection H with H; subst H
  exact ret_fz [] (rtA_eq rfl)
  conv => whnf
  exact ⟨(k, wrap64 (x179 + 1)), [], ⟨H, lt_⟩, lt_, (fits_of ⟨.inl ⟨rfl, rfl⟩, trivial⟩ trivial fi_ trivial rfl)⟩
  conv => whnf
  exact ⟨(k, wrap64 (x128 + 1)), [], ⟨H, lt_⟩, lt_, (fits_of ⟨.inl ⟨rfl, rfl⟩, trivial⟩ trivial fi_ trivial rfl)⟩
  conv => whnf
  refine cut_ 800 [(2, .bool false)] [] rfl ⟨.inl rfl, trivial⟩ trivial ?_
  conv => whnf
  injection H with H; subst H
  exact ret_fz [] (rtA_eq rfl)
  conv => whnf
  refine Br.t ft_ ?_
  conv => whnf
  refine Br.t ft_ ?_
  conv => whnf
  refine Br.t ft_ ?_
  conv => whnf
  refine Br.t ft_ ?_
  conv => whnf
  refine cut_ 792 [(1, .bp 0 0), (5, .int .i64 x128), (7, .bp 464 0), (126, (sv_S_impl_ClaimPart a0_3)), (127, .int .i64 (a0_3.length : Int)), (128, .int .i64 x128), (173, .bool true)] [(0, .box [(sv_S_impl_ClaimFoe a0_0), (sv_S_impl_ClaimSpot a0_1), (sv_str a0_2), (sv_S_impl_ClaimPart a0_3), .int .i64 a0_4]), (464, .box [.int .i64 (((rd_impl_ClaimPart a0_3 x128).f0).f0), .int .i64 (((rd_impl_ClaimPart a0_3 x128).f0).f1), (sv_str (((rd_impl_ClaimPart a0_3 x128).f0).f2)), (sv_S_impl_ClaimUse (((rd_impl_ClaimPart a0_3 x128).f0).f3)), (sv_str (((rd_impl_ClaimPart a0_3 x128).f0).f4)), (sv_str (((rd_impl_ClaimPart a0_3 x128).f0).f5))])] rfl ⟨.inl rfl, ⟨.inl rfl, ⟨.inl rfl, ⟨.inl rfl, ⟨.inl rfl, ⟨.inl rfl, ⟨.inl rfl, trivial⟩⟩⟩⟩⟩⟩⟩ ⟨rfl, ⟨rfl, trivial⟩⟩ ?_
  conv => whnf
  refine Br.t rfl ?_
  conv => whnf
  refine cut_ 800 [(2, .bool false)] [] rfl ⟨.inl rfl, trivial⟩ trivial ?_
  conv => whnf
  injection H with H; subst H
  exact ret_fz [] (rtA_eq rfl)
  conv => whnf
  refine Br.t ft_ ?_
  conv => whnf
  refine Br.t ft_ ?_
  conv => whnf
  refine Br.t ft_ ?_
  conv => whnf
  refine Br.t ft_ ?_
  conv => whnf
  refine Br.t rfl ?_
  conv => whnf
  refine Br.t rfl ?_
  conv => whnf
  refine Br.t rfl ?_
  conv => whnf
  refine Br.t rfl ?_
  conv => whnf
  refine Br.t rfl ?_
  conv => whnf
  refine cut_ 792 [(1, .bp 0 0), (5, .int .i64 x128), (7, .bp 464 0), (126, (sv_S_impl_ClaimPart a0_3)), (127, .int .i64 (a0_3.length : Int)), (128, .int .i64 x128), (173, .bool true)] [(0, .box [(sv_S_impl_ClaimFoe a0_0), (sv_S_impl_ClaimSpot a0_1), (sv_str a0_2), (sv_S_impl_ClaimPart a0_3), .int .i64 a0_4]), (464, .box [.int .i64 (((rd_impl_ClaimPart a0_3 x128).f0).f0), .int .i64 (((rd_impl_ClaimPart a0_3 x128).f0).f1), (sv_str (((rd_impl_ClaimPart a0_3 x128).f0).f2)), (sv_S_impl_ClaimUse (((rd_impl_ClaimPart a0_3 x128).f0).f3)), (sv_str (((rd_impl_ClaimPart a0_3 x128).f0).f4)), (sv_str (((rd_impl_ClaimPart a0_3 x128).f0).f5))])] rfl ⟨.inl rfl, ⟨.inl rfl, ⟨.inl rfl, ⟨.inl rfl, ⟨.inl rfl, ⟨.inl rfl, ⟨.inl rfl, trivial⟩⟩⟩⟩⟩⟩⟩ ⟨rfl, ⟨rfl, trivial⟩⟩ ?_
  conv => whnf
  refine Br.t rfl ?_
  conv => whnf
  refine cut_ 800 [(2, .bool false)] [] rfl ⟨.inl rfl, trivial⟩ trivial ?_
  conv => whnf
  injection H with H; subst H
  exact ret_fz [] (rtA_eq rfl)
  conv => whnf
  refine Br.f ff_ ?_
  conv => whnf
  refine Br.f ff_ ?_
  conv => whnf
  refine Br.f ff_ ?_
  conv => whnf
  refine Br.f ff_ ?_
  conv => whnf
  refine Br.f ff_ ?_
  conv => whnf
  refine Br.f ff_ ?_
  conv => whnf
  refine Br.f ff_ ?_
  conv => whnf
  refine Br.f ff_ ?_
  conv => whnf
  refine Br.f ff_ ?_
  conv => whnf
  refine Br.f ff_ ?_
  conv => whnf
  refine Br.f ff_ ?_
  conv => whnf
  refine Br.f rfl ?_
  conv => whnf
  refine Br.f rfl ?_
  conv => whnf
  refine Br.f rfl ?_
  conv => whnf
  refine Br.f rfl ?_
  conv => whnf
  refine Br.f rfl ?_
  conv => whnf
  refine Br.f rfl ?_
  conv => whnf
  refine br_d H (fun c H => ?_) (fun c H => ?_)
  conv => whnf
  refine Br.t ft_ ?_
  conv => whnf
  refine Br.t ft_ ?_
  conv => whnf
  refine Br.t ft_ ?_
  conv => whnf
  refine Br.t rfl ?_
  conv => whnf
  refine Br.t rfl ?_
  conv => whnf
  refine Br.t rfl ?_
  conv => whnf
  refine Br.t rfl ?_
  conv => whnf
  refine Br.t rfl ?_
  conv => whnf
  refine Br.t rfl ?_
  conv => whnf
  refine Br.t rfl ?_
  conv => whnf
  refine Br.t rfl ?_
  conv => whnf
  refine Br.t rfl ?_
  conv => whnf
  refine Br.t rfl ?_
  conv => whnf
  refine cut_ 792 [(1, .bp 0 0), (5, .int .i64 x128), (7, .bp 464 0), (126, (sv_S_impl_ClaimPart a0_3)), (127, .int .i64 (a0_3.length : Int)), (128, .int .i64 x128), (173, .bool true)] [(0, .box [(sv_S_impl_ClaimFoe a0_0), (sv_S_impl_ClaimSpot a0_1), (sv_str a0_2), (sv_S_impl_ClaimPart a0_3), .int .i64 a0_4]), (464, .box [.int .i64 (((rd_impl_ClaimPart a0_3 x128).f0).f0), .int .i64 (((rd_impl_ClaimPart a0_3 x128).f0).f1), (sv_str (((rd_impl_ClaimPart a0_3 x128).f0).f2)), (sv_S_impl_ClaimUse (((rd_impl_ClaimPart a0_3 x128).f0).f3)), (sv_str (((rd_impl_ClaimPart a0_3 x128).f0).f4)), (sv_str (((rd_impl_ClaimPart a0_3 x128).f0).f5))])] rfl ⟨.inl rfl, ⟨.inl rfl, ⟨.inl rfl, ⟨.inl rfl, ⟨.inl rfl, ⟨.inl rfl, ⟨.inl rfl, trivial⟩⟩⟩⟩⟩⟩⟩ ⟨rfl, ⟨rfl, trivial⟩⟩ ?_
  conv => whnf
  refine Br.t rfl ?_
  conv => whnf
  refine cut_ 800 [(2, .bool false)] [] rfl ⟨.inl rfl, trivial⟩ trivial ?_
  conv => whnf
  injection H with H; subst H
  exact ret_fz [] (rtA_eq rfl)
  conv => whnf
  refine Br.f ff_ ?_
  conv => whnf
  revert H; refine bind_elim (fun t1599 A H => ?_)
  refine call_mk (impl_ClaimWantOk.ac A) (avAL_cons (avA_agg (avL_cons (av_shut' rfl) (avL_cons (av_shut' rfl) (avL_cons (av_shut' rfl) (avL_cons (av_shut' rfl) (avL_cons (av_shut' rfl) (avL_cons (av_shut' rfl) (avL_nil)))))))) (avAL_nil)) (Or.inl rfl) rfl rfl (Nat.le_of_ble_eq_true rfl) ?_
  conv => whnf
  refine Br.f ff_ ?_
  conv => whnf
  refine Br.f ff_ ?_
  conv => whnf
  refine br_nt H (fun c H => ?_) (fun c H => ?_)
  conv => whnf
  refine Br.f ff_ ?_
  conv => whnf
  refine Br.f ff_ ?_
  conv => whnf
  revert H; refine bind_elim (fun t1600 A H => ?_)
  refine call_mk (impl_ClaimBook_knows.ac A) (avAL_cons (avA_agg (avL_cons (av_shut' rfl) (avL_cons (av_shut' rfl) (avL_cons (av_shut' rfl) (avL_cons (av_shut' rfl) (avL_cons (av_shut' rfl) (avL_nil))))))) (avAL_cons (avA_agg (avL_cons (av_shut' rfl) (avL_cons (av_shut' rfl) (avL_cons (av_shut' rfl) (avL_cons (av_shut' rfl) (avL_cons (av_shut' rfl) (avL_cons (av_shut' rfl) (avL_nil)))))))) (avAL_nil))) (Or.inl rfl) rfl rfl (Nat.le_of_ble_eq_true rfl) ?_
  conv => whnf
  refine Br.f ff_ ?_
  conv => whnf
  refine Br.f ff_ ?_
  conv => whnf
  refine br_nt H (fun c H => ?_) (fun c H => ?_)
  conv => whnf
  refine Br.f ff_ ?_
  conv => whnf
  refine Br.f ff_ ?_
  conv => whnf
  revert H; refine bind_elim (fun t1601 A H => ?_)
  refine call_mk (impl_ClaimBook_settled.ac A) (avAL_cons (avA_agg (avL_cons (av_shut' rfl) (avL_cons (av_shut' rfl) (avL_cons (av_shut' rfl) (avL_cons (av_shut' rfl) (avL_cons (av_shut' rfl) (avL_nil))))))) (avAL_cons (avA_agg (avL_cons (av_shut' rfl) (avL_cons (av_shut' rfl) (avL_cons (av_shut' rfl) (avL_cons (av_shut' rfl) (avL_cons (av_shut' rfl) (avL_cons (av_shut' rfl) (avL_nil)))))))) (avAL_nil))) (Or.inl rfl) rfl rfl (Nat.le_of_ble_eq_true rfl) ?_
  conv => whnf
  refine Br.f ff_ ?_
  conv => whnf
  refine Br.f ff_ ?_
  conv => whnf
  refine cut_ 792 [(1, .bp 0 0), (5, .int .i64 x128), (7, .bp 464 0), (126, (sv_S_impl_ClaimPart a0_3)), (127, .int .i64 (a0_3.length : Int)), (128, .int .i64 x128), (173, .bool (!t1601))] [(0, .box [(sv_S_impl_ClaimFoe a0_0), (sv_S_impl_ClaimSpot a0_1), (sv_str a0_2), (sv_S_impl_ClaimPart a0_3), .int .i64 a0_4]), (464, .box [.int .i64 (((rd_impl_ClaimPart a0_3 x128).f0).f0), .int .i64 (((rd_impl_ClaimPart a0_3 x128).f0).f1), (sv_str (((rd_impl_ClaimPart a0_3 x128).f0).f2)), (sv_S_impl_ClaimUse (((rd_impl_ClaimPart a0_3 x128).f0).f3)), (sv_str (((rd_impl_ClaimPart a0_3 x128).f0).f4)), (sv_str (((rd_impl_ClaimPart a0_3 x128).f0).f5))])] rfl ⟨.inl rfl, ⟨.inl rfl, ⟨.inl rfl, ⟨.inl rfl, ⟨.inl rfl, ⟨.inl rfl, ⟨.inl rfl, trivial⟩⟩⟩⟩⟩⟩⟩ ⟨rfl, ⟨rfl, trivial⟩⟩ ?_
  conv => whnf
  refine br_nt H (fun c H => ?_) (fun c H => ?_)
  conv => whnf
  refine Nd.mk nf_ ?_
  conv => whnf
  refine nd_ H (fun c H => ?_)
  conv => whnf
  refine impl_ClaimBookOk.l3_lp (a0_0 := a0_0) (a0_1 := a0_1) (a0_2 := a0_2) (a0_3 := a0_3) (a0_4 := a0_4) (x128 := x128) (k := k) H [] (fits_of ⟨.inl ⟨rfl, rfl⟩, trivial⟩ trivial fi_ trivial rfl) ?_
  intro k x179_1 hk H; rcases k with _ | k; exact none_elim H; rw [impl_ClaimBookOk.l3] at H; conv => whnf
  refine br_d H (fun c H => ?_) (fun c H => ?_)
  conv => whnf
  refine nd_ H (fun c H => ?_)
  conv => whnf
  refine Nd.mk nf_ ?_
  conv => whnf
  refine El.mk (el_of (ys := (a0_3.take (x128).toNat).map en_S_impl_ClaimPart) lm_ (rdm_en_S_impl_ClaimPart _ _ nf_ nf_)) ?_
  conv => whnf
  refine cut_ 880 [(1, .bp 0 0), (7, .bp 464 0), (9, .bp 864 0), (126, (sv_S_impl_ClaimPart a0_3)), (127, .int .i64 (a0_3.length : Int)), (128, .int .i64 x128), (177, .sl 7 ((x128).toNat) ((a0_3.take (x128).toNat).map en_S_impl_ClaimPart)), (178, .int .i64 ((x128).toNat : Int)), (179, .int .i64 x179_1)] [(0, .box [(sv_S_impl_ClaimFoe a0_0), (sv_S_impl_ClaimSpot a0_1), (sv_str a0_2), (sv_S_impl_ClaimPart a0_3), .int .i64 a0_4]), (464, .box [.int .i64 (((rd_impl_ClaimPart a0_3 x128).f0).f0), .int .i64 (((rd_impl_ClaimPart a0_3 x128).f0).f1), (sv_str (((rd_impl_ClaimPart a0_3 x128).f0).f2)), (sv_S_impl_ClaimUse (((rd_impl_ClaimPart a0_3 x128).f0).f3)), (sv_str (((rd_impl_ClaimPart a0_3 x128).f0).f4)), (sv_str (((rd_impl_ClaimPart a0_3 x128).f0).f5))]), (864, .box [.int .i64 (((rd_impl_ClaimPart (a0_3.take (x128).toNat) x179_1).f0).f0), .int .i64 (((rd_impl_ClaimPart (a0_3.take (x128).toNat) x179_1).f0).f1), (sv_str (((rd_impl_ClaimPart (a0_3.take (x128).toNat) x179_1).f0).f2)), (sv_S_impl_ClaimUse (((rd_impl_ClaimPart (a0_3.take (x128).toNat) x179_1).f0).f3)), (sv_str (((rd_impl_ClaimPart (a0_3.take (x128).toNat) x179_1).f0).f4)), (sv_str (((rd_impl_ClaimPart (a0_3.take (x128).toNat) x179_1).f0).f5)), .bool ((rd_impl_ClaimPart (a0_3.take (x128).toNat) x179_1).f1)])] rfl ⟨.inl rfl, ⟨.inl rfl, ⟨.inl rfl, ⟨.inl rfl, ⟨.inl rfl, ⟨.inl rfl, ⟨fz_sl rfl lm_ lm_, ⟨.inl rfl, ⟨.inl rfl, trivial⟩⟩⟩⟩⟩⟩⟩⟩⟩ ⟨rfl, ⟨rfl, ⟨rfl, trivial⟩⟩⟩ ?_
  conv => whnf
  revert H; refine bind_elim (fun t1602 A H => ?_)
  refine call_mk (impl_shareUse.ac A) (avAL_cons (avA_agg (avL_cons (av_shut' rfl) (avL_cons (av_shut' rfl) (avL_cons (av_shut' rfl) (avL_cons (av_shut' rfl) (avL_cons (av_shut' rfl) (avL_cons (av_shut' rfl) (avL_nil)))))))) (avAL_cons (avA_agg (avL_cons (av_shut' rfl) (avL_cons (av_shut' rfl) (avL_cons (av_shut' rfl) (avL_cons (av_shut' rfl) (avL_cons (av_shut' rfl) (avL_cons (av_shut' rfl) (avL_nil)))))))) (avAL_nil))) (Or.inl rfl) rfl rfl (Nat.le_of_ble_eq_true rfl) ?_
  conv => whnf
  refine br_t H (fun c H => ?_) (fun c H => ?_)
  conv => whnf
  refine Br.t ft_ ?_
  conv => whnf
  refine Br.t ft_ ?_
  conv => whnf
  refine Br.t ft_ ?_
  conv => whnf
  refine Br.t ft_ ?_
  conv => whnf
  refine cut_ 960 [(1, .bp 0 0), (7, .bp 464 0), (126, (sv_S_impl_ClaimPart a0_3)), (127, .int .i64 (a0_3.length : Int)), (128, .int .i64 x128), (177, .sl 7 ((x128).toNat) ((a0_3.take (x128).toNat).map en_S_impl_ClaimPart)), (178, .int .i64 ((x128).toNat : Int)), (179, .int .i64 x179_1), (192, .bool true)] [(0, .box [(sv_S_impl_ClaimFoe a0_0), (sv_S_impl_ClaimSpot a0_1), (sv_str a0_2), (sv_S_impl_ClaimPart a0_3), .int .i64 a0_4]), (464, .box [.int .i64 (((rd_impl_ClaimPart a0_3 x128).f0).f0), .int .i64 (((rd_impl_ClaimPart a0_3 x128).f0).f1), (sv_str (((rd_impl_ClaimPart a0_3 x128).f0).f2)), (sv_S_impl_ClaimUse (((rd_impl_ClaimPart a0_3 x128).f0).f3)), (sv_str (((rd_impl_ClaimPart a0_3 x128).f0).f4)), (sv_str (((rd_impl_ClaimPart a0_3 x128).f0).f5))])] rfl ⟨.inl rfl, ⟨.inl rfl, ⟨.inl rfl, ⟨.inl rfl, ⟨.inl rfl, ⟨.inl rfl, ⟨.inl rfl, ⟨.inl rfl, ⟨.inl rfl, trivial⟩⟩⟩⟩⟩⟩⟩⟩⟩ ⟨rfl, ⟨rfl, trivial⟩⟩ ?_
  conv => whnf
  refine Br.t rfl ?_
  conv => whnf
  refine cut_ 968 [(2, .bool false)] [] rfl ⟨.inl rfl, trivial⟩ trivial ?_
  conv => whnf
  injection H with H; subst H
  exact ret_fz [] (rtA_eq rfl)
  conv => whnf
  refine Br.f ff_ ?_
  conv => whnf
  refine Br.f ff_ ?_
  conv => whnf
  refine Br.f ff_ ?_
  conv => whnf
  revert H; refine bind_elim (fun t1603 A H => ?_)
  refine call_mk (impl_crosses.ac A) (avAL_cons (avA_agg (avL_cons (av_shut' rfl) (avL_cons (av_shut' rfl) (avL_cons (av_shut' rfl) (avL_cons (av_shut' rfl) (avL_cons (av_shut' rfl) (avL_cons (av_shut' rfl) (avL_nil)))))))) (avAL_cons (avA_agg (avL_cons (av_shut' rfl) (avL_cons (av_shut' rfl) (avL_cons (av_shut' rfl) (avL_cons (av_shut' rfl) (avL_cons (av_shut' rfl) (avL_cons (av_shut' rfl) (avL_nil)))))))) (avAL_nil))) (Or.inl rfl) rfl rfl (Nat.le_of_ble_eq_true rfl) ?_
  conv => whnf
  refine Br.f ff_ ?_
  conv => whnf
  refine cut_ 960 [(1, .bp 0 0), (7, .bp 464 0), (126, (sv_S_impl_ClaimPart a0_3)), (127, .int .i64 (a0_3.length : Int)), (128, .int .i64 x128), (177, .sl 7 ((x128).toNat) ((a0_3.take (x128).toNat).map en_S_impl_ClaimPart)), (178, .int .i64 ((x128).toNat : Int)), (179, .int .i64 x179_1), (192, .bool t1603)] [(0, .box [(sv_S_impl_ClaimFoe a0_0), (sv_S_impl_ClaimSpot a0_1), (sv_str a0_2), (sv_S_impl_ClaimPart a0_3), .int .i64 a0_4]), (464, .box [.int .i64 (((rd_impl_ClaimPart a0_3 x128).f0).f0), .int .i64 (((rd_impl_ClaimPart a0_3 x128).f0).f1), (sv_str (((rd_impl_ClaimPart a0_3 x128).f0).f2)), (sv_S_impl_ClaimUse (((rd_impl_ClaimPart a0_3 x128).f0).f3)), (sv_str (((rd_impl_ClaimPart a0_3 x128).f0).f4)), (sv_str (((rd_impl_ClaimPart a0_3 x128).f0).f5))])] rfl ⟨.inl rfl, ⟨.inl rfl, ⟨.inl rfl, ⟨.inl rfl, ⟨.inl rfl, ⟨.inl rfl, ⟨.inl rfl, ⟨.inl rfl, ⟨.inl rfl, trivial⟩⟩⟩⟩⟩⟩⟩⟩⟩ ⟨rfl, ⟨rfl, trivial⟩⟩ ?_
  conv => whnf
  refine br_t H (fun c H => ?_) (fun c H => ?_)
  conv => whnf
  refine cut_ 968 [(2, .bool false)] [] rfl ⟨.inl rfl, trivial⟩ trivial ?_
  conv => whnf
  injection H with H; subst H
  exact ret_fz [] (rtA_eq rfl)
  conv => whnf
  exact ⟨(k, wrap64 (x179_1 + 1)), [], ⟨H, lt_⟩, lt_, (fits_of ⟨.inl ⟨rfl, rfl⟩, trivial⟩ trivial fi_ trivial rfl)⟩
  conv => whnf
  exact ⟨(k, wrap64 (x128 + 1)), [], ⟨H, lt_⟩, lt_, (fits_of ⟨.inl ⟨rfl, rfl⟩, trivial⟩ trivial fi_ trivial rfl)⟩
  conv => whnf
  refine cut_ 800 [(2, .bool false)] [] rfl ⟨.inl rfl, trivial⟩ trivial ?_
  conv => whnf
  injection H with H; subst H
  exact ret_fz [] (rtA_eq rfl)
  conv => whnf
  refine Br.t ft_ ?_
  conv => whnf
  refine Br.t ft_ ?_
  conv => whnf
  refine Br.t ft_ ?_
  conv => whnf
  refine Br.t ft_ ?_
  conv => whnf
  refine cut_ 792 [(1, .bp 0 0), (5, .int .i64 x128), (7, .bp 464 0), (126, (sv_S_impl_ClaimPart a0_3)), (127, .int .i64 (a0_3.length : Int)), (128, .int .i64 x128), (173, .bool true)] [(0, .box [(sv_S_impl_ClaimFoe a0_0), (sv_S_impl_ClaimSpot a0_1), (sv_str a0_2), (sv_S_impl_ClaimPart a0_3), .int .i64 a0_4]), (464, .box [.int .i64 (((rd_impl_ClaimPart a0_3 x128).f0).f0), .int .i64 (((rd_impl_ClaimPart a0_3 x128).f0).f1), (sv_str (((rd_impl_ClaimPart a0_3 x128).f0).f2)), (sv_S_impl_ClaimUse (((rd_impl_ClaimPart a0_3 x128).f0).f3)), (sv_str (((rd_impl_ClaimPart a0_3 x128).f0).f4)), (sv_str (((rd_impl_ClaimPart a0_3 x128).f0).f5))])] rfl ⟨.inl rfl, ⟨.inl rfl, ⟨.inl rfl, ⟨.inl rfl, ⟨.inl rfl, ⟨.inl rfl, ⟨.inl rfl, trivial⟩⟩⟩⟩⟩⟩⟩ ⟨rfl, ⟨rfl, trivial⟩⟩ ?_
  conv => whnf
  refine Br.t rfl ?_
  conv => whnf
  refine cut_ 800 [(2, .bool false)] [] rfl ⟨.inl rfl, trivial⟩ trivial ?_
  conv => whnf
  injection H with H; subst H
  exact ret_fz [] (rtA_eq rfl)
  conv => whnf
  refine Br.t ft_ ?_
  conv => whnf
  refine Br.t ft_ ?_
  conv => whnf
  refine Br.t ft_ ?_
  conv => whnf
  refine Br.t ft_ ?_
  conv => whnf
  refine Br.t rfl ?_
  conv => whnf
  refine Br.t rfl ?_
  conv => whnf
  refine Br.t rfl ?_
  conv => whnf
  refine Br.t rfl ?_
  conv => whnf
  refine Br.t rfl ?_
  conv => whnf
  refine cut_ 792 [(1, .bp 0 0), (5, .int .i64 x128), (7, .bp 464 0), (126, (sv_S_impl_ClaimPart a0_3)), (127, .int .i64 (a0_3.length : Int)), (128, .int .i64 x128), (173, .bool true)] [(0, .box [(sv_S_impl_ClaimFoe a0_0), (sv_S_impl_ClaimSpot a0_1), (sv_str a0_2), (sv_S_impl_ClaimPart a0_3), .int .i64 a0_4]), (464, .box [.int .i64 (((rd_impl_ClaimPart a0_3 x128).f0).f0), .int .i64 (((rd_impl_ClaimPart a0_3 x128).f0).f1), (sv_str (((rd_impl_ClaimPart a0_3 x128).f0).f2)), (sv_S_impl_ClaimUse (((rd_impl_ClaimPart a0_3 x128).f0).f3)), (sv_str (((rd_impl_ClaimPart a0_3 x128).f0).f4)), (sv_str (((rd_impl_ClaimPart a0_3 x128).f0).f5))])] rfl ⟨.inl rfl, ⟨.inl rfl, ⟨.inl rfl, ⟨.inl rfl, ⟨.inl rfl, ⟨.inl rfl, ⟨.inl rfl, trivial⟩⟩⟩⟩⟩⟩⟩ ⟨rfl, ⟨rfl, trivial⟩⟩ ?_
  conv => whnf
  refine Br.t rfl ?_
  conv => whnf
  refine cut_ 800 [(2, .bool false)] [] rfl ⟨.inl rfl, trivial⟩ trivial ?_
  conv => whnf
  injection H with H; subst H
  exact ret_fz [] (rtA_eq rfl)
  conv => whnf
  injection H with H; subst H
  exact ret_fz [] (rtA_eq rfl)
  conv => whnf
  refine Br.t ft_ ?_
  conv => whnf
  refine Br.t ft_ ?_
  conv => whnf
  refine Br.t ft_ ?_
  conv => whnf
  refine Br.t rfl ?_
  conv => whnf
  refine Br.t rfl ?_
  conv => whnf
  refine Br.t rfl ?_
  conv => whnf
  refine Br.t rfl ?_
  conv => whnf
  refine Br.t rfl ?_
  conv => whnf
  refine Br.t rfl ?_
  conv => whnf
  refine Br.t rfl ?_
  conv => whnf
  refine Br.t rfl ?_
  conv => whnf
  refine Br.t rfl ?_
  conv => whnf
  refine cut_ 320 [(1, .bp 0 0), (47, .bool true)] [(0, .box [(sv_S_impl_ClaimFoe a0_0), (sv_S_impl_ClaimSpot a0_1), (sv_str a0_2), (sv_S_impl_ClaimPart a0_3), .int .i64 a0_4])] rfl ⟨.inl rfl, ⟨.inl rfl, trivial⟩⟩ ⟨rfl, trivial⟩ ?_
  conv => whnf
  refine Br.t rfl ?_
  conv => whnf
  refine cut_ 328 [(2, .bool false)] [] rfl ⟨.inl rfl, trivial⟩ trivial ?_
  conv => whnf
  injection H with H; subst H
  exact ret_fz [] (rtA_eq rfl)
  conv => whnf
  refine Br.t ft_ ?_
  conv => whnf
  refine Br.t ft_ ?_
  conv => whnf
  refine Br.t ft_ ?_
  conv => whnf
  refine Br.t ft_ ?_
  conv => whnf
  refine Br.t rfl ?_
  conv => whnf
  refine Br.t rfl ?_
  conv => whnf
  refine Br.t rfl ?_
  conv => whnf
  refine Br.t rfl ?_
  conv => whnf
  refine Br.t rfl ?_
  conv => whnf
  refine Br.t rfl ?_
  conv => whnf
  refine Br.t rfl ?_
  conv => whnf
  refine Br.t rfl ?_
  conv => whnf
  refine Br.t rfl ?_
  conv => whnf
  refine Br.t rfl ?_
  conv => whnf
  refine Br.t rfl ?_
  conv => whnf
  refine Br.t rfl ?_
  conv => whnf
  refine Br.t rfl ?_
  conv => whnf
  refine Br.t rfl ?_
  conv => whnf
  refine Br.t rfl ?_
  conv => whnf
  refine Br.t rfl ?_
  conv => whnf
  refine Br.t rfl ?_
  conv => whnf
  refine Br.t rfl ?_
  conv => whnf
  refine Br.t rfl ?_
  conv => whnf
  refine Br.t rfl ?_
  conv => whnf
  refine Br.t rfl ?_
  conv => whnf
  refine Br.t rfl ?_
  conv => whnf
  refine Br.t rfl ?_
  conv => whnf
  refine cut_ 320 [(1, .bp 0 0), (47, .bool true)] [(0, .box [(sv_S_impl_ClaimFoe a0_0), (sv_S_impl_ClaimSpot a0_1), (sv_str a0_2), (sv_S_impl_ClaimPart a0_3), .int .i64 a0_4])] rfl ⟨.inl rfl, ⟨.inl rfl, trivial⟩⟩ ⟨rfl, trivial⟩ ?_
  conv => whnf
  refine Br.t rfl ?_
  conv => whnf
  refine cut_ 328 [(2, .bool false)] [] rfl ⟨.inl rfl, trivial⟩ trivial ?_
  conv => whnf
  injection H with H; subst H
  exact ret_fz [] (rtA_eq rfl)
theorem impl_ClaimShut.l0_lp {F : (Exit → St → Prop) → St → Prop} {hv : List Tmp} {Q : Exit → St → Prop} {σ : St} {r : List Int} {k : Nat} {a0_3 : List S_impl_ClaimPart} {a1 : ByteArray} {x5 : List Int} {x14 : Int} (H : impl_ClaimShut.l0 k a0_3 a1 x5 x14 = some r) (rn : List (Option Nat)) (h1 : Fits σ σ [] [(5, .own 0 x5.length), (14, .int .i64 x14)] [] [.arr 3 1 (x5.map en_i64)] rn)
    (h2 : ∀ (k0 : Nat) (x5 : List Int) (x14 : Int), k0 < k + 1 → impl_ClaimShut.l0 k0 a0_3 a1 x5 x14 = some r → headN σ hv [] [(5, .own 0 x5.length), (14, .int .i64 x14)] [] [.arr 3 1 (x5.map en_i64)] (F (fun e σ' => match e with | .normal => ∃ (y : Nat × (List Int) × Int) (rn : List (Option Nat)), (impl_ClaimShut.l0 y.1 a0_3 a1 y.2.1 y.2.2 = some r ∧ y.1 < k + 1) ∧ y.1 < k0 ∧ Fits σ σ' [] [(5, .own 0 y.2.1.length), (14, .int .i64 y.2.2)] [] [.arr 3 1 (y.2.1.map en_i64)] rn | e => Q e σ'))) : Lp F hv Q σ := by
  unfold Lp
  refine ⟨Nat × (List Int) × Int, fun x => impl_ClaimShut.l0 x.1 a0_3 a1 x.2.1 x.2.2 = some r ∧ x.1 < k + 1, fun x => x.1, [], fun x => [(5, .own 0 x.2.1.length), (14, .int .i64 x.2.2)], fun x => [], fun x => [.arr 3 1 (x.2.1.map en_i64)], ⟨(k, x5, x14), rn, ⟨H, Nat.lt_succ_self _⟩, h1⟩, ?_⟩
  rintro ⟨k, x5, x14⟩ ⟨H, hk⟩
  exact h2 k x5 x14 hk H
theorem impl_ClaimShut.ac {k : Nat} {a0_0 : List S_impl_ClaimFoe} {a0_1 : List S_impl_ClaimSpot} {a0_2 : List ByteArray} {a0_3 : List S_impl_ClaimPart} {a0_4 : Int} {a1 : ByteArray} {r : List Int} (H : impl_ClaimShut.f k a0_0 a0_1 a0_2 a0_3 a0_4 a1 = some r) : ACalls Try.prog G 36 [] [.agg [(sv_S_impl_ClaimFoe a0_0), (sv_S_impl_ClaimSpot a0_1), (sv_str a0_2), (sv_S_impl_ClaimPart a0_3), .int .i64 a0_4], .str a1] [] ((sv_i64 r)) := by
  refine acalls_of tok hP Try.func36 rfl (by kernel_rfl) [.tmp 4] rfl (by kernel_rfl) (Nat.le_of_ble_eq_true rfl) (.l .n (.l .n (.l .n (.l (.c .n (.l .n (.l .n (.c .n .n)))) .n)))) rfl ?_
  unfold impl_ClaimShut.f at H
  conv => whnf
  revert H; refine bind_elim (fun t1606 A H => ?_)
  refine call_mk (impl_ClaimBookOk.ac A) (avAL_cons (avA_agg (avL_cons (av_shut' rfl) (avL_cons (av_shut' rfl) (avL_cons (av_shut' rfl) (avL_cons (av_shut' rfl) (avL_cons (av_shut' rfl) (avL_nil))))))) (avAL_nil)) (Or.inl rfl) rfl rfl (Nat.le_of_ble_eq_true rfl) ?_
  conv => whnf
  refine br_nt H (fun c H => ?_) (fun c H => ?_)
  conv => whnf
  refine cut_ 80 [(1, .str a1), (5, .nil), (12, (sv_S_impl_ClaimPart a0_3)), (13, .int .i64 (a0_3.length : Int)), (14, .int .i64 0)] [] rfl ⟨.inl rfl, ⟨.inl rfl, ⟨.inl rfl, ⟨.inl rfl, ⟨.inl rfl, trivial⟩⟩⟩⟩⟩ trivial ?_
  conv => whnf
  refine impl_ClaimShut.l0_lp (a0_3 := a0_3) (a1 := a1) (k := k) H [none] (fits_of ⟨⟨rfl, rfl⟩, ⟨.inl ⟨rfl, rfl⟩, trivial⟩⟩ ⟨rfl, trivial⟩ fi_ trivial rfl) ?_
  intro k x5 x14 hk H; rcases k with _ | k; exact none_elim H; rw [impl_ClaimShut.l0] at H; conv => whnf
  refine br_d H (fun c H => ?_) (fun c H => ?_)
  conv => whnf
  refine nd_ H (fun c H => ?_)
  conv => whnf
  refine Nd.mk nf_ ?_
  conv => whnf
  refine El.mk (rdm_en_S_impl_ClaimPart _ _ nf_ nf_) ?_
  conv => whnf
  revert H; refine bind_elim (fun t1612 A H => ?_)
  refine call_mk (impl_has.ac A) (avAL_cons (avA_shut' rfl) (avAL_cons (avA_shut' rfl) (avAL_nil))) (Or.inl rfl) rfl rfl (Nat.le_of_ble_eq_true rfl) ?_
  conv => whnf
  refine br_t H (fun c H => ?_) (fun c H => ?_)
  conv => whnf
  refine Or.inl ?_
  conv => whnf
  refine nd_ H (fun c H => ?_)
  conv => whnf
  refine cut_ 217 [(1, .str a1), (5, .own 201 (x5.length + 1)), (12, (sv_S_impl_ClaimPart a0_3)), (13, .int .i64 (a0_3.length : Int)), (14, .int .i64 x14)] [(201, .arr 3 1 ((x5 ++ ([((rd_impl_ClaimPart a0_3 x14).f0).f0] : List Int)).map en_i64))] rfl ⟨.inl rfl, ⟨.inl rfl, ⟨.inl rfl, ⟨.inl rfl, ⟨.inl rfl, trivial⟩⟩⟩⟩⟩ ⟨fm_, trivial⟩ ?_
  conv => whnf
  exact ⟨(k, (x5 ++ ([((rd_impl_ClaimPart a0_3 x14).f0).f0] : List Int)), wrap64 (x14 + 1)), [some 201], ⟨H, lt_⟩, lt_, (fits_of ⟨mt_own lm_, ⟨.inl ⟨rfl, rfl⟩, trivial⟩⟩ ⟨rfl, trivial⟩ fi_ trivial rfl)⟩
  conv => whnf
  refine cut_ 161 [(1, .str a1), (5, .own 80 x5.length), (12, (sv_S_impl_ClaimPart a0_3)), (13, .int .i64 (a0_3.length : Int)), (14, .int .i64 x14)] [(80, .arr 3 1 (x5.map en_i64))] rfl ⟨.inl rfl, ⟨.inl rfl, ⟨.inl rfl, ⟨.inl rfl, ⟨.inl rfl, trivial⟩⟩⟩⟩⟩ ⟨rfl, trivial⟩ ?_
  conv => whnf
  exact ⟨(k, x5, wrap64 (x14 + 1)), [some 80], ⟨H, lt_⟩, lt_, (fits_of ⟨rfl, ⟨.inl ⟨rfl, rfl⟩, trivial⟩⟩ ⟨rfl, trivial⟩ fi_ trivial rfl)⟩
  conv => whnf
  injection H with H; subst H
  exact ret_fz [80] (rtA_fz' rfl rfl)
  conv => whnf
  injection H with H; subst H
  exact ret_fz [] (rtA_nil)
theorem impl_ClaimShut.l0_lpO {F : (Exit → St → Prop) → St → Prop} {hv : List Tmp} {Q : Exit → St → Prop} {σ : St} {r : List Int} {k : Nat} {a0_3 : List S_impl_ClaimPart} {a1 : ByteArray} {x5 : List Int} {x14 : Int} (H : impl_ClaimShut.l0 k a0_3 a1 x5 x14 = some r) (rn : List (Option Nat)) (h1 : Fits σ σ [] [(5, .own 0 x5.length), (14, .int .i64 x14)] [] [.arr 3 1 (x5.map en_i64)] rn)
    (h2 : ∀ (k0 : Nat) (x5 : List Int) (x14 : Int), k0 < k + 1 → impl_ClaimShut.l0 k0 a0_3 a1 x5 x14 = some r → headN σ hv [] [(5, .own 0 x5.length), (14, .int .i64 x14)] [] [.arr 3 1 (x5.map en_i64)] (F (fun e σ' => match e with | .normal => ∃ (y : Nat × (List Int) × Int) (rn : List (Option Nat)), (impl_ClaimShut.l0 y.1 a0_3 a1 y.2.1 y.2.2 = some r ∧ y.1 < k + 1) ∧ y.1 < k0 ∧ Fits σ σ' [] [(5, .own 0 y.2.1.length), (14, .int .i64 y.2.2)] [] [.arr 3 1 (y.2.1.map en_i64)] rn | e => Q e σ'))) : Lp F hv Q σ := by
  unfold Lp
  refine ⟨Nat × (List Int) × Int, fun x => impl_ClaimShut.l0 x.1 a0_3 a1 x.2.1 x.2.2 = some r ∧ x.1 < k + 1, fun x => x.1, [], fun x => [(5, .own 0 x.2.1.length), (14, .int .i64 x.2.2)], fun x => [], fun x => [.arr 3 1 (x.2.1.map en_i64)], ⟨(k, x5, x14), rn, ⟨H, Nat.lt_succ_self _⟩, h1⟩, ?_⟩
  rintro ⟨k, x5, x14⟩ ⟨H, hk⟩
  exact h2 k x5 x14 hk H
theorem impl_ClaimShut.acO {k : Nat} {a0_0 : List S_impl_ClaimFoe} {a0_1 : List S_impl_ClaimSpot} {a0_2 : List ByteArray} {a0_3 : List S_impl_ClaimPart} {a0_4 : Int} {a1 : ByteArray} {r : List Int} (H : impl_ClaimShut.f k a0_0 a0_1 a0_2 a0_3 a0_4 a1 = some r) : ACalls Try.prog G 36 [] [.agg [(sv_S_impl_ClaimFoe a0_0), (sv_S_impl_ClaimSpot a0_1), (sv_str a0_2), (sv_S_impl_ClaimPart a0_3), .int .i64 a0_4], .str a1] [.arr 3 1 (r.map en_i64)] (.own 0 r.length) := by
  refine acalls_of tok hP Try.func36 rfl (by kernel_rfl) [.tmp 4] rfl (by kernel_rfl) (Nat.le_of_ble_eq_true rfl) (.l .n (.l .n (.l .n (.l (.c .n (.l .n (.l .n (.c .n .n)))) .n)))) rfl ?_
  unfold impl_ClaimShut.f at H
  conv => whnf
  revert H; refine bind_elim (fun t2772 A H => ?_)
  refine call_mk (impl_ClaimBookOk.ac A) (avAL_cons (avA_agg (avL_cons (av_shut' rfl) (avL_cons (av_shut' rfl) (avL_cons (av_shut' rfl) (avL_cons (av_shut' rfl) (avL_cons (av_shut' rfl) (avL_nil))))))) (avAL_nil)) (Or.inl rfl) rfl rfl (Nat.le_of_ble_eq_true rfl) ?_
  conv => whnf
  refine br_nt H (fun c H => ?_) (fun c H => ?_)
  conv => whnf
  refine cut_ 80 [(1, .str a1), (5, .nil), (12, (sv_S_impl_ClaimPart a0_3)), (13, .int .i64 (a0_3.length : Int)), (14, .int .i64 0)] [] rfl ⟨.inl rfl, ⟨.inl rfl, ⟨.inl rfl, ⟨.inl rfl, ⟨.inl rfl, trivial⟩⟩⟩⟩⟩ trivial ?_
  conv => whnf
  refine impl_ClaimShut.l0_lpO (a0_3 := a0_3) (a1 := a1) (k := k) H [none] (fits_of ⟨⟨rfl, rfl⟩, ⟨.inl ⟨rfl, rfl⟩, trivial⟩⟩ ⟨rfl, trivial⟩ fi_ trivial rfl) ?_
  intro k x5 x14 hk H; rcases k with _ | k; exact none_elim H; rw [impl_ClaimShut.l0] at H; conv => whnf
  refine br_d H (fun c H => ?_) (fun c H => ?_)
  conv => whnf
  refine nd_ H (fun c H => ?_)
  conv => whnf
  refine Nd.mk nf_ ?_
  conv => whnf
  refine El.mk (rdm_en_S_impl_ClaimPart _ _ nf_ nf_) ?_
  conv => whnf
  revert H; refine bind_elim (fun t2778 A H => ?_)
  refine call_mk (impl_has.ac A) (avAL_cons (avA_shut' rfl) (avAL_cons (avA_shut' rfl) (avAL_nil))) (Or.inl rfl) rfl rfl (Nat.le_of_ble_eq_true rfl) ?_
  conv => whnf
  refine br_t H (fun c H => ?_) (fun c H => ?_)
  conv => whnf
  refine Or.inl ?_
  conv => whnf
  refine nd_ H (fun c H => ?_)
  conv => whnf
  refine cut_ 217 [(1, .str a1), (5, .own 201 (x5.length + 1)), (12, (sv_S_impl_ClaimPart a0_3)), (13, .int .i64 (a0_3.length : Int)), (14, .int .i64 x14)] [(201, .arr 3 1 ((x5 ++ ([((rd_impl_ClaimPart a0_3 x14).f0).f0] : List Int)).map en_i64))] rfl ⟨.inl rfl, ⟨.inl rfl, ⟨.inl rfl, ⟨.inl rfl, ⟨.inl rfl, trivial⟩⟩⟩⟩⟩ ⟨fm_, trivial⟩ ?_
  conv => whnf
  exact ⟨(k, (x5 ++ ([((rd_impl_ClaimPart a0_3 x14).f0).f0] : List Int)), wrap64 (x14 + 1)), [some 201], ⟨H, lt_⟩, lt_, (fits_of ⟨mt_own lm_, ⟨.inl ⟨rfl, rfl⟩, trivial⟩⟩ ⟨rfl, trivial⟩ fi_ trivial rfl)⟩
  conv => whnf
  refine cut_ 161 [(1, .str a1), (5, .own 80 x5.length), (12, (sv_S_impl_ClaimPart a0_3)), (13, .int .i64 (a0_3.length : Int)), (14, .int .i64 x14)] [(80, .arr 3 1 (x5.map en_i64))] rfl ⟨.inl rfl, ⟨.inl rfl, ⟨.inl rfl, ⟨.inl rfl, ⟨.inl rfl, trivial⟩⟩⟩⟩⟩ ⟨rfl, trivial⟩ ?_
  conv => whnf
  exact ⟨(k, x5, wrap64 (x14 + 1)), [some 80], ⟨H, lt_⟩, lt_, (fits_of ⟨rfl, ⟨.inl ⟨rfl, rfl⟩, trivial⟩⟩ ⟨rfl, trivial⟩ fi_ trivial rfl)⟩
  conv => whnf
  injection H with H; subst H
  exact ret_gen [some 80] [] ((rfl)) ⟨rfl, trivial⟩ rfl
  conv => whnf
  injection H with H; subst H
  exact ret_gen [none] [] ((⟨rfl, rfl⟩)) ⟨rfl, trivial⟩ rfl
theorem laws_eqIntS.l0_lp {F : (Exit → St → Prop) → St → Prop} {hv : List Tmp} {Q : Exit → St → Prop} {σ : St} {r : Bool} {k : Nat} {l0 : List Int} {l1 : List Int} {x5 : Int} (H : laws_eqIntS.l0 k l0 l1 x5 = some r) (rn : List (Option Nat)) (h1 : Fits σ σ [] [(5, .int .i64 x5)] [] [] rn)
    (h2 : ∀ (k0 : Nat) (x5 : Int), k0 < k + 1 → laws_eqIntS.l0 k0 l0 l1 x5 = some r → headN σ hv [] [(5, .int .i64 x5)] [] [] (F (fun e σ' => match e with | .normal => ∃ (y : Nat × Int) (rn : List (Option Nat)), (laws_eqIntS.l0 y.1 l0 l1 y.2 = some r ∧ y.1 < k + 1) ∧ y.1 < k0 ∧ Fits σ σ' [] [(5, .int .i64 y.2)] [] [] rn | e => Q e σ'))) : Lp F hv Q σ := by
  unfold Lp
  refine ⟨Nat × Int, fun x => laws_eqIntS.l0 x.1 l0 l1 x.2 = some r ∧ x.1 < k + 1, fun x => x.1, [], fun x => [(5, .int .i64 x.2)], fun x => [], fun x => [], ⟨(k, x5), rn, ⟨H, Nat.lt_succ_self _⟩, h1⟩, ?_⟩
  rintro ⟨k, x5⟩ ⟨H, hk⟩
  exact h2 k x5 hk H
theorem laws_eqIntS.ac {k : Nat} {l0 : List Int} {l1 : List Int} {r : Bool} (H : laws_eqIntS.f k l0 l1 = some r) : ACalls Try.prog G 37 [] [(sv_i64 l0), (sv_i64 l1)] [] (.bool r) := by
  refine acalls_of tok hP Try.func37 rfl (by kernel_rfl) [.tmp 4] rfl (by kernel_rfl) (Nat.le_of_ble_eq_true rfl) (.l .n (.l .n (.l (.l .n (.l (.c .n .n) (.l (.l .n (.l (.c .n .n) .n)) .n))) .n))) rfl ?_
  unfold laws_eqIntS.f at H
  conv => whnf
  refine br_nd H (fun c H => ?_) (fun c H => ?_)
  conv => whnf
  refine laws_eqIntS.l0_lp (l0 := l0) (l1 := l1) (k := k) H [] (fits_of ⟨.inl ⟨rfl, rfl⟩, trivial⟩ trivial fi_ trivial rfl) ?_
  intro k x5 hk H; rcases k with _ | k; exact none_elim H; rw [laws_eqIntS.l0] at H; conv => whnf
  refine cut_ 88 [(0, (sv_i64 l0)), (1, (sv_i64 l1)), (5, .int .i64 x5), (14, .bool (decide (x5 < (l0.length : Int))))] [] rfl ⟨.inl rfl, ⟨.inl rfl, ⟨.inl rfl, ⟨.inl rfl, trivial⟩⟩⟩⟩ trivial ?_
  conv => whnf
  refine br_d H (fun c H => ?_) (fun c H => ?_)
  conv => whnf
  refine nd_ H (fun c H => ?_)
  conv => whnf
  refine Nd.mk nf_ ?_
  conv => whnf
  refine El.mk (rdm_en_i64 _ _ nf_ nf_) ?_
  conv => whnf
  refine Nd.mk nf_ ?_
  conv => whnf
  refine nd_ H (fun c H => ?_)
  conv => whnf
  refine El.mk (rdm_en_i64 _ _ nf_ nf_) ?_
  conv => whnf
  refine br_nd H (fun c H => ?_) (fun c H => ?_)
  conv => whnf
  exact ⟨(k, wrap64 (x5 + 1)), [], ⟨H, lt_⟩, lt_, (fits_of ⟨.inl ⟨rfl, rfl⟩, trivial⟩ trivial fi_ trivial rfl)⟩
  conv => whnf
  refine cut_ 168 [(4, .bool false)] [] rfl ⟨.inl rfl, trivial⟩ trivial ?_
  conv => whnf
  injection H with H; subst H
  exact ret_fz [] (rtA_eq rfl)
  conv => whnf
  injection H with H; subst H
  exact ret_fz [] (rtA_eq rfl)
  conv => whnf
  injection H with H; subst H
  exact ret_fz [] (rtA_eq rfl)
theorem laws_eqClaimFoe.ac {a0_0 : ByteArray} {a0_1 : ByteArray} {a1_0 : ByteArray} {a1_1 : ByteArray} {r : Bool} (H : laws_eqClaimFoe.f a0_0 a0_1 a1_0 a1_1 = some r) : ACalls Try.prog G 180 [] [.agg [.str a0_0, .str a0_1], .agg [.str a1_0, .str a1_1]] [] (.bool r) := by
  refine acalls_of tok hP Try.func180 rfl (by kernel_rfl) [.tmp 4] rfl (by kernel_rfl) (Nat.le_of_ble_eq_true rfl) (.l .n (.l .n (.l (.c .n .n) .n))) rfl ?_
  unfold laws_eqClaimFoe.f at H
  conv => whnf
  refine br_nd H (fun c H => ?_) (fun c H => ?_)
  conv => whnf
  refine cut_ 104 [(14, .bool (!(decide (a0_1.toList = a1_1.toList))))] [] rfl ⟨.inl rfl, trivial⟩ trivial ?_
  conv => whnf
  refine br_nd H (fun c H => ?_) (fun c H => ?_)
  conv => whnf
  injection H with H; subst H
  exact ret_fz [] (rtA_eq rfl)
  conv => whnf
  injection H with H; subst H
  exact ret_fz [] (rtA_eq rfl)
  conv => whnf
  injection H with H; subst H
  exact ret_fz [] (rtA_eq rfl)
theorem laws_eqClaimFoeS.l0_lp {F : (Exit → St → Prop) → St → Prop} {hv : List Tmp} {Q : Exit → St → Prop} {σ : St} {r : Bool} {k : Nat} {l0 : List S_impl_ClaimFoe} {l1 : List S_impl_ClaimFoe} {x5 : Int} (H : laws_eqClaimFoeS.l0 k l0 l1 x5 = some r) (rn : List (Option Nat)) (h1 : Fits σ σ [] [(5, .int .i64 x5)] [] [] rn)
    (h2 : ∀ (k0 : Nat) (x5 : Int), k0 < k + 1 → laws_eqClaimFoeS.l0 k0 l0 l1 x5 = some r → headN σ hv [] [(5, .int .i64 x5)] [] [] (F (fun e σ' => match e with | .normal => ∃ (y : Nat × Int) (rn : List (Option Nat)), (laws_eqClaimFoeS.l0 y.1 l0 l1 y.2 = some r ∧ y.1 < k + 1) ∧ y.1 < k0 ∧ Fits σ σ' [] [(5, .int .i64 y.2)] [] [] rn | e => Q e σ'))) : Lp F hv Q σ := by
  unfold Lp
  refine ⟨Nat × Int, fun x => laws_eqClaimFoeS.l0 x.1 l0 l1 x.2 = some r ∧ x.1 < k + 1, fun x => x.1, [], fun x => [(5, .int .i64 x.2)], fun x => [], fun x => [], ⟨(k, x5), rn, ⟨H, Nat.lt_succ_self _⟩, h1⟩, ?_⟩
  rintro ⟨k, x5⟩ ⟨H, hk⟩
  exact h2 k x5 hk H
theorem laws_eqClaimFoeS.ac {k : Nat} {l0 : List S_impl_ClaimFoe} {l1 : List S_impl_ClaimFoe} {r : Bool} (H : laws_eqClaimFoeS.f k l0 l1 = some r) : ACalls Try.prog G 109 [] [(sv_S_impl_ClaimFoe l0), (sv_S_impl_ClaimFoe l1)] [] (.bool r) := by
  refine acalls_of tok hP Try.func109 rfl (by kernel_rfl) [.tmp 4] rfl (by kernel_rfl) (Nat.le_of_ble_eq_true rfl) (.l .n (.l .n (.l (.l .n (.l (.c .n .n) (.l (.c .n .n) .n))) .n))) rfl ?_
  unfold laws_eqClaimFoeS.f at H
  conv => whnf
  refine br_nd H (fun c H => ?_) (fun c H => ?_)
  conv => whnf
  refine laws_eqClaimFoeS.l0_lp (l0 := l0) (l1 := l1) (k := k) H [] (fits_of ⟨.inl ⟨rfl, rfl⟩, trivial⟩ trivial fi_ trivial rfl) ?_
  intro k x5 hk H; rcases k with _ | k; exact none_elim H; rw [laws_eqClaimFoeS.l0] at H; conv => whnf
  refine cut_ 88 [(0, (sv_S_impl_ClaimFoe l0)), (1, (sv_S_impl_ClaimFoe l1)), (5, .int .i64 x5), (14, .bool (decide (x5 < (l0.length : Int))))] [] rfl ⟨.inl rfl, ⟨.inl rfl, ⟨.inl rfl, ⟨.inl rfl, trivial⟩⟩⟩⟩ trivial ?_
  conv => whnf
  refine br_d H (fun c H => ?_) (fun c H => ?_)
  conv => whnf
  refine nd_ H (fun c H => ?_)
  conv => whnf
  refine Nd.mk nf_ ?_
  conv => whnf
  refine El.mk (rdm_en_S_impl_ClaimFoe _ _ nf_ nf_) ?_
  conv => whnf
  refine Nd.mk nf_ ?_
  conv => whnf
  refine nd_ H (fun c H => ?_)
  conv => whnf
  refine El.mk (rdm_en_S_impl_ClaimFoe _ _ nf_ nf_) ?_
  conv => whnf
  revert H; refine bind_elim (fun t1668 A H => ?_)
  refine call_mk (laws_eqClaimFoe.ac A) (avAL_cons (avA_agg (avL_cons (av_shut' rfl) (avL_cons (av_shut' rfl) (avL_nil)))) (avAL_cons (avA_agg (avL_cons (av_shut' rfl) (avL_cons (av_shut' rfl) (avL_nil)))) (avAL_nil))) (Or.inl rfl) rfl rfl (Nat.le_of_ble_eq_true rfl) ?_
  conv => whnf
  refine cut_ 168 [(0, (sv_S_impl_ClaimFoe l0)), (1, (sv_S_impl_ClaimFoe l1)), (5, .int .i64 x5), (26, .bool (!t1668))] [] rfl ⟨.inl rfl, ⟨.inl rfl, ⟨.inl rfl, ⟨.inl rfl, trivial⟩⟩⟩⟩ trivial ?_
  conv => whnf
  refine br_nt H (fun c H => ?_) (fun c H => ?_)
  conv => whnf
  exact ⟨(k, wrap64 (x5 + 1)), [], ⟨H, lt_⟩, lt_, (fits_of ⟨.inl ⟨rfl, rfl⟩, trivial⟩ trivial fi_ trivial rfl)⟩
  conv => whnf
  injection H with H; subst H
  exact ret_fz [] (rtA_eq rfl)
  conv => whnf
  injection H with H; subst H
  exact ret_fz [] (rtA_eq rfl)
  conv => whnf
  injection H with H; subst H
  exact ret_fz [] (rtA_eq rfl)
theorem laws_eqStringS.l0_lp {F : (Exit → St → Prop) → St → Prop} {hv : List Tmp} {Q : Exit → St → Prop} {σ : St} {r : Bool} {k : Nat} {l0 : List ByteArray} {l1 : List ByteArray} {x5 : Int} (H : laws_eqStringS.l0 k l0 l1 x5 = some r) (rn : List (Option Nat)) (h1 : Fits σ σ [] [(5, .int .i64 x5)] [] [] rn)
    (h2 : ∀ (k0 : Nat) (x5 : Int), k0 < k + 1 → laws_eqStringS.l0 k0 l0 l1 x5 = some r → headN σ hv [] [(5, .int .i64 x5)] [] [] (F (fun e σ' => match e with | .normal => ∃ (y : Nat × Int) (rn : List (Option Nat)), (laws_eqStringS.l0 y.1 l0 l1 y.2 = some r ∧ y.1 < k + 1) ∧ y.1 < k0 ∧ Fits σ σ' [] [(5, .int .i64 y.2)] [] [] rn | e => Q e σ'))) : Lp F hv Q σ := by
  unfold Lp
  refine ⟨Nat × Int, fun x => laws_eqStringS.l0 x.1 l0 l1 x.2 = some r ∧ x.1 < k + 1, fun x => x.1, [], fun x => [(5, .int .i64 x.2)], fun x => [], fun x => [], ⟨(k, x5), rn, ⟨H, Nat.lt_succ_self _⟩, h1⟩, ?_⟩
  rintro ⟨k, x5⟩ ⟨H, hk⟩
  exact h2 k x5 hk H
theorem laws_eqStringS.ac {k : Nat} {l0 : List ByteArray} {l1 : List ByteArray} {r : Bool} (H : laws_eqStringS.f k l0 l1 = some r) : ACalls Try.prog G 24 [] [(sv_str l0), (sv_str l1)] [] (.bool r) := by
  refine acalls_of tok hP Try.func24 rfl (by kernel_rfl) [.tmp 4] rfl (by kernel_rfl) (Nat.le_of_ble_eq_true rfl) (.l .n (.l .n (.l (.l .n (.l (.c .n .n) (.l (.l .n (.l (.c .n .n) .n)) .n))) .n))) rfl ?_
  unfold laws_eqStringS.f at H
  conv => whnf
  refine br_nd H (fun c H => ?_) (fun c H => ?_)
  conv => whnf
  refine laws_eqStringS.l0_lp (l0 := l0) (l1 := l1) (k := k) H [] (fits_of ⟨.inl ⟨rfl, rfl⟩, trivial⟩ trivial fi_ trivial rfl) ?_
  intro k x5 hk H; rcases k with _ | k; exact none_elim H; rw [laws_eqStringS.l0] at H; conv => whnf
  refine cut_ 88 [(0, (sv_str l0)), (1, (sv_str l1)), (5, .int .i64 x5), (14, .bool (decide (x5 < (l0.length : Int))))] [] rfl ⟨.inl rfl, ⟨.inl rfl, ⟨.inl rfl, ⟨.inl rfl, trivial⟩⟩⟩⟩ trivial ?_
  conv => whnf
  refine br_d H (fun c H => ?_) (fun c H => ?_)
  conv => whnf
  refine nd_ H (fun c H => ?_)
  conv => whnf
  refine Nd.mk nf_ ?_
  conv => whnf
  refine El.mk (rdm_en_str _ _ nf_ nf_) ?_
  conv => whnf
  refine Nd.mk nf_ ?_
  conv => whnf
  refine nd_ H (fun c H => ?_)
  conv => whnf
  refine El.mk (rdm_en_str _ _ nf_ nf_) ?_
  conv => whnf
  refine br_nd H (fun c H => ?_) (fun c H => ?_)
  conv => whnf
  exact ⟨(k, wrap64 (x5 + 1)), [], ⟨H, lt_⟩, lt_, (fits_of ⟨.inl ⟨rfl, rfl⟩, trivial⟩ trivial fi_ trivial rfl)⟩
  conv => whnf
  refine cut_ 168 [(4, .bool false)] [] rfl ⟨.inl rfl, trivial⟩ trivial ?_
  conv => whnf
  injection H with H; subst H
  exact ret_fz [] (rtA_eq rfl)
  conv => whnf
  injection H with H; subst H
  exact ret_fz [] (rtA_eq rfl)
  conv => whnf
  injection H with H; subst H
  exact ret_fz [] (rtA_eq rfl)
theorem laws_eqClaimSpot.ac {k : Nat} {a0_0 : ByteArray} {a0_1 : Int} {a0_2 : Int} {a0_3 : Int} {a0_4 : List ByteArray} {a1_0 : ByteArray} {a1_1 : Int} {a1_2 : Int} {a1_3 : Int} {a1_4 : List ByteArray} {r : Bool} (H : laws_eqClaimSpot.f k a0_0 a0_1 a0_2 a0_3 a0_4 a1_0 a1_1 a1_2 a1_3 a1_4 = some r) : ACalls Try.prog G 181 [] [.agg [.str a0_0, .int .i64 a0_1, .int .i64 a0_2, .int .i64 a0_3, (sv_str a0_4)], .agg [.str a1_0, .int .i64 a1_1, .int .i64 a1_2, .int .i64 a1_3, (sv_str a1_4)]] [] (.bool r) := by
  refine acalls_of tok hP Try.func181 rfl (by kernel_rfl) [.tmp 4] rfl (by kernel_rfl) (Nat.le_of_ble_eq_true rfl) (.l .n (.l .n (.l (.c .n .n) (.l .n (.l (.c .n .n) .n))))) rfl ?_
  unfold laws_eqClaimSpot.f at H
  conv => whnf
  refine br_nd H (fun c H => ?_) (fun c H => ?_)
  conv => whnf
  refine cut_ 104 [(2, .bp 0 0), (3, .bp 8 0), (14, .bool (!(decide (a0_1 = a1_1))))] [(0, .box [.str a0_0, .int .i64 a0_1, .int .i64 a0_2, .int .i64 a0_3, (sv_str a0_4)]), (8, .box [.str a1_0, .int .i64 a1_1, .int .i64 a1_2, .int .i64 a1_3, (sv_str a1_4)])] rfl ⟨.inl rfl, ⟨.inl rfl, ⟨.inl rfl, trivial⟩⟩⟩ ⟨rfl, ⟨rfl, trivial⟩⟩ ?_
  conv => whnf
  refine br_nd H (fun c H => ?_) (fun c H => ?_)
  conv => whnf
  refine br_nd H (fun c H => ?_) (fun c H => ?_)
  conv => whnf
  refine cut_ 184 [(2, .bp 0 0), (3, .bp 8 0), (24, .bool (!(decide (a0_3 = a1_3))))] [(0, .box [.str a0_0, .int .i64 a0_1, .int .i64 a0_2, .int .i64 a0_3, (sv_str a0_4)]), (8, .box [.str a1_0, .int .i64 a1_1, .int .i64 a1_2, .int .i64 a1_3, (sv_str a1_4)])] rfl ⟨.inl rfl, ⟨.inl rfl, ⟨.inl rfl, trivial⟩⟩⟩ ⟨rfl, ⟨rfl, trivial⟩⟩ ?_
  conv => whnf
  refine br_nd H (fun c H => ?_) (fun c H => ?_)
  conv => whnf
  revert H; refine bind_elim (fun t1722 A H => ?_)
  refine call_mk (laws_eqStringS.ac A) (avAL_cons (avA_shut' rfl) (avAL_cons (avA_shut' rfl) (avAL_nil))) (Or.inl rfl) rfl rfl (Nat.le_of_ble_eq_true rfl) ?_
  conv => whnf
  refine br_nt H (fun c H => ?_) (fun c H => ?_)
  conv => whnf
  injection H with H; subst H
  exact ret_fz [] (rtA_eq rfl)
  conv => whnf
  injection H with H; subst H
  exact ret_fz [] (rtA_eq rfl)
  conv => whnf
  injection H with H; subst H
  exact ret_fz [] (rtA_eq rfl)
  conv => whnf
  injection H with H; subst H
  exact ret_fz [] (rtA_eq rfl)
  conv => whnf
  injection H with H; subst H
  exact ret_fz [] (rtA_eq rfl)
  conv => whnf
  injection H with H; subst H
  exact ret_fz [] (rtA_eq rfl)
theorem laws_eqClaimSpotS.l0_lp {F : (Exit → St → Prop) → St → Prop} {hv : List Tmp} {Q : Exit → St → Prop} {σ : St} {r : Bool} {k : Nat} {l0 : List S_impl_ClaimSpot} {l1 : List S_impl_ClaimSpot} {x5 : Int} (H : laws_eqClaimSpotS.l0 k l0 l1 x5 = some r) (rn : List (Option Nat)) (h1 : Fits σ σ [] [(5, .int .i64 x5)] [] [] rn)
    (h2 : ∀ (k0 : Nat) (x5 : Int), k0 < k + 1 → laws_eqClaimSpotS.l0 k0 l0 l1 x5 = some r → headN σ hv [] [(5, .int .i64 x5)] [] [] (F (fun e σ' => match e with | .normal => ∃ (y : Nat × Int) (rn : List (Option Nat)), (laws_eqClaimSpotS.l0 y.1 l0 l1 y.2 = some r ∧ y.1 < k + 1) ∧ y.1 < k0 ∧ Fits σ σ' [] [(5, .int .i64 y.2)] [] [] rn | e => Q e σ'))) : Lp F hv Q σ := by
  unfold Lp
  refine ⟨Nat × Int, fun x => laws_eqClaimSpotS.l0 x.1 l0 l1 x.2 = some r ∧ x.1 < k + 1, fun x => x.1, [], fun x => [(5, .int .i64 x.2)], fun x => [], fun x => [], ⟨(k, x5), rn, ⟨H, Nat.lt_succ_self _⟩, h1⟩, ?_⟩
  rintro ⟨k, x5⟩ ⟨H, hk⟩
  exact h2 k x5 hk H
theorem laws_eqClaimSpotS.ac {k : Nat} {l0 : List S_impl_ClaimSpot} {l1 : List S_impl_ClaimSpot} {r : Bool} (H : laws_eqClaimSpotS.f k l0 l1 = some r) : ACalls Try.prog G 110 [] [(sv_S_impl_ClaimSpot l0), (sv_S_impl_ClaimSpot l1)] [] (.bool r) := by
  refine acalls_of tok hP Try.func110 rfl (by kernel_rfl) [.tmp 4] rfl (by kernel_rfl) (Nat.le_of_ble_eq_true rfl) (.l .n (.l .n (.l (.l .n (.l (.c .n .n) (.l (.c .n .n) .n))) .n))) rfl ?_
  unfold laws_eqClaimSpotS.f at H
  conv => whnf
  refine br_nd H (fun c H => ?_) (fun c H => ?_)
  conv => whnf
  refine laws_eqClaimSpotS.l0_lp (l0 := l0) (l1 := l1) (k := k) H [] (fits_of ⟨.inl ⟨rfl, rfl⟩, trivial⟩ trivial fi_ trivial rfl) ?_
  intro k x5 hk H; rcases k with _ | k; exact none_elim H; rw [laws_eqClaimSpotS.l0] at H; conv => whnf
  refine cut_ 88 [(0, (sv_S_impl_ClaimSpot l0)), (1, (sv_S_impl_ClaimSpot l1)), (5, .int .i64 x5), (14, .bool (decide (x5 < (l0.length : Int))))] [] rfl ⟨.inl rfl, ⟨.inl rfl, ⟨.inl rfl, ⟨.inl rfl, trivial⟩⟩⟩⟩ trivial ?_
  conv => whnf
  refine br_d H (fun c H => ?_) (fun c H => ?_)
  conv => whnf
  refine nd_ H (fun c H => ?_)
  conv => whnf
  refine Nd.mk nf_ ?_
  conv => whnf
  refine El.mk (rdm_en_S_impl_ClaimSpot _ _ nf_ nf_) ?_
  conv => whnf
  refine Nd.mk nf_ ?_
  conv => whnf
  refine nd_ H (fun c H => ?_)
  conv => whnf
  refine El.mk (rdm_en_S_impl_ClaimSpot _ _ nf_ nf_) ?_
  conv => whnf
  revert H; refine bind_elim (fun t1726 A H => ?_)
  refine call_mk (laws_eqClaimSpot.ac A) (avAL_cons (avA_agg (avL_cons (av_shut' rfl) (avL_cons (av_shut' rfl) (avL_cons (av_shut' rfl) (avL_cons (av_shut' rfl) (avL_cons (av_shut' rfl) (avL_nil))))))) (avAL_cons (avA_agg (avL_cons (av_shut' rfl) (avL_cons (av_shut' rfl) (avL_cons (av_shut' rfl) (avL_cons (av_shut' rfl) (avL_cons (av_shut' rfl) (avL_nil))))))) (avAL_nil))) (Or.inl rfl) rfl rfl (Nat.le_of_ble_eq_true rfl) ?_
  conv => whnf
  refine cut_ 168 [(0, (sv_S_impl_ClaimSpot l0)), (1, (sv_S_impl_ClaimSpot l1)), (5, .int .i64 x5), (26, .bool (!t1726))] [] rfl ⟨.inl rfl, ⟨.inl rfl, ⟨.inl rfl, ⟨.inl rfl, trivial⟩⟩⟩⟩ trivial ?_
  conv => whnf
  refine br_nt H (fun c H => ?_) (fun c H => ?_)
  conv => whnf
  exact ⟨(k, wrap64 (x5 + 1)), [], ⟨H, lt_⟩, lt_, (fits_of ⟨.inl ⟨rfl, rfl⟩, trivial⟩ trivial fi_ trivial rfl)⟩
  conv => whnf
  injection H with H; subst H
  exact ret_fz [] (rtA_eq rfl)
  conv => whnf
  injection H with H; subst H
  exact ret_fz [] (rtA_eq rfl)
  conv => whnf
  injection H with H; subst H
  exact ret_fz [] (rtA_eq rfl)
theorem laws_eqClaimUse.ac {a0_0 : ByteArray} {a0_1 : Int} {a0_2 : Int} {a1_0 : ByteArray} {a1_1 : Int} {a1_2 : Int} {r : Bool} (H : laws_eqClaimUse.f a0_0 a0_1 a0_2 a1_0 a1_1 a1_2 = some r) : ACalls Try.prog G 220 [] [.agg [.str a0_0, .int .i64 a0_1, .int .i64 a0_2], .agg [.str a1_0, .int .i64 a1_1, .int .i64 a1_2]] [] (.bool r) := by
  refine acalls_of tok hP Try.func220 rfl (by kernel_rfl) [.tmp 4] rfl (by kernel_rfl) (Nat.le_of_ble_eq_true rfl) (.l .n (.l .n (.l (.c .n .n) .n))) rfl ?_
  unfold laws_eqClaimUse.f at H
  conv => whnf
  refine br_nd H (fun c H => ?_) (fun c H => ?_)
  conv => whnf
  refine cut_ 104 [(2, .bp 0 0), (3, .bp 8 0), (14, .bool (!(decide (a0_1 = a1_1))))] [(0, .box [.str a0_0, .int .i64 a0_1, .int .i64 a0_2]), (8, .box [.str a1_0, .int .i64 a1_1, .int .i64 a1_2])] rfl ⟨.inl rfl, ⟨.inl rfl, ⟨.inl rfl, trivial⟩⟩⟩ ⟨rfl, ⟨rfl, trivial⟩⟩ ?_
  conv => whnf
  refine br_nd H (fun c H => ?_) (fun c H => ?_)
  conv => whnf
  refine br_nd H (fun c H => ?_) (fun c H => ?_)
  conv => whnf
  injection H with H; subst H
  exact ret_fz [] (rtA_eq rfl)
  conv => whnf
  injection H with H; subst H
  exact ret_fz [] (rtA_eq rfl)
  conv => whnf
  injection H with H; subst H
  exact ret_fz [] (rtA_eq rfl)
  conv => whnf
  injection H with H; subst H
  exact ret_fz [] (rtA_eq rfl)
theorem laws_eqClaimUseS.l0_lp {F : (Exit → St → Prop) → St → Prop} {hv : List Tmp} {Q : Exit → St → Prop} {σ : St} {r : Bool} {k : Nat} {l0 : List S_impl_ClaimUse} {l1 : List S_impl_ClaimUse} {x5 : Int} (H : laws_eqClaimUseS.l0 k l0 l1 x5 = some r) (rn : List (Option Nat)) (h1 : Fits σ σ [] [(5, .int .i64 x5)] [] [] rn)
    (h2 : ∀ (k0 : Nat) (x5 : Int), k0 < k + 1 → laws_eqClaimUseS.l0 k0 l0 l1 x5 = some r → headN σ hv [] [(5, .int .i64 x5)] [] [] (F (fun e σ' => match e with | .normal => ∃ (y : Nat × Int) (rn : List (Option Nat)), (laws_eqClaimUseS.l0 y.1 l0 l1 y.2 = some r ∧ y.1 < k + 1) ∧ y.1 < k0 ∧ Fits σ σ' [] [(5, .int .i64 y.2)] [] [] rn | e => Q e σ'))) : Lp F hv Q σ := by
  unfold Lp
  refine ⟨Nat × Int, fun x => laws_eqClaimUseS.l0 x.1 l0 l1 x.2 = some r ∧ x.1 < k + 1, fun x => x.1, [], fun x => [(5, .int .i64 x.2)], fun x => [], fun x => [], ⟨(k, x5), rn, ⟨H, Nat.lt_succ_self _⟩, h1⟩, ?_⟩
  rintro ⟨k, x5⟩ ⟨H, hk⟩
  exact h2 k x5 hk H
theorem laws_eqClaimUseS.ac {k : Nat} {l0 : List S_impl_ClaimUse} {l1 : List S_impl_ClaimUse} {r : Bool} (H : laws_eqClaimUseS.f k l0 l1 = some r) : ACalls Try.prog G 203 [] [(sv_S_impl_ClaimUse l0), (sv_S_impl_ClaimUse l1)] [] (.bool r) := by
  refine acalls_of tok hP Try.func203 rfl (by kernel_rfl) [.tmp 4] rfl (by kernel_rfl) (Nat.le_of_ble_eq_true rfl) (.l .n (.l .n (.l (.l .n (.l (.c .n .n) (.l (.c .n .n) .n))) .n))) rfl ?_
  unfold laws_eqClaimUseS.f at H
  conv => whnf
  refine br_nd H (fun c H => ?_) (fun c H => ?_)
  conv => whnf
  refine laws_eqClaimUseS.l0_lp (l0 := l0) (l1 := l1) (k := k) H [] (fits_of ⟨.inl ⟨rfl, rfl⟩, trivial⟩ trivial fi_ trivial rfl) ?_
  intro k x5 hk H; rcases k with _ | k; exact none_elim H; rw [laws_eqClaimUseS.l0] at H; conv => whnf
  refine cut_ 88 [(0, (sv_S_impl_ClaimUse l0)), (1, (sv_S_impl_ClaimUse l1)), (5, .int .i64 x5), (14, .bool (decide (x5 < (l0.length : Int))))] [] rfl ⟨.inl rfl, ⟨.inl rfl, ⟨.inl rfl, ⟨.inl rfl, trivial⟩⟩⟩⟩ trivial ?_
  conv => whnf
  refine br_d H (fun c H => ?_) (fun c H => ?_)
  conv => whnf
  refine nd_ H (fun c H => ?_)
  conv => whnf
  refine Nd.mk nf_ ?_
  conv => whnf
  refine El.mk (rdm_en_S_impl_ClaimUse _ _ nf_ nf_) ?_
  conv => whnf
  refine Nd.mk nf_ ?_
  conv => whnf
  refine nd_ H (fun c H => ?_)
  conv => whnf
  refine El.mk (rdm_en_S_impl_ClaimUse _ _ nf_ nf_) ?_
  conv => whnf
  revert H; refine bind_elim (fun t1851 A H => ?_)
  refine call_mk (laws_eqClaimUse.ac A) (avAL_cons (avA_agg (avL_cons (av_shut' rfl) (avL_cons (av_shut' rfl) (avL_cons (av_shut' rfl) (avL_nil))))) (avAL_cons (avA_agg (avL_cons (av_shut' rfl) (avL_cons (av_shut' rfl) (avL_cons (av_shut' rfl) (avL_nil))))) (avAL_nil))) (Or.inl rfl) rfl rfl (Nat.le_of_ble_eq_true rfl) ?_
  conv => whnf
  refine cut_ 168 [(0, (sv_S_impl_ClaimUse l0)), (1, (sv_S_impl_ClaimUse l1)), (5, .int .i64 x5), (26, .bool (!t1851))] [] rfl ⟨.inl rfl, ⟨.inl rfl, ⟨.inl rfl, ⟨.inl rfl, trivial⟩⟩⟩⟩ trivial ?_
  conv => whnf
  refine br_nt H (fun c H => ?_) (fun c H => ?_)
  conv => whnf
  exact ⟨(k, wrap64 (x5 + 1)), [], ⟨H, lt_⟩, lt_, (fits_of ⟨.inl ⟨rfl, rfl⟩, trivial⟩ trivial fi_ trivial rfl)⟩
  conv => whnf
  injection H with H; subst H
  exact ret_fz [] (rtA_eq rfl)
  conv => whnf
  injection H with H; subst H
  exact ret_fz [] (rtA_eq rfl)
  conv => whnf
  injection H with H; subst H
  exact ret_fz [] (rtA_eq rfl)
theorem laws_eqClaimWant.ac {k : Nat} {a0_0 : Int} {a0_1 : Int} {a0_2 : List ByteArray} {a0_3 : List S_impl_ClaimUse} {a0_4 : List ByteArray} {a0_5 : List ByteArray} {a1_0 : Int} {a1_1 : Int} {a1_2 : List ByteArray} {a1_3 : List S_impl_ClaimUse} {a1_4 : List ByteArray} {a1_5 : List ByteArray} {r : Bool} (H : laws_eqClaimWant.f k a0_0 a0_1 a0_2 a0_3 a0_4 a0_5 a1_0 a1_1 a1_2 a1_3 a1_4 a1_5 = some r) : ACalls Try.prog G 143 [] [.agg [.int .i64 a0_0, .int .i64 a0_1, (sv_str a0_2), (sv_S_impl_ClaimUse a0_3), (sv_str a0_4), (sv_str a0_5)], .agg [.int .i64 a1_0, .int .i64 a1_1, (sv_str a1_2), (sv_S_impl_ClaimUse a1_3), (sv_str a1_4), (sv_str a1_5)]] [] (.bool r) := by
  refine acalls_of tok hP Try.func143 rfl (by kernel_rfl) [.tmp 4] rfl (by kernel_rfl) (Nat.le_of_ble_eq_true rfl) (.l .n (.l .n (.l (.c .n .n) (.l .n (.l (.c .n .n) (.l .n (.l (.c .n .n) .n))))))) rfl ?_
  unfold laws_eqClaimWant.f at H
  conv => whnf
  refine br_nd H (fun c H => ?_) (fun c H => ?_)
  conv => whnf
  refine cut_ 104 [(2, .bp 0 0), (3, .bp 8 0), (14, .bool (!(decide (a0_1 = a1_1))))] [(0, .box [.int .i64 a0_0, .int .i64 a0_1, (sv_str a0_2), (sv_S_impl_ClaimUse a0_3), (sv_str a0_4), (sv_str a0_5)]), (8, .box [.int .i64 a1_0, .int .i64 a1_1, (sv_str a1_2), (sv_S_impl_ClaimUse a1_3), (sv_str a1_4), (sv_str a1_5)])] rfl ⟨.inl rfl, ⟨.inl rfl, ⟨.inl rfl, trivial⟩⟩⟩ ⟨rfl, ⟨rfl, trivial⟩⟩ ?_
  conv => whnf
  refine br_nd H (fun c H => ?_) (fun c H => ?_)
  conv => whnf
  revert H; refine bind_elim (fun t1854 A H => ?_)
  refine call_mk (laws_eqStringS.ac A) (avAL_cons (avA_shut' rfl) (avAL_cons (avA_shut' rfl) (avAL_nil))) (Or.inl rfl) rfl rfl (Nat.le_of_ble_eq_true rfl) ?_
  conv => whnf
  refine br_nt H (fun c H => ?_) (fun c H => ?_)
  conv => whnf
  revert H; refine bind_elim (fun t1857 A H => ?_)
  refine call_mk (laws_eqClaimUseS.ac A) (avAL_cons (avA_shut' rfl) (avAL_cons (avA_shut' rfl) (avAL_nil))) (Or.inl rfl) rfl rfl (Nat.le_of_ble_eq_true rfl) ?_
  conv => whnf
  refine cut_ 200 [(2, .bp 0 0), (3, .bp 8 0), (26, .bool (!t1857))] [(0, .box [.int .i64 a0_0, .int .i64 a0_1, (sv_str a0_2), (sv_S_impl_ClaimUse a0_3), (sv_str a0_4), (sv_str a0_5)]), (8, .box [.int .i64 a1_0, .int .i64 a1_1, (sv_str a1_2), (sv_S_impl_ClaimUse a1_3), (sv_str a1_4), (sv_str a1_5)])] rfl ⟨.inl rfl, ⟨.inl rfl, ⟨.inl rfl, trivial⟩⟩⟩ ⟨rfl, ⟨rfl, trivial⟩⟩ ?_
  conv => whnf
  refine br_nt H (fun c H => ?_) (fun c H => ?_)
  conv => whnf
  revert H; refine bind_elim (fun t1860 A H => ?_)
  refine call_mk (laws_eqStringS.ac A) (avAL_cons (avA_shut' rfl) (avAL_cons (avA_shut' rfl) (avAL_nil))) (Or.inl rfl) rfl rfl (Nat.le_of_ble_eq_true rfl) ?_
  conv => whnf
  refine br_nt H (fun c H => ?_) (fun c H => ?_)
  conv => whnf
  revert H; refine bind_elim (fun t1863 A H => ?_)
  refine call_mk (laws_eqStringS.ac A) (avAL_cons (avA_shut' rfl) (avAL_cons (avA_shut' rfl) (avAL_nil))) (Or.inl rfl) rfl rfl (Nat.le_of_ble_eq_true rfl) ?_
  conv => whnf
  refine cut_ 296 [(38, .bool (!t1863))] [] rfl ⟨.inl rfl, trivial⟩ trivial ?_
  conv => whnf
  refine br_nt H (fun c H => ?_) (fun c H => ?_)
  conv => whnf
  injection H with H; subst H
  exact ret_fz [] (rtA_eq rfl)
  conv => whnf
  injection H with H; subst H
  exact ret_fz [] (rtA_eq rfl)
  conv => whnf
  injection H with H; subst H
  exact ret_fz [] (rtA_eq rfl)
  conv => whnf
  injection H with H; subst H
  exact ret_fz [] (rtA_eq rfl)
  conv => whnf
  injection H with H; subst H
  exact ret_fz [] (rtA_eq rfl)
  conv => whnf
  injection H with H; subst H
  exact ret_fz [] (rtA_eq rfl)
  conv => whnf
  injection H with H; subst H
  exact ret_fz [] (rtA_eq rfl)
theorem laws_eqClaimPart.ac {k : Nat} {a0_0 : Int} {a0_1 : Int} {a0_2 : List ByteArray} {a0_3 : List S_impl_ClaimUse} {a0_4 : List ByteArray} {a0_5 : List ByteArray} {a0_6 : Bool} {a1_0 : Int} {a1_1 : Int} {a1_2 : List ByteArray} {a1_3 : List S_impl_ClaimUse} {a1_4 : List ByteArray} {a1_5 : List ByteArray} {a1_6 : Bool} {r : Bool} (H : laws_eqClaimPart.f k a0_0 a0_1 a0_2 a0_3 a0_4 a0_5 a0_6 a1_0 a1_1 a1_2 a1_3 a1_4 a1_5 a1_6 = some r) : ACalls Try.prog G 182 [] [.agg [.int .i64 a0_0, .int .i64 a0_1, (sv_str a0_2), (sv_S_impl_ClaimUse a0_3), (sv_str a0_4), (sv_str a0_5), .bool a0_6], .agg [.int .i64 a1_0, .int .i64 a1_1, (sv_str a1_2), (sv_S_impl_ClaimUse a1_3), (sv_str a1_4), (sv_str a1_5), .bool a1_6]] [] (.bool r) := by
  refine acalls_of tok hP Try.func182 rfl (by kernel_rfl) [.tmp 4] rfl (by kernel_rfl) (Nat.le_of_ble_eq_true rfl) (.l .n (.l (.l .n (.l (.c .n .n) .n)) (.l (.c .n .n) .n))) rfl ?_
  unfold laws_eqClaimPart.f at H
  conv => whnf
  revert H; refine bind_elim (fun t1866 A H => ?_)
  refine call_mk (laws_eqClaimWant.ac A) (avAL_cons (avA_agg (avL_cons (av_shut' rfl) (avL_cons (av_shut' rfl) (avL_cons (av_shut' rfl) (avL_cons (av_shut' rfl) (avL_cons (av_shut' rfl) (avL_cons (av_shut' rfl) (avL_nil)))))))) (avAL_cons (avA_agg (avL_cons (av_shut' rfl) (avL_cons (av_shut' rfl) (avL_cons (av_shut' rfl) (avL_cons (av_shut' rfl) (avL_cons (av_shut' rfl) (avL_cons (av_shut' rfl) (avL_nil)))))))) (avAL_nil))) (Or.inl rfl) rfl rfl (Nat.le_of_ble_eq_true rfl) ?_
  conv => whnf
  refine br_nt H (fun c H => ?_) (fun c H => ?_)
  conv => whnf
  refine cut_ 112 [(15, .bool (a0_6 != a1_6))] [] rfl ⟨.inl rfl, trivial⟩ trivial ?_
  conv => whnf
  refine br_t H (fun c H => ?_) (fun c H => ?_)
  conv => whnf
  injection H with H; subst H
  exact ret_fz [] (rtA_eq rfl)
  conv => whnf
  injection H with H; subst H
  exact ret_fz [] (rtA_eq rfl)
  conv => whnf
  refine cut_ 80 [(4, .bool false)] [] rfl ⟨.inl rfl, trivial⟩ trivial ?_
  conv => whnf
  injection H with H; subst H
  exact ret_fz [] (rtA_eq rfl)
theorem laws_eqClaimPartS.l0_lp {F : (Exit → St → Prop) → St → Prop} {hv : List Tmp} {Q : Exit → St → Prop} {σ : St} {r : Bool} {k : Nat} {l0 : List S_impl_ClaimPart} {l1 : List S_impl_ClaimPart} {x5 : Int} (H : laws_eqClaimPartS.l0 k l0 l1 x5 = some r) (rn : List (Option Nat)) (h1 : Fits σ σ [] [(5, .int .i64 x5)] [] [] rn)
    (h2 : ∀ (k0 : Nat) (x5 : Int), k0 < k + 1 → laws_eqClaimPartS.l0 k0 l0 l1 x5 = some r → headN σ hv [] [(5, .int .i64 x5)] [] [] (F (fun e σ' => match e with | .normal => ∃ (y : Nat × Int) (rn : List (Option Nat)), (laws_eqClaimPartS.l0 y.1 l0 l1 y.2 = some r ∧ y.1 < k + 1) ∧ y.1 < k0 ∧ Fits σ σ' [] [(5, .int .i64 y.2)] [] [] rn | e => Q e σ'))) : Lp F hv Q σ := by
  unfold Lp
  refine ⟨Nat × Int, fun x => laws_eqClaimPartS.l0 x.1 l0 l1 x.2 = some r ∧ x.1 < k + 1, fun x => x.1, [], fun x => [(5, .int .i64 x.2)], fun x => [], fun x => [], ⟨(k, x5), rn, ⟨H, Nat.lt_succ_self _⟩, h1⟩, ?_⟩
  rintro ⟨k, x5⟩ ⟨H, hk⟩
  exact h2 k x5 hk H
theorem laws_eqClaimPartS.ac {k : Nat} {l0 : List S_impl_ClaimPart} {l1 : List S_impl_ClaimPart} {r : Bool} (H : laws_eqClaimPartS.f k l0 l1 = some r) : ACalls Try.prog G 111 [] [(sv_S_impl_ClaimPart l0), (sv_S_impl_ClaimPart l1)] [] (.bool r) := by
  refine acalls_of tok hP Try.func111 rfl (by kernel_rfl) [.tmp 4] rfl (by kernel_rfl) (Nat.le_of_ble_eq_true rfl) (.l .n (.l .n (.l (.l .n (.l (.c .n .n) (.l (.c .n .n) .n))) .n))) rfl ?_
  unfold laws_eqClaimPartS.f at H
  conv => whnf
  refine br_nd H (fun c H => ?_) (fun c H => ?_)
  conv => whnf
  refine laws_eqClaimPartS.l0_lp (l0 := l0) (l1 := l1) (k := k) H [] (fits_of ⟨.inl ⟨rfl, rfl⟩, trivial⟩ trivial fi_ trivial rfl) ?_
  intro k x5 hk H; rcases k with _ | k; exact none_elim H; rw [laws_eqClaimPartS.l0] at H; conv => whnf
  refine cut_ 88 [(0, (sv_S_impl_ClaimPart l0)), (1, (sv_S_impl_ClaimPart l1)), (5, .int .i64 x5), (14, .bool (decide (x5 < (l0.length : Int))))] [] rfl ⟨.inl rfl, ⟨.inl rfl, ⟨.inl rfl, ⟨.inl rfl, trivial⟩⟩⟩⟩ trivial ?_
  conv => whnf
  refine br_d H (fun c H => ?_) (fun c H => ?_)
  conv => whnf
  refine nd_ H (fun c H => ?_)
  conv => whnf
  refine Nd.mk nf_ ?_
  conv => whnf
  refine El.mk (rdm_en_S_impl_ClaimPart _ _ nf_ nf_) ?_
  conv => whnf
  refine Nd.mk nf_ ?_
  conv => whnf
  refine nd_ H (fun c H => ?_)
  conv => whnf
  refine El.mk (rdm_en_S_impl_ClaimPart _ _ nf_ nf_) ?_
  conv => whnf
  revert H; refine bind_elim (fun t1870 A H => ?_)
  refine call_mk (laws_eqClaimPart.ac A) (avAL_cons (avA_agg (avL_cons (av_shut' rfl) (avL_cons (av_shut' rfl) (avL_cons (av_shut' rfl) (avL_cons (av_shut' rfl) (avL_cons (av_shut' rfl) (avL_cons (av_shut' rfl) (avL_cons (av_shut' rfl) (avL_nil))))))))) (avAL_cons (avA_agg (avL_cons (av_shut' rfl) (avL_cons (av_shut' rfl) (avL_cons (av_shut' rfl) (avL_cons (av_shut' rfl) (avL_cons (av_shut' rfl) (avL_cons (av_shut' rfl) (avL_cons (av_shut' rfl) (avL_nil))))))))) (avAL_nil))) (Or.inl rfl) rfl rfl (Nat.le_of_ble_eq_true rfl) ?_
  conv => whnf
  refine cut_ 168 [(0, (sv_S_impl_ClaimPart l0)), (1, (sv_S_impl_ClaimPart l1)), (5, .int .i64 x5), (26, .bool (!t1870))] [] rfl ⟨.inl rfl, ⟨.inl rfl, ⟨.inl rfl, ⟨.inl rfl, trivial⟩⟩⟩⟩ trivial ?_
  conv => whnf
  refine br_nt H (fun c H => ?_) (fun c H => ?_)
  conv => whnf
  exact ⟨(k, wrap64 (x5 + 1)), [], ⟨H, lt_⟩, lt_, (fits_of ⟨.inl ⟨rfl, rfl⟩, trivial⟩ trivial fi_ trivial rfl)⟩
  conv => whnf
  injection H with H; subst H
  exact ret_fz [] (rtA_eq rfl)
  conv => whnf
  injection H with H; subst H
  exact ret_fz [] (rtA_eq rfl)
  conv => whnf
  injection H with H; subst H
  exact ret_fz [] (rtA_eq rfl)
theorem laws_eqClaimBook.ac {k : Nat} {a0_0 : List S_impl_ClaimFoe} {a0_1 : List S_impl_ClaimSpot} {a0_2 : List ByteArray} {a0_3 : List S_impl_ClaimPart} {a0_4 : Int} {a1_0 : List S_impl_ClaimFoe} {a1_1 : List S_impl_ClaimSpot} {a1_2 : List ByteArray} {a1_3 : List S_impl_ClaimPart} {a1_4 : Int} {r : Bool} (H : laws_eqClaimBook.f k a0_0 a0_1 a0_2 a0_3 a0_4 a1_0 a1_1 a1_2 a1_3 a1_4 = some r) : ACalls Try.prog G 32 [] [.agg [(sv_S_impl_ClaimFoe a0_0), (sv_S_impl_ClaimSpot a0_1), (sv_str a0_2), (sv_S_impl_ClaimPart a0_3), .int .i64 a0_4], .agg [(sv_S_impl_ClaimFoe a1_0), (sv_S_impl_ClaimSpot a1_1), (sv_str a1_2), (sv_S_impl_ClaimPart a1_3), .int .i64 a1_4]] [] (.bool r) := by
  refine acalls_of tok hP Try.func32 rfl (by kernel_rfl) [.tmp 4] rfl (by kernel_rfl) (Nat.le_of_ble_eq_true rfl) (.l .n (.l (.l .n (.l (.c .n .n) .n)) (.l (.c .n .n) (.l .n (.l (.c .n .n) .n))))) rfl ?_
  unfold laws_eqClaimBook.f at H
  conv => whnf
  revert H; refine bind_elim (fun t1873 A H => ?_)
  refine call_mk (laws_eqClaimFoeS.ac A) (avAL_cons (avA_shut' rfl) (avAL_cons (avA_shut' rfl) (avAL_nil))) (Or.inl rfl) rfl rfl (Nat.le_of_ble_eq_true rfl) ?_
  conv => whnf
  refine br_nt H (fun c H => ?_) (fun c H => ?_)
  conv => whnf
  revert H; refine bind_elim (fun t1876 A H => ?_)
  refine call_mk (laws_eqClaimSpotS.ac A) (avAL_cons (avA_shut' rfl) (avAL_cons (avA_shut' rfl) (avAL_nil))) (Or.inl rfl) rfl rfl (Nat.le_of_ble_eq_true rfl) ?_
  conv => whnf
  refine cut_ 120 [(2, .bp 0 0), (3, .bp 8 0), (16, .bool (!t1876))] [(0, .box [(sv_S_impl_ClaimFoe a0_0), (sv_S_impl_ClaimSpot a0_1), (sv_str a0_2), (sv_S_impl_ClaimPart a0_3), .int .i64 a0_4]), (8, .box [(sv_S_impl_ClaimFoe a1_0), (sv_S_impl_ClaimSpot a1_1), (sv_str a1_2), (sv_S_impl_ClaimPart a1_3), .int .i64 a1_4])] rfl ⟨.inl rfl, ⟨.inl rfl, ⟨.inl rfl, trivial⟩⟩⟩ ⟨rfl, ⟨rfl, trivial⟩⟩ ?_
  conv => whnf
  refine br_nt H (fun c H => ?_) (fun c H => ?_)
  conv => whnf
  revert H; refine bind_elim (fun t1879 A H => ?_)
  refine call_mk (laws_eqStringS.ac A) (avAL_cons (avA_shut' rfl) (avAL_cons (avA_shut' rfl) (avAL_nil))) (Or.inl rfl) rfl rfl (Nat.le_of_ble_eq_true rfl) ?_
  conv => whnf
  refine br_nt H (fun c H => ?_) (fun c H => ?_)
  conv => whnf
  revert H; refine bind_elim (fun t1882 A H => ?_)
  refine call_mk (laws_eqClaimPartS.ac A) (avAL_cons (avA_shut' rfl) (avAL_cons (avA_shut' rfl) (avAL_nil))) (Or.inl rfl) rfl rfl (Nat.le_of_ble_eq_true rfl) ?_
  conv => whnf
  refine cut_ 216 [(2, .bp 0 0), (3, .bp 8 0), (28, .bool (!t1882))] [(0, .box [(sv_S_impl_ClaimFoe a0_0), (sv_S_impl_ClaimSpot a0_1), (sv_str a0_2), (sv_S_impl_ClaimPart a0_3), .int .i64 a0_4]), (8, .box [(sv_S_impl_ClaimFoe a1_0), (sv_S_impl_ClaimSpot a1_1), (sv_str a1_2), (sv_S_impl_ClaimPart a1_3), .int .i64 a1_4])] rfl ⟨.inl rfl, ⟨.inl rfl, ⟨.inl rfl, trivial⟩⟩⟩ ⟨rfl, ⟨rfl, trivial⟩⟩ ?_
  conv => whnf
  refine br_nt H (fun c H => ?_) (fun c H => ?_)
  conv => whnf
  refine br_nd H (fun c H => ?_) (fun c H => ?_)
  conv => whnf
  injection H with H; subst H
  exact ret_fz [] (rtA_eq rfl)
  conv => whnf
  injection H with H; subst H
  exact ret_fz [] (rtA_eq rfl)
  conv => whnf
  injection H with H; subst H
  exact ret_fz [] (rtA_eq rfl)
  conv => whnf
  injection H with H; subst H
  exact ret_fz [] (rtA_eq rfl)
  conv => whnf
  injection H with H; subst H
  exact ret_fz [] (rtA_eq rfl)
  conv => whnf
  refine cut_ 80 [(4, .bool false)] [] rfl ⟨.inl rfl, trivial⟩ trivial ?_
  conv => whnf
  injection H with H; subst H
  exact ret_fz [] (rtA_eq rfl)
theorem laws_markText.l0_lp {F : (Exit → St → Prop) → St → Prop} {hv : List Tmp} {Q : Exit → St → Prop} {σ : St} {r : ByteArray} {k : Nat} {x0 : Int} {x3 : ByteArray} (H : laws_markText.l0 k x0 x3 = some r) (rn : List (Option Nat)) (h1 : Fits σ σ [] [(0, .int .i64 x0), (3, .str x3)] [] [] rn)
    (h2 : ∀ (k0 : Nat) (x0 : Int) (x3 : ByteArray), k0 < k + 1 → laws_markText.l0 k0 x0 x3 = some r → headN σ hv [] [(0, .int .i64 x0), (3, .str x3)] [] [] (F (fun e σ' => match e with | .normal => ∃ (y : Nat × Int × ByteArray) (rn : List (Option Nat)), (laws_markText.l0 y.1 y.2.1 y.2.2 = some r ∧ y.1 < k + 1) ∧ y.1 < k0 ∧ Fits σ σ' [] [(0, .int .i64 y.2.1), (3, .str y.2.2)] [] [] rn | e => Q e σ'))) : Lp F hv Q σ := by
  unfold Lp
  refine ⟨Nat × Int × ByteArray, fun x => laws_markText.l0 x.1 x.2.1 x.2.2 = some r ∧ x.1 < k + 1, fun x => x.1, [], fun x => [(0, .int .i64 x.2.1), (3, .str x.2.2)], fun x => [], fun x => [], ⟨(k, x0, x3), rn, ⟨H, Nat.lt_succ_self _⟩, h1⟩, ?_⟩
  rintro ⟨k, x0, x3⟩ ⟨H, hk⟩
  exact h2 k x0 x3 hk H
theorem laws_markText.ac {k : Nat} {a0 : Int} {r : ByteArray} (H : laws_markText.f k a0 = some r) : ACalls Try.prog G 88 [] [.int .i64 a0] [] (.str r) := by
  refine acalls_of tok hP Try.func88 rfl (by kernel_rfl) [.tmp 2] rfl (by kernel_rfl) (Nat.le_of_ble_eq_true rfl) (.l .n (.l .n (.l .n (.l (.l .n (.c .n .n)) .n)))) rfl ?_
  unfold laws_markText.f at H
  conv => whnf
  refine br_d H (fun c H => ?_) (fun c H => ?_)
  conv => whnf
  injection H with H; subst H
  exact ret_fz [] (rtA_eq rfl)
  conv => whnf
  refine laws_markText.l0_lp (k := k) H [] (fits_of ⟨.inl ⟨rfl, rfl⟩, ⟨.inl ⟨rfl, rfl⟩, trivial⟩⟩ trivial fi_ trivial rfl) ?_
  intro k x0 x3 hk H; rcases k with _ | k; exact none_elim H; rw [laws_markText.l0] at H; conv => whnf
  refine br_d H (fun c H => ?_) (fun c H => ?_)
  conv => whnf
  refine Nd.mk (by decide) ?_
  conv => whnf
  refine Or.inl ?_
  conv => whnf
  refine nd_ H (fun c H => ?_)
  conv => whnf
  refine cut_ 120 [(0, .int .i64 x0), (3, .str ((⟨#[UInt8.ofNat (IntKind.wrap .u8 (wrap64 (48 + (Int.tmod x0 10)))).toNat]⟩ : ByteArray) ++ x3))] [] rfl ⟨.inl rfl, ⟨.inl rfl, trivial⟩⟩ trivial ?_
  conv => whnf
  refine Nd.mk (by decide) ?_
  conv => whnf
  exact ⟨(k, wrap64 (Int.tdiv x0 10), (⟨#[UInt8.ofNat (IntKind.wrap .u8 (wrap64 (48 + (Int.tmod x0 10)))).toNat]⟩ : ByteArray) ++ x3), [], ⟨H, lt_⟩, lt_, (fits_of ⟨.inl ⟨rfl, rfl⟩, ⟨.inl ⟨rfl, rfl⟩, trivial⟩⟩ trivial fi_ trivial rfl)⟩
  conv => whnf
  refine nd_ H (fun c H => ?_)
  conv => whnf
  injection H with H; subst H
  exact ret_fz [] (rtA_eq rfl)
theorem laws_markClaimFoeS.l0_lp {F : (Exit → St → Prop) → St → Prop} {hv : List Tmp} {Q : Exit → St → Prop} {σ : St} {r : Int × (List S_impl_ClaimFoe)} {k : Nat} {l0 : List S_impl_ClaimFoe} {x1 : Int} {x5 : Int} {x1000 : List S_impl_ClaimFoe} (H : laws_markClaimFoeS.l0 k l0 x1 x5 x1000 = some r) (rn : List (Option Nat)) (h1 : Fits σ σ [0] [(1, .int .i64 x1), (5, .int .i64 x5)] [(0, .arr 171 2 (x1000.map en_S_impl_ClaimFoe))] [] rn)
    (h2 : ∀ (k0 : Nat) (x1 : Int) (x5 : Int) (x1000 : List S_impl_ClaimFoe), k0 < k + 1 → laws_markClaimFoeS.l0 k0 l0 x1 x5 x1000 = some r → headN σ hv [0] [(1, .int .i64 x1), (5, .int .i64 x5)] [(0, .arr 171 2 (x1000.map en_S_impl_ClaimFoe))] [] (F (fun e σ' => match e with | .normal => ∃ (y : Nat × Int × Int × (List S_impl_ClaimFoe)) (rn : List (Option Nat)), (laws_markClaimFoeS.l0 y.1 l0 y.2.1 y.2.2.1 y.2.2.2 = some r ∧ y.1 < k + 1) ∧ y.1 < k0 ∧ Fits σ σ' [0] [(1, .int .i64 y.2.1), (5, .int .i64 y.2.2.1)] [(0, .arr 171 2 (y.2.2.2.map en_S_impl_ClaimFoe))] [] rn | e => Q e σ'))) : Lp F hv Q σ := by
  unfold Lp
  refine ⟨Nat × Int × Int × (List S_impl_ClaimFoe), fun x => laws_markClaimFoeS.l0 x.1 l0 x.2.1 x.2.2.1 x.2.2.2 = some r ∧ x.1 < k + 1, fun x => x.1, [0], fun x => [(1, .int .i64 x.2.1), (5, .int .i64 x.2.2.1)], fun x => [(0, .arr 171 2 (x.2.2.2.map en_S_impl_ClaimFoe))], fun x => [], ⟨(k, x1, x5, x1000), rn, ⟨H, Nat.lt_succ_self _⟩, h1⟩, ?_⟩
  rintro ⟨k, x1, x5, x1000⟩ ⟨H, hk⟩
  exact h2 k x1 x5 x1000 hk H
theorem laws_markClaimFoeS.ac {k : Nat} {l0 : List S_impl_ClaimFoe} {a1 : Int} {r : Int × (List S_impl_ClaimFoe)} (H : laws_markClaimFoeS.f k l0 a1 = some r) : ACalls Try.prog G 113 [.arr 171 2 (l0.map en_S_impl_ClaimFoe)] [.own 0 l0.length, .int .i64 a1] [.arr 171 2 (r.2.map en_S_impl_ClaimFoe)] (.int .i64 r.1) := by
  refine acalls_of tok hP Try.func113 rfl (by kernel_rfl) [.tmp 4] rfl (by kernel_rfl) (Nat.le_of_ble_eq_true rfl) (.l .n (.l (.l .n (.l .n (.c (.c .n .n) .n))) .n)) rfl ?_
  unfold laws_markClaimFoeS.f at H
  conv => whnf
  refine laws_markClaimFoeS.l0_lp (l0 := l0) (k := k) H [] (fits_of ⟨.inl ⟨rfl, rfl⟩, ⟨.inl ⟨rfl, rfl⟩, trivial⟩⟩ trivial fi_ ⟨⟨_, rfl⟩, rfl, trivial⟩ rfl) ?_
  intro k x1 x5 x1000 hk H; rcases k with _ | k; exact none_elim H; rw [laws_markClaimFoeS.l0] at H; conv => whnf
  refine chk_ H (fun c H => ?_)
  refine br_d H (fun c H => ?_) (fun c H => ?_)
  conv => whnf
  revert H; refine bind_elim (fun t1970 A H => ?_)
  refine call_mk (laws_markText.ac A) (avAL_cons (avA_shut' rfl) (avAL_nil)) (Or.inl rfl) rfl rfl (Nat.le_of_ble_eq_true rfl) ?_
  conv => whnf
  refine nd_ H (fun c H => ?_)
  conv => whnf
  refine Nd.mk nf_ ?_
  conv => whnf
  refine El.mk (rdm_en_S_impl_ClaimFoe _ _ nf_ nf_) ?_
  conv => whnf
  refine cut_ 105 [(0, .own 0 l0.length), (1, .int .i64 x1), (5, .int .i64 x5)] [(0, .arr 171 2 ((x1000.set (x5).toNat (⟨t1970, (rd_impl_ClaimFoe x1000 x5).f1⟩ : S_impl_ClaimFoe)).map en_S_impl_ClaimFoe))] rfl ⟨.inl rfl, ⟨.inl rfl, ⟨.inl rfl, trivial⟩⟩⟩ ⟨fm_, trivial⟩ ?_
  conv => whnf
  revert H; refine bind_elim (fun t1971 A H => ?_)
  refine call_mk (laws_markText.ac A) (avAL_cons (avA_shut' rfl) (avAL_nil)) (Or.inl rfl) rfl rfl (Nat.le_of_ble_eq_true rfl) ?_
  conv => whnf
  refine Nd.mk nf_ ?_
  conv => whnf
  refine Nd.mk nf_ ?_
  conv => whnf
  refine El.mk (el_of (ys := (x1000.set (x5).toNat (⟨t1970, (rd_impl_ClaimFoe x1000 x5).f1⟩ : S_impl_ClaimFoe)).map en_S_impl_ClaimFoe) lm_ (rdms en_S_impl_ClaimFoe _ _ _ nf_ nf_)) ?_
  conv => whnf
  refine cut_ 209 [(0, .own 0 l0.length), (1, .int .i64 (wrap64 ((wrap64 (x1 + 1)) + 1))), (5, .int .i64 x5)] [(0, .arr 171 2 ((x1000.set (x5).toNat (⟨t1970, t1971⟩ : S_impl_ClaimFoe)).map en_S_impl_ClaimFoe))] rfl ⟨.inl rfl, ⟨.inl rfl, ⟨.inl rfl, trivial⟩⟩⟩ ⟨fm_, trivial⟩ ?_
  conv => whnf
  exact ⟨(k, wrap64 ((wrap64 (x1 + 1)) + 1), wrap64 (x5 + 1), (x1000.set (x5).toNat (⟨t1970, t1971⟩ : S_impl_ClaimFoe))), [], ⟨H, lt_⟩, lt_, (fits_of ⟨.inl ⟨rfl, rfl⟩, ⟨.inl ⟨rfl, rfl⟩, trivial⟩⟩ trivial fi_ ⟨⟨_, rfl⟩, rfl, trivial⟩ rfl)⟩
  conv => whnf
  injection H with H; subst H
  exact ret_gen [some 0] [] ((rtA_eq rfl)) ⟨rfl, trivial⟩ rfl
theorem laws_markStringS.l0_lp {F : (Exit → St → Prop) → St → Prop} {hv : List Tmp} {Q : Exit → St → Prop} {σ : St} {r : Int × (List ByteArray)} {k : Nat} {l0 : List ByteArray} {x1 : Int} {x5 : Int} {x1000 : List ByteArray} (H : laws_markStringS.l0 k l0 x1 x5 x1000 = some r) (rn : List (Option Nat)) (h1 : Fits σ σ [0] [(1, .int .i64 x1), (5, .int .i64 x5)] [(0, .arr 9 1 (x1000.map en_str))] [] rn)
    (h2 : ∀ (k0 : Nat) (x1 : Int) (x5 : Int) (x1000 : List ByteArray), k0 < k + 1 → laws_markStringS.l0 k0 l0 x1 x5 x1000 = some r → headN σ hv [0] [(1, .int .i64 x1), (5, .int .i64 x5)] [(0, .arr 9 1 (x1000.map en_str))] [] (F (fun e σ' => match e with | .normal => ∃ (y : Nat × Int × Int × (List ByteArray)) (rn : List (Option Nat)), (laws_markStringS.l0 y.1 l0 y.2.1 y.2.2.1 y.2.2.2 = some r ∧ y.1 < k + 1) ∧ y.1 < k0 ∧ Fits σ σ' [0] [(1, .int .i64 y.2.1), (5, .int .i64 y.2.2.1)] [(0, .arr 9 1 (y.2.2.2.map en_str))] [] rn | e => Q e σ'))) : Lp F hv Q σ := by
  unfold Lp
  refine ⟨Nat × Int × Int × (List ByteArray), fun x => laws_markStringS.l0 x.1 l0 x.2.1 x.2.2.1 x.2.2.2 = some r ∧ x.1 < k + 1, fun x => x.1, [0], fun x => [(1, .int .i64 x.2.1), (5, .int .i64 x.2.2.1)], fun x => [(0, .arr 9 1 (x.2.2.2.map en_str))], fun x => [], ⟨(k, x1, x5, x1000), rn, ⟨H, Nat.lt_succ_self _⟩, h1⟩, ?_⟩
  rintro ⟨k, x1, x5, x1000⟩ ⟨H, hk⟩
  exact h2 k x1 x5 x1000 hk H
theorem laws_markStringS.ac {k : Nat} {l0 : List ByteArray} {a1 : Int} {r : Int × (List ByteArray)} (H : laws_markStringS.f k l0 a1 = some r) : ACalls Try.prog G 26 [.arr 9 1 (l0.map en_str)] [.own 0 l0.length, .int .i64 a1] [.arr 9 1 (r.2.map en_str)] (.int .i64 r.1) := by
  refine acalls_of tok hP Try.func26 rfl (by kernel_rfl) [.tmp 4] rfl (by kernel_rfl) (Nat.le_of_ble_eq_true rfl) (.l .n (.l (.l .n (.l .n (.l (.c .n .n) .n))) .n)) rfl ?_
  unfold laws_markStringS.f at H
  conv => whnf
  refine laws_markStringS.l0_lp (l0 := l0) (k := k) H [] (fits_of ⟨.inl ⟨rfl, rfl⟩, ⟨.inl ⟨rfl, rfl⟩, trivial⟩⟩ trivial fi_ ⟨⟨_, rfl⟩, rfl, trivial⟩ rfl) ?_
  intro k x1 x5 x1000 hk H; rcases k with _ | k; exact none_elim H; rw [laws_markStringS.l0] at H; conv => whnf
  refine chk_ H (fun c H => ?_)
  refine br_d H (fun c H => ?_) (fun c H => ?_)
  conv => whnf
  revert H; refine bind_elim (fun t2086 A H => ?_)
  refine call_mk (laws_markText.ac A) (avAL_cons (avA_shut' rfl) (avAL_nil)) (Or.inl rfl) rfl rfl (Nat.le_of_ble_eq_true rfl) ?_
  conv => whnf
  refine nd_ H (fun c H => ?_)
  conv => whnf
  refine Nd.mk nf_ ?_
  conv => whnf
  refine El.mk (rdm_en_str _ _ nf_ nf_) ?_
  conv => whnf
  refine cut_ 97 [(0, .own 0 l0.length), (1, .int .i64 x1), (5, .int .i64 x5)] [(0, .arr 9 1 ((x1000.set (x5).toNat t2086).map en_str))] rfl ⟨.inl rfl, ⟨.inl rfl, ⟨.inl rfl, trivial⟩⟩⟩ ⟨fm_, trivial⟩ ?_
  conv => whnf
  exact ⟨(k, wrap64 (x1 + 1), wrap64 (x5 + 1), (x1000.set (x5).toNat t2086)), [], ⟨H, lt_⟩, lt_, (fits_of ⟨.inl ⟨rfl, rfl⟩, ⟨.inl ⟨rfl, rfl⟩, trivial⟩⟩ trivial fi_ ⟨⟨_, rfl⟩, rfl, trivial⟩ rfl)⟩
  conv => whnf
  injection H with H; subst H
  exact ret_gen [some 0] [] ((rtA_eq rfl)) ⟨rfl, trivial⟩ rfl
theorem laws_markClaimSpotS.l0_lp {F : (Exit → St → Prop) → St → Prop} {hv : List Tmp} {Q : Exit → St → Prop} {σ : St} {r : Int × (List S_impl_ClaimSpot)} {k : Nat} {l0 : List S_impl_ClaimSpot} {x1 : Int} {x5 : Int} {x1000 : List S_impl_ClaimSpot} (H : laws_markClaimSpotS.l0 k l0 x1 x5 x1000 = some r) (rn : List (Option Nat)) (h1 : Fits σ σ [0] [(1, .int .i64 x1), (5, .int .i64 x5)] [(0, .deep 150 5 [0, 0, 0, 0, 9] (x1000.map en_S_impl_ClaimSpot))] [] rn)
    (h2 : ∀ (k0 : Nat) (x1 : Int) (x5 : Int) (x1000 : List S_impl_ClaimSpot), k0 < k + 1 → laws_markClaimSpotS.l0 k0 l0 x1 x5 x1000 = some r → headN σ hv [0] [(1, .int .i64 x1), (5, .int .i64 x5)] [(0, .deep 150 5 [0, 0, 0, 0, 9] (x1000.map en_S_impl_ClaimSpot))] [] (F (fun e σ' => match e with | .normal => ∃ (y : Nat × Int × Int × (List S_impl_ClaimSpot)) (rn : List (Option Nat)), (laws_markClaimSpotS.l0 y.1 l0 y.2.1 y.2.2.1 y.2.2.2 = some r ∧ y.1 < k + 1) ∧ y.1 < k0 ∧ Fits σ σ' [0] [(1, .int .i64 y.2.1), (5, .int .i64 y.2.2.1)] [(0, .deep 150 5 [0, 0, 0, 0, 9] (y.2.2.2.map en_S_impl_ClaimSpot))] [] rn | e => Q e σ'))) : Lp F hv Q σ := by
  unfold Lp
  refine ⟨Nat × Int × Int × (List S_impl_ClaimSpot), fun x => laws_markClaimSpotS.l0 x.1 l0 x.2.1 x.2.2.1 x.2.2.2 = some r ∧ x.1 < k + 1, fun x => x.1, [0], fun x => [(1, .int .i64 x.2.1), (5, .int .i64 x.2.2.1)], fun x => [(0, .deep 150 5 [0, 0, 0, 0, 9] (x.2.2.2.map en_S_impl_ClaimSpot))], fun x => [], ⟨(k, x1, x5, x1000), rn, ⟨H, Nat.lt_succ_self _⟩, h1⟩, ?_⟩
  rintro ⟨k, x1, x5, x1000⟩ ⟨H, hk⟩
  exact h2 k x1 x5 x1000 hk H
theorem laws_markClaimSpotS.ac {k : Nat} {l0 : List S_impl_ClaimSpot} {a1 : Int} {r : Int × (List S_impl_ClaimSpot)} (H : laws_markClaimSpotS.f k l0 a1 = some r) : ACalls Try.prog G 114 [.deep 150 5 [0, 0, 0, 0, 9] (l0.map en_S_impl_ClaimSpot)] [.own 0 l0.length, .int .i64 a1] [.deep 150 5 [0, 0, 0, 0, 9] (r.2.map en_S_impl_ClaimSpot)] (.int .i64 r.1) := by
  refine acalls_of tok hP Try.func114 rfl (by kernel_rfl) [.tmp 4] rfl (by kernel_rfl) (Nat.le_of_ble_eq_true rfl) (.l .n (.l (.l .n (.l .n (.c (.c .n (.l .n (.l .n (.c .n (.l .n (.l .n (.c .n .n))))))) .n))) .n)) rfl ?_
  unfold laws_markClaimSpotS.f at H
  conv => whnf
  refine laws_markClaimSpotS.l0_lp (l0 := l0) (k := k) H [] (fits_of ⟨.inl ⟨rfl, rfl⟩, ⟨.inl ⟨rfl, rfl⟩, trivial⟩⟩ trivial fi_ ⟨⟨_, rfl⟩, rfl, trivial⟩ rfl) ?_
  intro k x1 x5 x1000 hk H; rcases k with _ | k; exact none_elim H; rw [laws_markClaimSpotS.l0] at H; conv => whnf
  refine chk_ H (fun c H => ?_)
  refine br_d H (fun c H => ?_) (fun c H => ?_)
  conv => whnf
  revert H; refine bind_elim (fun t2096 A H => ?_)
  refine call_mk (laws_markText.ac A) (avAL_cons (avA_shut' rfl) (avAL_nil)) (Or.inl rfl) rfl rfl (Nat.le_of_ble_eq_true rfl) ?_
  conv => whnf
  refine nd_ H (fun c H => ?_)
  conv => whnf
  refine Nd.mk nf_ ?_
  conv => whnf
  refine El.mk (rdm_en_S_impl_ClaimSpot _ _ nf_ nf_) ?_
  conv => whnf
  refine cut_ 105 [(0, .own 0 l0.length), (1, .int .i64 x1), (5, .int .i64 x5)] [(0, .deep 150 5 [0, 0, 0, 0, 9] ((x1000.set (x5).toNat (⟨t2096, (rd_impl_ClaimSpot x1000 x5).f1, (rd_impl_ClaimSpot x1000 x5).f2, (rd_impl_ClaimSpot x1000 x5).f3, (rd_impl_ClaimSpot x1000 x5).f4⟩ : S_impl_ClaimSpot)).map en_S_impl_ClaimSpot))] rfl ⟨.inl rfl, ⟨.inl rfl, ⟨.inl rfl, trivial⟩⟩⟩ ⟨fm_, trivial⟩ ?_
  conv => whnf
  refine Nd.mk nf_ ?_
  conv => whnf
  refine Nd.mk nf_ ?_
  conv => whnf
  refine El.mk (el_of (ys := (x1000.set (x5).toNat (⟨t2096, (rd_impl_ClaimSpot x1000 x5).f1, (rd_impl_ClaimSpot x1000 x5).f2, (rd_impl_ClaimSpot x1000 x5).f3, (rd_impl_ClaimSpot x1000 x5).f4⟩ : S_impl_ClaimSpot)).map en_S_impl_ClaimSpot) lm_ (rdms en_S_impl_ClaimSpot _ _ _ nf_ nf_)) ?_
  conv => whnf
  refine cut_ 201 [(0, .own 0 l0.length), (1, .int .i64 (wrap64 ((wrap64 (x1 + 1)) + 1))), (5, .int .i64 x5)] [(0, .deep 150 5 [0, 0, 0, 0, 9] ((x1000.set (x5).toNat (⟨t2096, wrap64 (x1 + 1), (rd_impl_ClaimSpot x1000 x5).f2, (rd_impl_ClaimSpot x1000 x5).f3, (rd_impl_ClaimSpot x1000 x5).f4⟩ : S_impl_ClaimSpot)).map en_S_impl_ClaimSpot))] rfl ⟨.inl rfl, ⟨.inl rfl, ⟨.inl rfl, trivial⟩⟩⟩ ⟨fm_, trivial⟩ ?_
  conv => whnf
  refine Nd.mk nf_ ?_
  conv => whnf
  refine Nd.mk nf_ ?_
  conv => whnf
  refine El.mk (el_of (ys := (x1000.set (x5).toNat (⟨t2096, wrap64 (x1 + 1), (rd_impl_ClaimSpot x1000 x5).f2, (rd_impl_ClaimSpot x1000 x5).f3, (rd_impl_ClaimSpot x1000 x5).f4⟩ : S_impl_ClaimSpot)).map en_S_impl_ClaimSpot) lm_ (rdms en_S_impl_ClaimSpot _ _ _ nf_ nf_)) ?_
  conv => whnf
  refine Nd.mk nf_ ?_
  conv => whnf
  refine Nd.mk nf_ ?_
  conv => whnf
  refine El.mk (el_of (ys := (x1000.set (x5).toNat (⟨t2096, wrap64 (x1 + 1), wrap64 ((wrap64 (x1 + 1)) + 1), (rd_impl_ClaimSpot x1000 x5).f3, (rd_impl_ClaimSpot x1000 x5).f4⟩ : S_impl_ClaimSpot)).map en_S_impl_ClaimSpot) lm_ (rdms en_S_impl_ClaimSpot _ _ _ nf_ nf_)) ?_
  conv => whnf
  refine cut_ 321 [(0, .own 0 l0.length), (1, .int .i64 (wrap64 ((wrap64 ((wrap64 (x1 + 1)) + 1)) + 1))), (5, .int .i64 x5)] [(0, .deep 150 5 [0, 0, 0, 0, 9] ((x1000.set (x5).toNat (⟨t2096, wrap64 (x1 + 1), wrap64 ((wrap64 (x1 + 1)) + 1), wrap64 ((wrap64 ((wrap64 (x1 + 1)) + 1)) + 1), (rd_impl_ClaimSpot x1000 x5).f4⟩ : S_impl_ClaimSpot)).map en_S_impl_ClaimSpot))] rfl ⟨.inl rfl, ⟨.inl rfl, ⟨.inl rfl, trivial⟩⟩⟩ ⟨fm_, trivial⟩ ?_
  conv => whnf
  refine Nd.mk nf_ ?_
  conv => whnf
  refine Nd.mk nf_ ?_
  conv => whnf
  refine El.mk (el_of (ys := (x1000.set (x5).toNat (⟨t2096, wrap64 (x1 + 1), wrap64 ((wrap64 (x1 + 1)) + 1), wrap64 ((wrap64 ((wrap64 (x1 + 1)) + 1)) + 1), (rd_impl_ClaimSpot x1000 x5).f4⟩ : S_impl_ClaimSpot)).map en_S_impl_ClaimSpot) lm_ (rdms en_S_impl_ClaimSpot _ _ _ nf_ nf_)) ?_
  conv => whnf
  revert H; refine bind_elim (fun t2097 A H => ?_)
  refine call_mk3 t2097.2.length (laws_markStringS.ac A) rfl (el_of (ys := (x1000.set (x5).toNat (⟨t2096, wrap64 (x1 + 1), wrap64 ((wrap64 (x1 + 1)) + 1), wrap64 ((wrap64 ((wrap64 (x1 + 1)) + 1)) + 1), (rd_impl_ClaimSpot x1000 x5).f4⟩ : S_impl_ClaimSpot)).map en_S_impl_ClaimSpot) lm_ (rdms en_S_impl_ClaimSpot _ _ _ nf_ nf_)) rfl rfl rfl rfl rfl rfl lm_ (bo_arr bare_en_str) rfl ?_
  conv => whnf
  refine cut_ 409 [(0, .own 0 l0.length), (1, .int .i64 t2097.1), (5, .int .i64 x5)] [(0, .deep 150 5 [0, 0, 0, 0, 9] ((x1000.set (x5).toNat (⟨t2096, wrap64 (x1 + 1), wrap64 ((wrap64 (x1 + 1)) + 1), wrap64 ((wrap64 ((wrap64 (x1 + 1)) + 1)) + 1), t2097.2⟩ : S_impl_ClaimSpot)).map en_S_impl_ClaimSpot))] rfl ⟨.inl rfl, ⟨.inl rfl, ⟨.inl rfl, trivial⟩⟩⟩ ⟨fm_, trivial⟩ ?_
  conv => whnf
  exact ⟨(k, t2097.1, wrap64 (x5 + 1), (x1000.set (x5).toNat (⟨t2096, wrap64 (x1 + 1), wrap64 ((wrap64 (x1 + 1)) + 1), wrap64 ((wrap64 ((wrap64 (x1 + 1)) + 1)) + 1), t2097.2⟩ : S_impl_ClaimSpot))), [], ⟨H, lt_⟩, lt_, (fits_of ⟨.inl ⟨rfl, rfl⟩, ⟨.inl ⟨rfl, rfl⟩, trivial⟩⟩ trivial fi_ ⟨⟨_, rfl⟩, rfl, trivial⟩ rfl)⟩
  conv => whnf
  injection H with H; subst H
  exact ret_gen [some 0] [] ((rtA_eq rfl)) ⟨rfl, trivial⟩ rfl
theorem laws_markClaimUseS.l0_lp {F : (Exit → St → Prop) → St → Prop} {hv : List Tmp} {Q : Exit → St → Prop} {σ : St} {r : Int × (List S_impl_ClaimUse)} {k : Nat} {l0 : List S_impl_ClaimUse} {x1 : Int} {x5 : Int} {x1000 : List S_impl_ClaimUse} (H : laws_markClaimUseS.l0 k l0 x1 x5 x1000 = some r) (rn : List (Option Nat)) (h1 : Fits σ σ [0] [(1, .int .i64 x1), (5, .int .i64 x5)] [(0, .arr 231 3 (x1000.map en_S_impl_ClaimUse))] [] rn)
    (h2 : ∀ (k0 : Nat) (x1 : Int) (x5 : Int) (x1000 : List S_impl_ClaimUse), k0 < k + 1 → laws_markClaimUseS.l0 k0 l0 x1 x5 x1000 = some r → headN σ hv [0] [(1, .int .i64 x1), (5, .int .i64 x5)] [(0, .arr 231 3 (x1000.map en_S_impl_ClaimUse))] [] (F (fun e σ' => match e with | .normal => ∃ (y : Nat × Int × Int × (List S_impl_ClaimUse)) (rn : List (Option Nat)), (laws_markClaimUseS.l0 y.1 l0 y.2.1 y.2.2.1 y.2.2.2 = some r ∧ y.1 < k + 1) ∧ y.1 < k0 ∧ Fits σ σ' [0] [(1, .int .i64 y.2.1), (5, .int .i64 y.2.2.1)] [(0, .arr 231 3 (y.2.2.2.map en_S_impl_ClaimUse))] [] rn | e => Q e σ'))) : Lp F hv Q σ := by
  unfold Lp
  refine ⟨Nat × Int × Int × (List S_impl_ClaimUse), fun x => laws_markClaimUseS.l0 x.1 l0 x.2.1 x.2.2.1 x.2.2.2 = some r ∧ x.1 < k + 1, fun x => x.1, [0], fun x => [(1, .int .i64 x.2.1), (5, .int .i64 x.2.2.1)], fun x => [(0, .arr 231 3 (x.2.2.2.map en_S_impl_ClaimUse))], fun x => [], ⟨(k, x1, x5, x1000), rn, ⟨H, Nat.lt_succ_self _⟩, h1⟩, ?_⟩
  rintro ⟨k, x1, x5, x1000⟩ ⟨H, hk⟩
  exact h2 k x1 x5 x1000 hk H
theorem laws_markClaimUseS.ac {k : Nat} {l0 : List S_impl_ClaimUse} {a1 : Int} {r : Int × (List S_impl_ClaimUse)} (H : laws_markClaimUseS.f k l0 a1 = some r) : ACalls Try.prog G 183 [.arr 231 3 (l0.map en_S_impl_ClaimUse)] [.own 0 l0.length, .int .i64 a1] [.arr 231 3 (r.2.map en_S_impl_ClaimUse)] (.int .i64 r.1) := by
  refine acalls_of tok hP Try.func183 rfl (by kernel_rfl) [.tmp 4] rfl (by kernel_rfl) (Nat.le_of_ble_eq_true rfl) (.l .n (.l (.l .n (.l .n (.l (.c .n (.l .n (.l .n (.c .n .n)))) .n))) .n)) rfl ?_
  unfold laws_markClaimUseS.f at H
  conv => whnf
  refine laws_markClaimUseS.l0_lp (l0 := l0) (k := k) H [] (fits_of ⟨.inl ⟨rfl, rfl⟩, ⟨.inl ⟨rfl, rfl⟩, trivial⟩⟩ trivial fi_ ⟨⟨_, rfl⟩, rfl, trivial⟩ rfl) ?_
  intro k x1 x5 x1000 hk H; rcases k with _ | k; exact none_elim H; rw [laws_markClaimUseS.l0] at H; conv => whnf
  refine chk_ H (fun c H => ?_)
  refine br_d H (fun c H => ?_) (fun c H => ?_)
  conv => whnf
  revert H; refine bind_elim (fun t2252 A H => ?_)
  refine call_mk (laws_markText.ac A) (avAL_cons (avA_shut' rfl) (avAL_nil)) (Or.inl rfl) rfl rfl (Nat.le_of_ble_eq_true rfl) ?_
  conv => whnf
  refine nd_ H (fun c H => ?_)
  conv => whnf
  refine Nd.mk nf_ ?_
  conv => whnf
  refine El.mk (rdm_en_S_impl_ClaimUse _ _ nf_ nf_) ?_
  conv => whnf
  refine cut_ 105 [(0, .own 0 l0.length), (1, .int .i64 x1), (5, .int .i64 x5)] [(0, .arr 231 3 ((x1000.set (x5).toNat (⟨t2252, (rd_impl_ClaimUse x1000 x5).f1, (rd_impl_ClaimUse x1000 x5).f2⟩ : S_impl_ClaimUse)).map en_S_impl_ClaimUse))] rfl ⟨.inl rfl, ⟨.inl rfl, ⟨.inl rfl, trivial⟩⟩⟩ ⟨fm_, trivial⟩ ?_
  conv => whnf
  refine Nd.mk nf_ ?_
  conv => whnf
  refine Nd.mk nf_ ?_
  conv => whnf
  refine El.mk (el_of (ys := (x1000.set (x5).toNat (⟨t2252, (rd_impl_ClaimUse x1000 x5).f1, (rd_impl_ClaimUse x1000 x5).f2⟩ : S_impl_ClaimUse)).map en_S_impl_ClaimUse) lm_ (rdms en_S_impl_ClaimUse _ _ _ nf_ nf_)) ?_
  conv => whnf
  refine cut_ 201 [(0, .own 0 l0.length), (1, .int .i64 (wrap64 ((wrap64 (x1 + 1)) + 1))), (5, .int .i64 x5)] [(0, .arr 231 3 ((x1000.set (x5).toNat (⟨t2252, wrap64 (x1 + 1), (rd_impl_ClaimUse x1000 x5).f2⟩ : S_impl_ClaimUse)).map en_S_impl_ClaimUse))] rfl ⟨.inl rfl, ⟨.inl rfl, ⟨.inl rfl, trivial⟩⟩⟩ ⟨fm_, trivial⟩ ?_
  conv => whnf
  refine Nd.mk nf_ ?_
  conv => whnf
  refine Nd.mk nf_ ?_
  conv => whnf
  refine El.mk (el_of (ys := (x1000.set (x5).toNat (⟨t2252, wrap64 (x1 + 1), (rd_impl_ClaimUse x1000 x5).f2⟩ : S_impl_ClaimUse)).map en_S_impl_ClaimUse) lm_ (rdms en_S_impl_ClaimUse _ _ _ nf_ nf_)) ?_
  conv => whnf
  exact ⟨(k, wrap64 ((wrap64 ((wrap64 (x1 + 1)) + 1)) + 1), wrap64 (x5 + 1), (x1000.set (x5).toNat (⟨t2252, wrap64 (x1 + 1), wrap64 ((wrap64 (x1 + 1)) + 1)⟩ : S_impl_ClaimUse))), [], ⟨H, lt_⟩, lt_, (fits_of ⟨.inl ⟨rfl, rfl⟩, ⟨.inl ⟨rfl, rfl⟩, trivial⟩⟩ trivial fi_ ⟨⟨_, rfl⟩, fm_, trivial⟩ rfl)⟩
  conv => whnf
  injection H with H; subst H
  exact ret_gen [some 0] [] ((rtA_eq rfl)) ⟨rfl, trivial⟩ rfl
theorem laws_markClaimPartS.l0_lp {F : (Exit → St → Prop) → St → Prop} {hv : List Tmp} {Q : Exit → St → Prop} {σ : St} {r : Int × (List S_impl_ClaimPart)} {k : Nat} {l0 : List S_impl_ClaimPart} {x1 : Int} {x5 : Int} {x1000 : List S_impl_ClaimPart} (H : laws_markClaimPartS.l0 k l0 x1 x5 x1000 = some r) (rn : List (Option Nat)) (h1 : Fits σ σ [0] [(1, .int .i64 x1), (5, .int .i64 x5)] [(0, .deep 156 7 [0, 0, 9, 231, 9, 9, 0] (x1000.map en_S_impl_ClaimPart))] [] rn)
    (h2 : ∀ (k0 : Nat) (x1 : Int) (x5 : Int) (x1000 : List S_impl_ClaimPart), k0 < k + 1 → laws_markClaimPartS.l0 k0 l0 x1 x5 x1000 = some r → headN σ hv [0] [(1, .int .i64 x1), (5, .int .i64 x5)] [(0, .deep 156 7 [0, 0, 9, 231, 9, 9, 0] (x1000.map en_S_impl_ClaimPart))] [] (F (fun e σ' => match e with | .normal => ∃ (y : Nat × Int × Int × (List S_impl_ClaimPart)) (rn : List (Option Nat)), (laws_markClaimPartS.l0 y.1 l0 y.2.1 y.2.2.1 y.2.2.2 = some r ∧ y.1 < k + 1) ∧ y.1 < k0 ∧ Fits σ σ' [0] [(1, .int .i64 y.2.1), (5, .int .i64 y.2.2.1)] [(0, .deep 156 7 [0, 0, 9, 231, 9, 9, 0] (y.2.2.2.map en_S_impl_ClaimPart))] [] rn | e => Q e σ'))) : Lp F hv Q σ := by
  unfold Lp
  refine ⟨Nat × Int × Int × (List S_impl_ClaimPart), fun x => laws_markClaimPartS.l0 x.1 l0 x.2.1 x.2.2.1 x.2.2.2 = some r ∧ x.1 < k + 1, fun x => x.1, [0], fun x => [(1, .int .i64 x.2.1), (5, .int .i64 x.2.2.1)], fun x => [(0, .deep 156 7 [0, 0, 9, 231, 9, 9, 0] (x.2.2.2.map en_S_impl_ClaimPart))], fun x => [], ⟨(k, x1, x5, x1000), rn, ⟨H, Nat.lt_succ_self _⟩, h1⟩, ?_⟩
  rintro ⟨k, x1, x5, x1000⟩ ⟨H, hk⟩
  exact h2 k x1 x5 x1000 hk H
theorem laws_markClaimPartS.ac {k : Nat} {l0 : List S_impl_ClaimPart} {a1 : Int} {r : Int × (List S_impl_ClaimPart)} (H : laws_markClaimPartS.f k l0 a1 = some r) : ACalls Try.prog G 115 [.deep 156 7 [0, 0, 9, 231, 9, 9, 0] (l0.map en_S_impl_ClaimPart)] [.own 0 l0.length, .int .i64 a1] [.deep 156 7 [0, 0, 9, 231, 9, 9, 0] (r.2.map en_S_impl_ClaimPart)] (.int .i64 r.1) := by
  refine acalls_of tok hP Try.func115 rfl (by kernel_rfl) [.tmp 4] rfl (by kernel_rfl) (Nat.le_of_ble_eq_true rfl) (.l .n (.l (.l .n (.l .n (.c (.c .n (.l .n (.l .n (.c .n (.l .n (.c .n (.l .n (.c .n .n)))))))) .n))) .n)) rfl ?_
  unfold laws_markClaimPartS.f at H
  conv => whnf
  refine laws_markClaimPartS.l0_lp (l0 := l0) (k := k) H [] (fits_of ⟨.inl ⟨rfl, rfl⟩, ⟨.inl ⟨rfl, rfl⟩, trivial⟩⟩ trivial fi_ ⟨⟨_, rfl⟩, rfl, trivial⟩ rfl) ?_
  intro k x1 x5 x1000 hk H; rcases k with _ | k; exact none_elim H; rw [laws_markClaimPartS.l0] at H; conv => whnf
  refine chk_ H (fun c H => ?_)
  refine br_d H (fun c H => ?_) (fun c H => ?_)
  conv => whnf
  refine nd_ H (fun c H => ?_)
  conv => whnf
  refine Nd.mk nf_ ?_
  conv => whnf
  refine El.mk (rdm_en_S_impl_ClaimPart _ _ nf_ nf_) ?_
  conv => whnf
  refine cut_ 105 [(0, .own 0 l0.length), (1, .int .i64 x1), (5, .int .i64 x5)] [(0, .deep 156 7 [0, 0, 9, 231, 9, 9, 0] ((x1000.set (x5).toNat (⟨(⟨x1, ((rd_impl_ClaimPart x1000 x5).f0).f1, ((rd_impl_ClaimPart x1000 x5).f0).f2, ((rd_impl_ClaimPart x1000 x5).f0).f3, ((rd_impl_ClaimPart x1000 x5).f0).f4, ((rd_impl_ClaimPart x1000 x5).f0).f5⟩ : S_impl_ClaimWant), (rd_impl_ClaimPart x1000 x5).f1⟩ : S_impl_ClaimPart)).map en_S_impl_ClaimPart))] rfl ⟨.inl rfl, ⟨.inl rfl, ⟨.inl rfl, trivial⟩⟩⟩ ⟨fm_, trivial⟩ ?_
  conv => whnf
  refine Nd.mk nf_ ?_
  conv => whnf
  refine Nd.mk nf_ ?_
  conv => whnf
  refine El.mk (el_of (ys := (x1000.set (x5).toNat (⟨(⟨x1, ((rd_impl_ClaimPart x1000 x5).f0).f1, ((rd_impl_ClaimPart x1000 x5).f0).f2, ((rd_impl_ClaimPart x1000 x5).f0).f3, ((rd_impl_ClaimPart x1000 x5).f0).f4, ((rd_impl_ClaimPart x1000 x5).f0).f5⟩ : S_impl_ClaimWant), (rd_impl_ClaimPart x1000 x5).f1⟩ : S_impl_ClaimPart)).map en_S_impl_ClaimPart) lm_ (rdms en_S_impl_ClaimPart _ _ _ nf_ nf_)) ?_
  conv => whnf
  refine cut_ 209 [(0, .own 0 l0.length), (1, .int .i64 (wrap64 ((wrap64 (x1 + 1)) + 1))), (5, .int .i64 x5)] [(0, .deep 156 7 [0, 0, 9, 231, 9, 9, 0] ((x1000.set (x5).toNat (⟨(⟨x1, wrap64 (x1 + 1), ((rd_impl_ClaimPart x1000 x5).f0).f2, ((rd_impl_ClaimPart x1000 x5).f0).f3, ((rd_impl_ClaimPart x1000 x5).f0).f4, ((rd_impl_ClaimPart x1000 x5).f0).f5⟩ : S_impl_ClaimWant), (rd_impl_ClaimPart x1000 x5).f1⟩ : S_impl_ClaimPart)).map en_S_impl_ClaimPart))] rfl ⟨.inl rfl, ⟨.inl rfl, ⟨.inl rfl, trivial⟩⟩⟩ ⟨fm_, trivial⟩ ?_
  conv => whnf
  refine Nd.mk nf_ ?_
  conv => whnf
  refine Nd.mk nf_ ?_
  conv => whnf
  refine El.mk (el_of (ys := (x1000.set (x5).toNat (⟨(⟨x1, wrap64 (x1 + 1), ((rd_impl_ClaimPart x1000 x5).f0).f2, ((rd_impl_ClaimPart x1000 x5).f0).f3, ((rd_impl_ClaimPart x1000 x5).f0).f4, ((rd_impl_ClaimPart x1000 x5).f0).f5⟩ : S_impl_ClaimWant), (rd_impl_ClaimPart x1000 x5).f1⟩ : S_impl_ClaimPart)).map en_S_impl_ClaimPart) lm_ (rdms en_S_impl_ClaimPart _ _ _ nf_ nf_)) ?_
  conv => whnf
  revert H; refine bind_elim (fun t2273 A H => ?_)
  refine call_mk3 t2273.2.length (laws_markStringS.ac A) rfl (el_of (ys := (x1000.set (x5).toNat (⟨(⟨x1, wrap64 (x1 + 1), ((rd_impl_ClaimPart x1000 x5).f0).f2, ((rd_impl_ClaimPart x1000 x5).f0).f3, ((rd_impl_ClaimPart x1000 x5).f0).f4, ((rd_impl_ClaimPart x1000 x5).f0).f5⟩ : S_impl_ClaimWant), (rd_impl_ClaimPart x1000 x5).f1⟩ : S_impl_ClaimPart)).map en_S_impl_ClaimPart) lm_ (rdms en_S_impl_ClaimPart _ _ _ nf_ nf_)) rfl rfl rfl rfl rfl rfl lm_ (bo_arr bare_en_str) rfl ?_
  conv => whnf
  refine Nd.mk nf_ ?_
  conv => whnf
  refine Nd.mk nf_ ?_
  conv => whnf
  refine El.mk (el_of (ys := (x1000.set (x5).toNat (⟨(⟨x1, wrap64 (x1 + 1), t2273.2, ((rd_impl_ClaimPart x1000 x5).f0).f3, ((rd_impl_ClaimPart x1000 x5).f0).f4, ((rd_impl_ClaimPart x1000 x5).f0).f5⟩ : S_impl_ClaimWant), (rd_impl_ClaimPart x1000 x5).f1⟩ : S_impl_ClaimPart)).map en_S_impl_ClaimPart) lm_ (rdms en_S_impl_ClaimPart _ _ _ nf_ nf_)) ?_
  conv => whnf
  revert H; refine bind_elim (fun t2274 A H => ?_)
  refine call_mk3 t2274.2.length (laws_markClaimUseS.ac A) rfl (el_of (ys := (x1000.set (x5).toNat (⟨(⟨x1, wrap64 (x1 + 1), t2273.2, ((rd_impl_ClaimPart x1000 x5).f0).f3, ((rd_impl_ClaimPart x1000 x5).f0).f4, ((rd_impl_ClaimPart x1000 x5).f0).f5⟩ : S_impl_ClaimWant), (rd_impl_ClaimPart x1000 x5).f1⟩ : S_impl_ClaimPart)).map en_S_impl_ClaimPart) lm_ (rdms en_S_impl_ClaimPart _ _ _ nf_ nf_)) rfl rfl rfl rfl rfl rfl lm_ (bo_arr bare_en_S_impl_ClaimUse) rfl ?_
  conv => whnf
  refine cut_ 353 [(0, .own 0 l0.length), (1, .int .i64 t2274.1), (5, .int .i64 x5)] [(0, .deep 156 7 [0, 0, 9, 231, 9, 9, 0] ((x1000.set (x5).toNat (⟨(⟨x1, wrap64 (x1 + 1), t2273.2, t2274.2, ((rd_impl_ClaimPart x1000 x5).f0).f4, ((rd_impl_ClaimPart x1000 x5).f0).f5⟩ : S_impl_ClaimWant), (rd_impl_ClaimPart x1000 x5).f1⟩ : S_impl_ClaimPart)).map en_S_impl_ClaimPart))] rfl ⟨.inl rfl, ⟨.inl rfl, ⟨.inl rfl, trivial⟩⟩⟩ ⟨fm_, trivial⟩ ?_
  conv => whnf
  refine Nd.mk nf_ ?_
  conv => whnf
  refine Nd.mk nf_ ?_
  conv => whnf
  refine El.mk (el_of (ys := (x1000.set (x5).toNat (⟨(⟨x1, wrap64 (x1 + 1), t2273.2, t2274.2, ((rd_impl_ClaimPart x1000 x5).f0).f4, ((rd_impl_ClaimPart x1000 x5).f0).f5⟩ : S_impl_ClaimWant), (rd_impl_ClaimPart x1000 x5).f1⟩ : S_impl_ClaimPart)).map en_S_impl_ClaimPart) lm_ (rdms en_S_impl_ClaimPart _ _ _ nf_ nf_)) ?_
  conv => whnf
  revert H; refine bind_elim (fun t2275 A H => ?_)
  refine call_mk3 t2275.2.length (laws_markStringS.ac A) rfl (el_of (ys := (x1000.set (x5).toNat (⟨(⟨x1, wrap64 (x1 + 1), t2273.2, t2274.2, ((rd_impl_ClaimPart x1000 x5).f0).f4, ((rd_impl_ClaimPart x1000 x5).f0).f5⟩ : S_impl_ClaimWant), (rd_impl_ClaimPart x1000 x5).f1⟩ : S_impl_ClaimPart)).map en_S_impl_ClaimPart) lm_ (rdms en_S_impl_ClaimPart _ _ _ nf_ nf_)) rfl rfl rfl rfl rfl rfl lm_ (bo_arr bare_en_str) rfl ?_
  conv => whnf
  refine Nd.mk nf_ ?_
  conv => whnf
  refine Nd.mk nf_ ?_
  conv => whnf
  refine El.mk (el_of (ys := (x1000.set (x5).toNat (⟨(⟨x1, wrap64 (x1 + 1), t2273.2, t2274.2, t2275.2, ((rd_impl_ClaimPart x1000 x5).f0).f5⟩ : S_impl_ClaimWant), (rd_impl_ClaimPart x1000 x5).f1⟩ : S_impl_ClaimPart)).map en_S_impl_ClaimPart) lm_ (rdms en_S_impl_ClaimPart _ _ _ nf_ nf_)) ?_
  conv => whnf
  revert H; refine bind_elim (fun t2276 A H => ?_)
  refine call_mk3 t2276.2.length (laws_markStringS.ac A) rfl (el_of (ys := (x1000.set (x5).toNat (⟨(⟨x1, wrap64 (x1 + 1), t2273.2, t2274.2, t2275.2, ((rd_impl_ClaimPart x1000 x5).f0).f5⟩ : S_impl_ClaimWant), (rd_impl_ClaimPart x1000 x5).f1⟩ : S_impl_ClaimPart)).map en_S_impl_ClaimPart) lm_ (rdms en_S_impl_ClaimPart _ _ _ nf_ nf_)) rfl rfl rfl rfl rfl rfl lm_ (bo_arr bare_en_str) rfl ?_
  conv => whnf
  refine cut_ 497 [(0, .own 0 l0.length), (1, .int .i64 t2276.1), (5, .int .i64 x5)] [(0, .deep 156 7 [0, 0, 9, 231, 9, 9, 0] ((x1000.set (x5).toNat (⟨(⟨x1, wrap64 (x1 + 1), t2273.2, t2274.2, t2275.2, t2276.2⟩ : S_impl_ClaimWant), (rd_impl_ClaimPart x1000 x5).f1⟩ : S_impl_ClaimPart)).map en_S_impl_ClaimPart))] rfl ⟨.inl rfl, ⟨.inl rfl, ⟨.inl rfl, trivial⟩⟩⟩ ⟨fm_, trivial⟩ ?_
  conv => whnf
  refine Nd.mk (by decide) ?_
  conv => whnf
  refine Nd.mk nf_ ?_
  conv => whnf
  refine Nd.mk nf_ ?_
  conv => whnf
  refine El.mk (el_of (ys := (x1000.set (x5).toNat (⟨(⟨x1, wrap64 (x1 + 1), t2273.2, t2274.2, t2275.2, t2276.2⟩ : S_impl_ClaimWant), (rd_impl_ClaimPart x1000 x5).f1⟩ : S_impl_ClaimPart)).map en_S_impl_ClaimPart) lm_ (rdms en_S_impl_ClaimPart _ _ _ nf_ nf_)) ?_
  conv => whnf
  refine cut_ 585 [(0, .own 0 l0.length), (1, .int .i64 (wrap64 (t2276.1 + 1))), (5, .int .i64 x5)] [(0, .deep 156 7 [0, 0, 9, 231, 9, 9, 0] ((x1000.set (x5).toNat (⟨(⟨x1, wrap64 (x1 + 1), t2273.2, t2274.2, t2275.2, t2276.2⟩ : S_impl_ClaimWant), decide ((Int.tmod t2276.1 3) = 0)⟩ : S_impl_ClaimPart)).map en_S_impl_ClaimPart))] rfl ⟨.inl rfl, ⟨.inl rfl, ⟨.inl rfl, trivial⟩⟩⟩ ⟨fm_, trivial⟩ ?_
  conv => whnf
  exact ⟨(k, wrap64 (t2276.1 + 1), wrap64 (x5 + 1), (x1000.set (x5).toNat (⟨(⟨x1, wrap64 (x1 + 1), t2273.2, t2274.2, t2275.2, t2276.2⟩ : S_impl_ClaimWant), decide ((Int.tmod t2276.1 3) = 0)⟩ : S_impl_ClaimPart))), [], ⟨H, lt_⟩, lt_, (fits_of ⟨.inl ⟨rfl, rfl⟩, ⟨.inl ⟨rfl, rfl⟩, trivial⟩⟩ trivial fi_ ⟨⟨_, rfl⟩, rfl, trivial⟩ rfl)⟩
  conv => whnf
  injection H with H; subst H
  exact ret_gen [some 0] [] ((rtA_eq rfl)) ⟨rfl, trivial⟩ rfl
theorem laws_markClaimBook.ac {k : Nat} {a0_0 : List S_impl_ClaimFoe} {a0_1 : List S_impl_ClaimSpot} {a0_2 : List ByteArray} {a0_3 : List S_impl_ClaimPart} {a0_4 : Int} {a1 : Int} {r : Int × (List S_impl_ClaimFoe) × (List S_impl_ClaimSpot) × (List ByteArray) × (List S_impl_ClaimPart)} (H : laws_markClaimBook.f k a0_0 a0_1 a0_2 a0_3 a0_4 a1 = some r) : ACalls Try.prog G 38 [.arr 171 2 (a0_0.map en_S_impl_ClaimFoe), .deep 150 5 [0, 0, 0, 0, 9] (a0_1.map en_S_impl_ClaimSpot), .arr 9 1 (a0_2.map en_str), .deep 156 7 [0, 0, 9, 231, 9, 9, 0] (a0_3.map en_S_impl_ClaimPart)] [.agg [.own 0 a0_0.length, .own 1 a0_1.length, .own 2 a0_2.length, .own 3 a0_3.length, .int .i64 a0_4], .int .i64 a1] [.arr 171 2 (r.2.1.map en_S_impl_ClaimFoe), .deep 150 5 [0, 0, 0, 0, 9] (r.2.2.1.map en_S_impl_ClaimSpot), .arr 9 1 (r.2.2.2.1.map en_str), .deep 156 7 [0, 0, 9, 231, 9, 9, 0] (r.2.2.2.2.map en_S_impl_ClaimPart)] (.int .i64 r.1) := by
  refine acalls_of tok hP Try.func38 rfl (by kernel_rfl) [.tmp 4] rfl (by kernel_rfl) (Nat.le_of_ble_eq_true rfl) (.l .n (.l .n (.c .n (.l .n (.c .n .n))))) rfl ?_
  unfold laws_markClaimBook.f at H
  conv => whnf
  revert H; refine bind_elim (fun t2303 A H => ?_)
  refine call_mk2 [0] (laws_markClaimFoeS.ac A) ⟨rfl, trivial⟩ rfl rfl rfl rfl rfl rfl rfl rfl ?_
  conv => whnf
  revert H; refine bind_elim (fun t2305 A H => ?_)
  refine call_mk2 [1] (laws_markClaimSpotS.ac A) ⟨rfl, trivial⟩ rfl rfl rfl rfl rfl rfl rfl rfl ?_
  conv => whnf
  refine cut_ 100 [(1, .int .i64 t2305.1), (2, .bp 4 0)] [(0, .arr 171 2 (t2303.2.map en_S_impl_ClaimFoe)), (1, .deep 150 5 [0, 0, 0, 0, 9] (t2305.2.map en_S_impl_ClaimSpot)), (2, .arr 9 1 (a0_2.map en_str)), (3, .deep 156 7 [0, 0, 9, 231, 9, 9, 0] (a0_3.map en_S_impl_ClaimPart)), (4, .box [.own 0 a0_0.length, .own 1 a0_1.length, .own 2 a0_2.length, .own 3 a0_3.length, .int .i64 a0_4])] rfl ⟨.inl rfl, ⟨.inl rfl, trivial⟩⟩ ⟨rfl, ⟨rfl, ⟨rfl, ⟨rfl, ⟨rfl, trivial⟩⟩⟩⟩⟩ ?_
  conv => whnf
  revert H; refine bind_elim (fun t2307 A H => ?_)
  refine call_mk2 [2] (laws_markStringS.ac A) ⟨rfl, trivial⟩ rfl rfl rfl rfl rfl rfl rfl rfl ?_
  conv => whnf
  revert H; refine bind_elim (fun t2309 A H => ?_)
  refine call_mk2 [3] (laws_markClaimPartS.ac A) ⟨rfl, trivial⟩ rfl rfl rfl rfl rfl rfl rfl rfl ?_
  conv => whnf
  refine cut_ 180 [(1, .int .i64 t2309.1)] [(0, .arr 171 2 (t2303.2.map en_S_impl_ClaimFoe)), (1, .deep 150 5 [0, 0, 0, 0, 9] (t2305.2.map en_S_impl_ClaimSpot)), (2, .arr 9 1 (t2307.2.map en_str)), (3, .deep 156 7 [0, 0, 9, 231, 9, 9, 0] (t2309.2.map en_S_impl_ClaimPart))] rfl ⟨.inl rfl, trivial⟩ ⟨rfl, ⟨rfl, ⟨rfl, ⟨rfl, trivial⟩⟩⟩⟩ ?_
  conv => whnf
  injection H with H; subst H
  exact ret_gen [some 0, some 1, some 2, some 3] [] ((rtA_eq rfl)) ⟨rfl, ⟨rfl, ⟨rfl, ⟨rfl, trivial⟩⟩⟩⟩ rfl
theorem laws_markIntS.l0_lp {F : (Exit → St → Prop) → St → Prop} {hv : List Tmp} {Q : Exit → St → Prop} {σ : St} {r : Int × (List Int)} {k : Nat} {l0 : List Int} {x1 : Int} {x5 : Int} {x1000 : List Int} (H : laws_markIntS.l0 k l0 x1 x5 x1000 = some r) (rn : List (Option Nat)) (h1 : Fits σ σ [0] [(1, .int .i64 x1), (5, .int .i64 x5)] [(0, .arr 3 1 (x1000.map en_i64))] [] rn)
    (h2 : ∀ (k0 : Nat) (x1 : Int) (x5 : Int) (x1000 : List Int), k0 < k + 1 → laws_markIntS.l0 k0 l0 x1 x5 x1000 = some r → headN σ hv [0] [(1, .int .i64 x1), (5, .int .i64 x5)] [(0, .arr 3 1 (x1000.map en_i64))] [] (F (fun e σ' => match e with | .normal => ∃ (y : Nat × Int × Int × (List Int)) (rn : List (Option Nat)), (laws_markIntS.l0 y.1 l0 y.2.1 y.2.2.1 y.2.2.2 = some r ∧ y.1 < k + 1) ∧ y.1 < k0 ∧ Fits σ σ' [0] [(1, .int .i64 y.2.1), (5, .int .i64 y.2.2.1)] [(0, .arr 3 1 (y.2.2.2.map en_i64))] [] rn | e => Q e σ'))) : Lp F hv Q σ := by
  unfold Lp
  refine ⟨Nat × Int × Int × (List Int), fun x => laws_markIntS.l0 x.1 l0 x.2.1 x.2.2.1 x.2.2.2 = some r ∧ x.1 < k + 1, fun x => x.1, [0], fun x => [(1, .int .i64 x.2.1), (5, .int .i64 x.2.2.1)], fun x => [(0, .arr 3 1 (x.2.2.2.map en_i64))], fun x => [], ⟨(k, x1, x5, x1000), rn, ⟨H, Nat.lt_succ_self _⟩, h1⟩, ?_⟩
  rintro ⟨k, x1, x5, x1000⟩ ⟨H, hk⟩
  exact h2 k x1 x5 x1000 hk H
theorem laws_markIntS.ac {k : Nat} {l0 : List Int} {a1 : Int} {r : Int × (List Int)} (H : laws_markIntS.f k l0 a1 = some r) : ACalls Try.prog G 39 [.arr 3 1 (l0.map en_i64)] [.own 0 l0.length, .int .i64 a1] [.arr 3 1 (r.2.map en_i64)] (.int .i64 r.1) := by
  refine acalls_of tok hP Try.func39 rfl (by kernel_rfl) [.tmp 4] rfl (by kernel_rfl) (Nat.le_of_ble_eq_true rfl) (.l .n (.l (.l .n (.l .n (.l (.c .n .n) .n))) .n)) rfl ?_
  unfold laws_markIntS.f at H
  conv => whnf
  refine laws_markIntS.l0_lp (l0 := l0) (k := k) H [] (fits_of ⟨.inl ⟨rfl, rfl⟩, ⟨.inl ⟨rfl, rfl⟩, trivial⟩⟩ trivial fi_ ⟨⟨_, rfl⟩, rfl, trivial⟩ rfl) ?_
  intro k x1 x5 x1000 hk H; rcases k with _ | k; exact none_elim H; rw [laws_markIntS.l0] at H; conv => whnf
  refine chk_ H (fun c H => ?_)
  refine br_d H (fun c H => ?_) (fun c H => ?_)
  conv => whnf
  refine nd_ H (fun c H => ?_)
  conv => whnf
  refine Nd.mk nf_ ?_
  conv => whnf
  refine El.mk (rdm_en_i64 _ _ nf_ nf_) ?_
  conv => whnf
  refine cut_ 89 [(0, .own 0 l0.length), (1, .int .i64 x1), (5, .int .i64 x5)] [(0, .arr 3 1 ((x1000.set (x5).toNat x1).map en_i64))] rfl ⟨.inl rfl, ⟨.inl rfl, ⟨.inl rfl, trivial⟩⟩⟩ ⟨fm_, trivial⟩ ?_
  conv => whnf
  exact ⟨(k, wrap64 (x1 + 1), wrap64 (x5 + 1), (x1000.set (x5).toNat x1)), [], ⟨H, lt_⟩, lt_, (fits_of ⟨.inl ⟨rfl, rfl⟩, ⟨.inl ⟨rfl, rfl⟩, trivial⟩⟩ trivial fi_ ⟨⟨_, rfl⟩, rfl, trivial⟩ rfl)⟩
  conv => whnf
  injection H with H; subst H
  exact ret_gen [some 0] [] ((rtA_eq rfl)) ⟨rfl, trivial⟩ rfl
theorem laws_heldIntS.l0_lp {F : (Exit → St → Prop) → St → Prop} {hv : List Tmp} {Q : Exit → St → Prop} {σ : St} {r : Int} {k : Nat} {l0 : List Int} {x1 : Int} {x5 : Int} (H : laws_heldIntS.l0 k l0 x1 x5 = some r) (rn : List (Option Nat)) (h1 : Fits σ σ [] [(1, .int .i64 x1), (5, .int .i64 x5)] [] [] rn)
    (h2 : ∀ (k0 : Nat) (x1 : Int) (x5 : Int), k0 < k + 1 → laws_heldIntS.l0 k0 l0 x1 x5 = some r → headN σ hv [] [(1, .int .i64 x1), (5, .int .i64 x5)] [] [] (F (fun e σ' => match e with | .normal => ∃ (y : Nat × Int × Int) (rn : List (Option Nat)), (laws_heldIntS.l0 y.1 l0 y.2.1 y.2.2 = some r ∧ y.1 < k + 1) ∧ y.1 < k0 ∧ Fits σ σ' [] [(1, .int .i64 y.2.1), (5, .int .i64 y.2.2)] [] [] rn | e => Q e σ'))) : Lp F hv Q σ := by
  unfold Lp
  refine ⟨Nat × Int × Int, fun x => laws_heldIntS.l0 x.1 l0 x.2.1 x.2.2 = some r ∧ x.1 < k + 1, fun x => x.1, [], fun x => [(1, .int .i64 x.2.1), (5, .int .i64 x.2.2)], fun x => [], fun x => [], ⟨(k, x1, x5), rn, ⟨H, Nat.lt_succ_self _⟩, h1⟩, ?_⟩
  rintro ⟨k, x1, x5⟩ ⟨H, hk⟩
  exact h2 k x1 x5 hk H
theorem laws_heldIntS.ac {k : Nat} {l0 : List Int} {a1 : Int} {r : Int} (H : laws_heldIntS.f k l0 a1 = some r) : ACalls Try.prog G 40 [] [(sv_i64 l0), .int .i64 a1] [] (.int .i64 r) := by
  refine acalls_of tok hP Try.func40 rfl (by kernel_rfl) [.tmp 4] rfl (by kernel_rfl) (Nat.le_of_ble_eq_true rfl) (.l .n (.l (.l .n (.l .n (.l (.l (.c .n .n) .n) .n))) .n)) rfl ?_
  unfold laws_heldIntS.f at H
  conv => whnf
  refine laws_heldIntS.l0_lp (l0 := l0) (k := k) H [] (fits_of ⟨.inl ⟨rfl, rfl⟩, ⟨.inl ⟨rfl, rfl⟩, trivial⟩⟩ trivial fi_ trivial rfl) ?_
  intro k x1 x5 hk H; rcases k with _ | k; exact none_elim H; rw [laws_heldIntS.l0] at H; conv => whnf
  refine br_d H (fun c H => ?_) (fun c H => ?_)
  conv => whnf
  refine nd_ H (fun c H => ?_)
  conv => whnf
  refine Nd.mk nf_ ?_
  conv => whnf
  refine El.mk (rdm_en_i64 _ _ nf_ nf_) ?_
  conv => whnf
  refine cut_ 96 [(0, (sv_i64 l0)), (1, .int .i64 x1), (5, .int .i64 x5), (17, .bool (!(decide ((rd l0 x5) = x1))))] [] rfl ⟨.inl rfl, ⟨.inl rfl, ⟨.inl rfl, ⟨.inl rfl, trivial⟩⟩⟩⟩ trivial ?_
  conv => whnf
  refine br_nd H (fun c H => ?_) (fun c H => ?_)
  conv => whnf
  exact ⟨(k, wrap64 (x1 + 1), wrap64 (x5 + 1)), [], ⟨H, lt_⟩, lt_, (fits_of ⟨.inl ⟨rfl, rfl⟩, ⟨.inl ⟨rfl, rfl⟩, trivial⟩⟩ trivial fi_ trivial rfl)⟩
  conv => whnf
  injection H with H; subst H
  exact ret_fz [] (rtA_eq rfl)
  conv => whnf
  injection H with H; subst H
  exact ret_fz [] (rtA_eq rfl)

end Go.Proofs.Ytamkmmkchdnkmaa.CH

