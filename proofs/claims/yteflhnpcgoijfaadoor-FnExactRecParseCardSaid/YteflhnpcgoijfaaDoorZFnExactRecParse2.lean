import Derived.Test.YteflhnpcgoijfaaDoorZFnExactRecParse1
import Derived.Shelf.Lay
import Derived.Test.YteflhnpcgoijfaaDoorProg
import Derived.KernelRfl
set_option linter.unusedVariables false
set_option linter.unusedSimpArgs false
namespace Go.Proofs.YteflhnpcgoijfaaDoor.RX
open Go Go.Aw Go.RowKit Go.Proofs
set_option maxRecDepth 100000
set_option maxHeartbeats 40000000
variable {G : Nat → Option Obj}
attribute [local irreducible] callE Lp Sq Cut RetOk Fits
theorem impl_RecParse.acO [GvOk G] {k : Nat} {a0 : ByteArray} {r : (List S_impl_RecPhase) × Int × Int} (H : impl_RecParse.f k a0 = some r) : ACalls Tryd.prog G 27 [] [.str a0] [.arr 73 8 (r.1.map en_S_impl_RecPhase)] (.tup [.own 0 r.1.length, .agg [.int .i64 r.2.1, .int .i64 r.2.2]]) := by
  refine acalls_of tok hP Tryd.func27 rfl (by kernel_rfl) [.tmp 2, .cell 3 54] rfl (by kernel_rfl) (Nat.le_of_ble_eq_true rfl) (.l .n (.l .n (.l (.c .n (.l (.c .n .n) .n)) (.l .n (.l .n (.l (.l .n (.l .n (.l .n (.l (.c .n (.l .n (.l (.l .n (.l (.c .n .n) .n)) (.l (.c .n .n) (.l .n (.l .n (.l (.c .n (.l .n (.l .n (.l .n (.c .n .n))))) (.l (.l .n (.l (.c .n .n) .n)) .n)))))))) .n)))) (.l (.l .n (.c .n (.l .n (.l (.l .n (.c .n (.l .n (.l .n (.l (.l .n (.c .n (.l (.c .n .n) .n))) .n))))) .n)))) .n))))))) rfl ?_
  unfold impl_RecParse.f at H
  conv => whnf
  revert H; refine bind_elim (fun t729 A H => ?_)
  refine call_mk (impl_cutLines.ac A) (avAL_cons (avA_shut' rfl) (avAL_nil)) (Or.inl rfl) rfl rfl (Nat.le_of_ble_eq_true rfl) ?_
  conv => whnf
  refine br_d H (fun c H => ?_) (fun c H => ?_)
  conv => whnf
  refine Br.t ft_ ?_
  conv => whnf
  refine Br.t ft_ ?_
  conv => whnf
  refine Br.t ft_ ?_
  conv => whnf
  refine cut_ 104 [(3, .bp 8 0), (4, (sv_str t729)), (26, .bool true)] [(8, .box [.int .i64 0, .int .i64 0])] rfl ⟨.inl rfl, ⟨.inl rfl, ⟨.inl rfl, trivial⟩⟩⟩ ⟨rfl, trivial⟩ ?_
  conv => whnf
  refine Br.t rfl ?_
  conv => whnf
  refine cut_ 128 [(2, .nil), (3, .bp 8 0)] [(8, .box [.int .i64 0, .int .i64 7])] rfl ⟨.inl rfl, ⟨.inl rfl, trivial⟩⟩ ⟨rfl, trivial⟩ ?_
  conv => whnf
  injection H with H; subst H
  exact ret_gen [none] [] (⟨_, rfl, rtAL_cons (⟨rfl, rfl⟩) (rtAL_cons (rtA_agg (rtL_cons (rt_eq rfl) (rtL_cons (rt_eq rfl) (rtL_nil)))) (rtAL_nil))⟩) ⟨⟨_, _, rfl⟩, trivial⟩ rfl
  conv => whnf
  refine Br.f ff_ ?_
  conv => whnf
  refine Br.f ff_ ?_
  conv => whnf
  refine Br.f ff_ ?_
  conv => whnf
  refine cut_ 104 [(3, .bp 8 0), (4, (sv_str t729)), (26, .bool (decide ((t729.length : Int) > 60)))] [(8, .box [.int .i64 0, .int .i64 0])] rfl ⟨.inl rfl, ⟨.inl rfl, ⟨.inl rfl, trivial⟩⟩⟩ ⟨rfl, trivial⟩ ?_
  conv => whnf
  refine br_d H (fun c H => ?_) (fun c H => ?_)
  conv => whnf
  refine cut_ 128 [(2, .nil), (3, .bp 8 0)] [(8, .box [.int .i64 0, .int .i64 7])] rfl ⟨.inl rfl, ⟨.inl rfl, trivial⟩⟩ ⟨rfl, trivial⟩ ?_
  conv => whnf
  injection H with H; subst H
  exact ret_gen [none] [] (⟨_, rfl, rtAL_cons (⟨rfl, rfl⟩) (rtAL_cons (rtA_agg (rtL_cons (rt_eq rfl) (rtL_cons (rt_eq rfl) (rtL_nil)))) (rtAL_nil))⟩) ⟨⟨_, _, rfl⟩, trivial⟩ rfl
  conv => whnf
  refine impl_RecParse.l0_lpO (t729 := t729) (k := k) H [none, none] (fits_of ⟨⟨rfl, rfl⟩, ⟨⟨rfl, rfl⟩, ⟨.inl ⟨rfl, rfl⟩, trivial⟩⟩⟩ ⟨⟨_, _, rfl⟩, ⟨⟨_, _, rfl⟩, trivial⟩⟩ fi_ trivial rfl) ?_
  intro k x5 x6 x30 hk H; rcases k with _ | k; exact none_elim H; rw [impl_RecParse.l0] at H; conv => whnf
  refine br_d H (fun c H => ?_) (fun c H => ?_)
  conv => whnf
  refine nd_ H (fun c H => ?_)
  conv => whnf
  refine Nd.mk nf_ ?_
  conv => whnf
  refine El.mk (rdm_en_str _ _ nf_ nf_) ?_
  conv => whnf
  refine cut_ 194 [(3, .bp 8 0), (5, .own 144 x5.length), (6, .own 145 x6.length), (7, .int .i64 x30), (8, .str (rdOf ByteArray.empty t729 x30)), (28, (sv_str t729)), (29, .int .i64 (t729.length : Int)), (30, .int .i64 x30)] [(8, .box [.int .i64 0, .int .i64 0]), (144, .arr 73 8 (x5.map en_S_impl_RecPhase)), (145, .arr 3 1 (x6.map en_i64))] rfl ⟨.inl rfl, ⟨.inl rfl, ⟨.inl rfl, ⟨.inl rfl, ⟨.inl rfl, ⟨.inl rfl, ⟨.inl rfl, ⟨.inl rfl, trivial⟩⟩⟩⟩⟩⟩⟩⟩ ⟨rfl, ⟨rfl, ⟨rfl, trivial⟩⟩⟩ ?_
  conv => whnf
  revert H; refine bind_elim (fun t750 A H => ?_)
  refine call_mk (impl_cutWords.ac A) (avAL_cons (avA_shut' rfl) (avAL_nil)) (Or.inl rfl) rfl rfl (Nat.le_of_ble_eq_true rfl) ?_
  conv => whnf
  refine br_nt H (fun c H => ?_) (fun c H => ?_)
  conv => whnf
  refine cut_ 290 [(3, .bp 8 0), (5, .own 144 x5.length), (6, .own 145 x6.length), (7, .int .i64 x30), (9, (sv_str t750.1)), (28, (sv_str t729)), (29, .int .i64 (t729.length : Int)), (30, .int .i64 x30), (47, .bool (decide ((t750.1.length : Int) = 0)))] [(8, .box [.int .i64 0, .int .i64 0]), (144, .arr 73 8 (x5.map en_S_impl_RecPhase)), (145, .arr 3 1 (x6.map en_i64))] rfl ⟨.inl rfl, ⟨.inl rfl, ⟨.inl rfl, ⟨.inl rfl, ⟨.inl rfl, ⟨.inl rfl, ⟨.inl rfl, ⟨.inl rfl, ⟨.inl rfl, trivial⟩⟩⟩⟩⟩⟩⟩⟩⟩ ⟨rfl, ⟨rfl, ⟨rfl, trivial⟩⟩⟩ ?_
  conv => whnf
  refine br_d H (fun c H => ?_) (fun c H => ?_)
  conv => whnf
  exact ⟨(k, x5, x6, wrap64 (x30 + 1)), [some 144, some 145], ⟨H, lt_⟩, lt_, (fits_of ⟨rfl, ⟨rfl, ⟨.inl ⟨rfl, rfl⟩, trivial⟩⟩⟩ ⟨rfl, ⟨rfl, trivial⟩⟩ fi_ trivial rfl)⟩
  conv => whnf
  revert H; refine bind_elim (fun t751 A H => ?_)
  refine call_mk (impl_phaseOf.ac A) (avAL_cons (avA_shut' rfl) (avAL_nil)) (Or.inl rfl) rfl rfl (Nat.le_of_ble_eq_true rfl) ?_
  conv => whnf
  refine cut_ 386 [(3, .bp 8 0), (5, .own 144 x5.length), (6, .own 145 x6.length), (7, .int .i64 x30), (11, .bp 330 0), (12, .int .i64 0), (28, (sv_str t729)), (29, .int .i64 (t729.length : Int)), (30, .int .i64 x30), (53, .bool (!t751.2.2.2.2.2.2.2.2))] [(8, .box [.int .i64 0, .int .i64 0]), (144, .arr 73 8 (x5.map en_S_impl_RecPhase)), (145, .arr 3 1 (x6.map en_i64)), (330, .box [.str t751.1, .int .i64 t751.2.1, .str t751.2.2.1, .str t751.2.2.2.1, .int .i64 t751.2.2.2.2.1, .int .i64 t751.2.2.2.2.2.1, .str t751.2.2.2.2.2.2.1, .str t751.2.2.2.2.2.2.2.1])] rfl ⟨.inl rfl, ⟨.inl rfl, ⟨.inl rfl, ⟨.inl rfl, ⟨.inl rfl, ⟨.inl rfl, ⟨.inl rfl, ⟨.inl rfl, ⟨.inl rfl, ⟨.inl rfl, trivial⟩⟩⟩⟩⟩⟩⟩⟩⟩⟩ ⟨rfl, ⟨rfl, ⟨rfl, ⟨rfl, trivial⟩⟩⟩⟩ ?_
  conv => whnf
  refine br_nt H (fun c H => ?_) (fun c H => ?_)
  conv => whnf
  revert H; refine bind_elim (fun t752 A H => ?_)
  refine call_mk (impl_phase.ac A) (avAL_cons (avA_own rfl rfl) (avAL_cons (avA_shut' rfl) (avAL_nil))) (Or.inr ⟨rfl, bo_nil⟩) rfl rfl (Nat.le_of_ble_eq_true rfl) ?_
  conv => whnf
  refine br_d H (fun c H => ?_) (fun c H => ?_)
  conv => whnf
  refine Br.t (by decide) ?_
  conv => whnf
  refine cut_ 506 [(2, .nil), (3, .bp 8 0)] [(8, .box [.int .i64 (wrap64 (x30 + 1)), .int .i64 3])] rfl ⟨.inl rfl, ⟨.inl rfl, trivial⟩⟩ ⟨rfl, trivial⟩ ?_
  conv => whnf
  injection H with H; subst H
  exact ret_gen [none] [] (⟨_, rfl, rtAL_cons (⟨rfl, rfl⟩) (rtAL_cons (rtA_agg (rtL_cons (rt_eq rfl) (rtL_cons (rt_eq rfl) (rtL_nil)))) (rtAL_nil))⟩) ⟨⟨_, _, rfl⟩, trivial⟩ rfl
  conv => whnf
  refine cut_ 466 [(3, .bp 8 0), (5, .own 144 x5.length), (6, .own 145 x6.length), (7, .int .i64 x30), (11, .bp 330 0), (12, .int .i64 0), (28, (sv_str t729)), (29, .int .i64 (t729.length : Int)), (30, .int .i64 x30), (62, .bool (decide ((x5.length : Int) ≥ 12)))] [(8, .box [.int .i64 0, .int .i64 0]), (144, .arr 73 8 (x5.map en_S_impl_RecPhase)), (145, .arr 3 1 (x6.map en_i64)), (330, .box [.str t751.1, .int .i64 t751.2.1, .str t751.2.2.1, .str t751.2.2.2.1, .int .i64 t751.2.2.2.2.1, .int .i64 t751.2.2.2.2.2.1, .str t751.2.2.2.2.2.2.1, .str t751.2.2.2.2.2.2.2.1])] rfl ⟨.inl rfl, ⟨.inl rfl, ⟨.inl rfl, ⟨.inl rfl, ⟨.inl rfl, ⟨.inl rfl, ⟨.inl rfl, ⟨.inl rfl, ⟨.inl rfl, ⟨.inl rfl, trivial⟩⟩⟩⟩⟩⟩⟩⟩⟩⟩ ⟨rfl, ⟨rfl, ⟨rfl, ⟨rfl, trivial⟩⟩⟩⟩ ?_
  conv => whnf
  refine br_d H (fun c H => ?_) (fun c H => ?_)
  conv => whnf
  refine Br.t (by decide) ?_
  conv => whnf
  refine cut_ 538 [(2, .nil), (3, .bp 8 0)] [(8, .box [.int .i64 (wrap64 (x30 + 1)), .int .i64 5])] rfl ⟨.inl rfl, ⟨.inl rfl, trivial⟩⟩ ⟨rfl, trivial⟩ ?_
  conv => whnf
  injection H with H; subst H
  exact ret_gen [none] [] (⟨_, rfl, rtAL_cons (⟨rfl, rfl⟩) (rtAL_cons (rtA_agg (rtL_cons (rt_eq rfl) (rtL_cons (rt_eq rfl) (rtL_nil)))) (rtAL_nil))⟩) ⟨⟨_, _, rfl⟩, trivial⟩ rfl
  conv => whnf
  refine Br.f (by decide) ?_
  conv => whnf
  refine Or.inl ?_
  conv => whnf
  refine nd_ H (fun c H => ?_)
  conv => whnf
  refine Or.inl ?_
  conv => whnf
  refine nd_ H (fun c H => ?_)
  conv => whnf
  exact ⟨(k, (x5 ++ ([(⟨t751.1, t751.2.1, t751.2.2.1, t751.2.2.2.1, t751.2.2.2.2.1, t751.2.2.2.2.2.1, t751.2.2.2.2.2.2.1, t751.2.2.2.2.2.2.2.1⟩ : S_impl_RecPhase)] : List S_impl_RecPhase)), (x6 ++ ([wrap64 (x30 + 1)] : List Int)), wrap64 (x30 + 1)), [some 506, some 546], ⟨H, lt_⟩, lt_, (fits_of ⟨mt_own lm_, ⟨mt_own lm_, ⟨.inl ⟨rfl, rfl⟩, trivial⟩⟩⟩ ⟨fm_, ⟨fm_, trivial⟩⟩ fi_ trivial rfl)⟩
  conv => whnf
  refine Br.t (by decide) ?_
  conv => whnf
  refine cut_ 458 [(2, .nil), (3, .bp 8 0)] [(8, .box [.int .i64 (wrap64 (x30 + 1)), .int .i64 2])] rfl ⟨.inl rfl, ⟨.inl rfl, trivial⟩⟩ ⟨rfl, trivial⟩ ?_
  conv => whnf
  injection H with H; subst H
  exact ret_gen [none] [] (⟨_, rfl, rtAL_cons (⟨rfl, rfl⟩) (rtAL_cons (rtA_agg (rtL_cons (rt_eq rfl) (rtL_cons (rt_eq rfl) (rtL_nil)))) (rtAL_nil))⟩) ⟨⟨_, _, rfl⟩, trivial⟩ rfl
  conv => whnf
  refine cut_ 306 [(2, .nil), (3, .bp 8 0)] [(8, .box [.int .i64 (wrap64 (x30 + 1)), .int .i64 1])] rfl ⟨.inl rfl, ⟨.inl rfl, trivial⟩⟩ ⟨rfl, trivial⟩ ?_
  conv => whnf
  injection H with H; subst H
  exact ret_gen [none] [] (⟨_, rfl, rtAL_cons (⟨rfl, rfl⟩) (rtAL_cons (rtA_agg (rtL_cons (rt_eq rfl) (rtL_cons (rt_eq rfl) (rtL_nil)))) (rtAL_nil))⟩) ⟨⟨_, _, rfl⟩, trivial⟩ rfl
  conv => whnf
  refine impl_RecParse.l1_lpO (x5 := x5) (x6 := x6) (k := k) H [] (fits_of ⟨.inl ⟨rfl, rfl⟩, trivial⟩ trivial fi_ trivial rfl) ?_
  intro k x84 hk H; rcases k with _ | k; exact none_elim H; rw [impl_RecParse.l1] at H; conv => whnf
  refine cut_ 186 [(3, .bp 8 0), (5, .own 144 x5.length), (6, .own 145 x6.length), (82, .own 144 x5.length), (83, .int .i64 (x5.length : Int)), (84, .int .i64 x84), (85, .bool (decide (x84 < (x5.length : Int))))] [(8, .box [.int .i64 0, .int .i64 0]), (144, .arr 73 8 (x5.map en_S_impl_RecPhase)), (145, .arr 3 1 (x6.map en_i64))] rfl ⟨.inl rfl, ⟨.inl rfl, ⟨.inl rfl, ⟨.inl rfl, ⟨.inl rfl, ⟨.inl rfl, ⟨.inl rfl, trivial⟩⟩⟩⟩⟩⟩⟩ ⟨rfl, ⟨rfl, ⟨rfl, trivial⟩⟩⟩ ?_
  conv => whnf
  refine br_d H (fun c H => ?_) (fun c H => ?_)
  conv => whnf
  refine nd_ H (fun c H => ?_)
  conv => whnf
  refine Nd.mk nf_ ?_
  conv => whnf
  refine El.mk (rdm_en_S_impl_RecPhase _ _ nf_ nf_) ?_
  conv => whnf
  refine Or.inl ?_
  conv => whnf
  refine cut_ 290 [(3, .bp 8 0), (5, .own 144 x5.length), (6, .own 145 x6.length), (13, .int .i64 x84), (82, .own 144 x5.length), (83, .int .i64 (x5.length : Int)), (84, .int .i64 x84), (93, .own 266 2), (94, .int .i64 2), (95, .int .i64 0)] [(8, .box [.int .i64 0, .int .i64 0]), (144, .arr 73 8 (x5.map en_S_impl_RecPhase)), (145, .arr 3 1 (x6.map en_i64)), (266, .arr 9 1 (([(rd_impl_RecPhase x5 x84).f6, (rd_impl_RecPhase x5 x84).f7] : List ByteArray).map en_str))] rfl ⟨.inl rfl, ⟨.inl rfl, ⟨.inl rfl, ⟨.inl rfl, ⟨.inl rfl, ⟨.inl rfl, ⟨.inl rfl, ⟨.inl rfl, ⟨.inl rfl, ⟨.inl rfl, trivial⟩⟩⟩⟩⟩⟩⟩⟩⟩⟩ ⟨rfl, ⟨rfl, ⟨rfl, ⟨fm_, trivial⟩⟩⟩⟩ ?_
  conv => whnf
  refine impl_RecParse.l2_lpO (x5 := x5) (x6 := x6) (x84 := x84) (k := k) H [] (fits_of ⟨.inl ⟨rfl, rfl⟩, trivial⟩ trivial fi_ trivial rfl) ?_
  intro k x95 hk H; rcases k with _ | k; exact none_elim H; rw [impl_RecParse.l2] at H; conv => whnf
  refine br_d H (fun c H => ?_) (fun c H => ?_)
  conv => whnf
  refine nd_ H (fun c H => ?_)
  conv => whnf
  refine nd_ H (fun c H => ?_)
  conv => whnf
  refine El.mk (rdm_en_str _ _ nf_ nf_) ?_
  conv => whnf
  revert H; refine bind_elim (fun t761 A H => ?_)
  refine call_mk (impl_RecEnd.ac A) (avAL_cons (avA_shut' rfl) (avAL_nil)) (Or.inl rfl) rfl rfl (Nat.le_of_ble_eq_true rfl) ?_
  conv => whnf
  refine br_d H (fun c H => ?_) (fun c H => ?_)
  conv => whnf
  refine Br.t ft_ ?_
  conv => whnf
  refine Br.t ft_ ?_
  conv => whnf
  revert H; refine bind_elim (fun t762 A H => ?_)
  refine call_mk (impl_phase.ac A) (avAL_cons (avA_own rfl rfl) (avAL_cons (avA_shut' rfl) (avAL_nil))) (Or.inr ⟨rfl, bo_nil⟩) rfl rfl (Nat.le_of_ble_eq_true rfl) ?_
  conv => whnf
  refine Br.t ft_ ?_
  conv => whnf
  refine Br.t ft_ ?_
  conv => whnf
  refine Br.t ft_ ?_
  conv => whnf
  refine cut_ 402 [(3, .bp 8 0), (5, .own 144 x5.length), (6, .own 145 x6.length), (13, .int .i64 x84), (82, .own 144 x5.length), (83, .int .i64 (x5.length : Int)), (84, .int .i64 x84), (93, .own 266 2), (94, .int .i64 2), (95, .int .i64 x95), (108, .bool (decide (t762 ≤ x84)))] [(8, .box [.int .i64 0, .int .i64 0]), (144, .arr 73 8 (x5.map en_S_impl_RecPhase)), (145, .arr 3 1 (x6.map en_i64)), (266, .arr 9 1 (([(rd_impl_RecPhase x5 x84).f6, (rd_impl_RecPhase x5 x84).f7] : List ByteArray).map en_str))] rfl ⟨.inl rfl, ⟨.inl rfl, ⟨.inl rfl, ⟨.inl rfl, ⟨.inl rfl, ⟨.inl rfl, ⟨.inl rfl, ⟨.inl rfl, ⟨.inl rfl, ⟨.inl rfl, ⟨.inl rfl, trivial⟩⟩⟩⟩⟩⟩⟩⟩⟩⟩⟩ ⟨rfl, ⟨rfl, ⟨rfl, ⟨rfl, trivial⟩⟩⟩⟩ ?_
  conv => whnf
  refine br_d H (fun c H => ?_) (fun c H => ?_)
  conv => whnf
  refine Nd.mk nf_ ?_
  conv => whnf
  refine nd_ H (fun c H => ?_)
  conv => whnf
  refine El.mk (rdm_en_i64 _ _ nf_ nf_) ?_
  conv => whnf
  refine cut_ 458 [(2, .nil), (3, .bp 8 0)] [(8, .box [.int .i64 (rd x6 x84), .int .i64 4])] rfl ⟨.inl rfl, ⟨.inl rfl, trivial⟩⟩ ⟨rfl, trivial⟩ ?_
  conv => whnf
  injection H with H; subst H
  exact ret_gen [none] [] (⟨_, rfl, rtAL_cons (⟨rfl, rfl⟩) (rtAL_cons (rtA_agg (rtL_cons (rt_eq rfl) (rtL_cons (rt_eq rfl) (rtL_nil)))) (rtAL_nil))⟩) ⟨⟨_, _, rfl⟩, trivial⟩ rfl
  conv => whnf
  exact ⟨(k, wrap64 (x95 + 1)), [], ⟨H, lt_⟩, lt_, (fits_of ⟨.inl ⟨rfl, rfl⟩, trivial⟩ trivial fi_ trivial rfl)⟩
  conv => whnf
  refine Br.f ff_ ?_
  conv => whnf
  refine Br.f ff_ ?_
  conv => whnf
  refine Br.f ff_ ?_
  conv => whnf
  refine Br.f ff_ ?_
  conv => whnf
  refine Br.f ff_ ?_
  conv => whnf
  refine cut_ 402 [(3, .bp 8 0), (5, .own 144 x5.length), (6, .own 145 x6.length), (13, .int .i64 x84), (82, .own 144 x5.length), (83, .int .i64 (x5.length : Int)), (84, .int .i64 x84), (93, .own 266 2), (94, .int .i64 2), (95, .int .i64 x95), (108, .bool false)] [(8, .box [.int .i64 0, .int .i64 0]), (144, .arr 73 8 (x5.map en_S_impl_RecPhase)), (145, .arr 3 1 (x6.map en_i64)), (266, .arr 9 1 (([(rd_impl_RecPhase x5 x84).f6, (rd_impl_RecPhase x5 x84).f7] : List ByteArray).map en_str))] rfl ⟨.inl rfl, ⟨.inl rfl, ⟨.inl rfl, ⟨.inl rfl, ⟨.inl rfl, ⟨.inl rfl, ⟨.inl rfl, ⟨.inl rfl, ⟨.inl rfl, ⟨.inl rfl, ⟨.inl rfl, trivial⟩⟩⟩⟩⟩⟩⟩⟩⟩⟩⟩ ⟨rfl, ⟨rfl, ⟨rfl, ⟨rfl, trivial⟩⟩⟩⟩ ?_
  conv => whnf
  refine Br.f rfl ?_
  conv => whnf
  exact ⟨(k, wrap64 (x95 + 1)), [], ⟨H, lt_⟩, lt_, (fits_of ⟨.inl ⟨rfl, rfl⟩, trivial⟩ trivial fi_ trivial rfl)⟩
  conv => whnf
  exact ⟨(k, wrap64 (x84 + 1)), [], ⟨H, lt_⟩, lt_, (fits_of ⟨.inl ⟨rfl, rfl⟩, trivial⟩ trivial fi_ trivial rfl)⟩
  conv => whnf
  refine br_d H (fun c H => ?_) (fun c H => ?_)
  conv => whnf
  injection H with H; subst H
  exact ret_gen [none] [] (⟨_, rfl, rtAL_cons (⟨rfl, rfl⟩) (rtAL_cons (rtA_agg (rtL_cons (rt_eq rfl) (rtL_cons (rt_eq rfl) (rtL_nil)))) (rtAL_nil))⟩) ⟨⟨_, _, rfl⟩, trivial⟩ rfl
  conv => whnf
  injection H with H; subst H
  exact ret_gen [some 144] [] (⟨_, rfl, rtAL_cons (rfl) (rtAL_cons (rtA_agg (rtL_cons (rt_eq rfl) (rtL_cons (rt_eq rfl) (rtL_nil)))) (rtAL_nil))⟩) ⟨rfl, trivial⟩ rfl
theorem laws_eqRecPhase.ac {a0_0 : ByteArray} {a0_1 : Int} {a0_2 : ByteArray} {a0_3 : ByteArray} {a0_4 : Int} {a0_5 : Int} {a0_6 : ByteArray} {a0_7 : ByteArray} {a1_0 : ByteArray} {a1_1 : Int} {a1_2 : ByteArray} {a1_3 : ByteArray} {a1_4 : Int} {a1_5 : Int} {a1_6 : ByteArray} {a1_7 : ByteArray} {r : Bool} (H : laws_eqRecPhase.f a0_0 a0_1 a0_2 a0_3 a0_4 a0_5 a0_6 a0_7 a1_0 a1_1 a1_2 a1_3 a1_4 a1_5 a1_6 a1_7 = some r) : ACalls Tryd.prog G 49 [] [.agg [.str a0_0, .int .i64 a0_1, .str a0_2, .str a0_3, .int .i64 a0_4, .int .i64 a0_5, .str a0_6, .str a0_7], .agg [.str a1_0, .int .i64 a1_1, .str a1_2, .str a1_3, .int .i64 a1_4, .int .i64 a1_5, .str a1_6, .str a1_7]] [] (.bool r) := by
  refine acalls_of tok hP Tryd.func49 rfl (by kernel_rfl) [.tmp 4] rfl (by kernel_rfl) (Nat.le_of_ble_eq_true rfl) (.l .n (.l .n (.l (.c .n .n) (.l .n (.l (.c .n .n) (.l .n (.l (.c .n .n) (.l .n (.l (.c .n .n) .n))))))))) rfl ?_
  unfold laws_eqRecPhase.f at H
  conv => whnf
  refine br_nd H (fun c H => ?_) (fun c H => ?_)
  conv => whnf
  refine cut_ 104 [(2, .bp 0 0), (3, .bp 8 0), (14, .bool (!(decide (a0_1 = a1_1))))] [(0, .box [.str a0_0, .int .i64 a0_1, .str a0_2, .str a0_3, .int .i64 a0_4, .int .i64 a0_5, .str a0_6, .str a0_7]), (8, .box [.str a1_0, .int .i64 a1_1, .str a1_2, .str a1_3, .int .i64 a1_4, .int .i64 a1_5, .str a1_6, .str a1_7])] rfl ⟨.inl rfl, ⟨.inl rfl, ⟨.inl rfl, trivial⟩⟩⟩ ⟨rfl, ⟨rfl, trivial⟩⟩ ?_
  conv => whnf
  refine br_nd H (fun c H => ?_) (fun c H => ?_)
  conv => whnf
  refine br_nd H (fun c H => ?_) (fun c H => ?_)
  conv => whnf
  refine cut_ 184 [(2, .bp 0 0), (3, .bp 8 0), (24, .bool (!(decide (a0_3.toList = a1_3.toList))))] [(0, .box [.str a0_0, .int .i64 a0_1, .str a0_2, .str a0_3, .int .i64 a0_4, .int .i64 a0_5, .str a0_6, .str a0_7]), (8, .box [.str a1_0, .int .i64 a1_1, .str a1_2, .str a1_3, .int .i64 a1_4, .int .i64 a1_5, .str a1_6, .str a1_7])] rfl ⟨.inl rfl, ⟨.inl rfl, ⟨.inl rfl, trivial⟩⟩⟩ ⟨rfl, ⟨rfl, trivial⟩⟩ ?_
  conv => whnf
  refine br_nd H (fun c H => ?_) (fun c H => ?_)
  conv => whnf
  refine br_nd H (fun c H => ?_) (fun c H => ?_)
  conv => whnf
  refine cut_ 264 [(2, .bp 0 0), (3, .bp 8 0), (34, .bool (!(decide (a0_5 = a1_5))))] [(0, .box [.str a0_0, .int .i64 a0_1, .str a0_2, .str a0_3, .int .i64 a0_4, .int .i64 a0_5, .str a0_6, .str a0_7]), (8, .box [.str a1_0, .int .i64 a1_1, .str a1_2, .str a1_3, .int .i64 a1_4, .int .i64 a1_5, .str a1_6, .str a1_7])] rfl ⟨.inl rfl, ⟨.inl rfl, ⟨.inl rfl, trivial⟩⟩⟩ ⟨rfl, ⟨rfl, trivial⟩⟩ ?_
  conv => whnf
  refine br_nd H (fun c H => ?_) (fun c H => ?_)
  conv => whnf
  refine br_nd H (fun c H => ?_) (fun c H => ?_)
  conv => whnf
  refine cut_ 344 [(44, .bool (!(decide (a0_7.toList = a1_7.toList))))] [] rfl ⟨.inl rfl, trivial⟩ trivial ?_
  conv => whnf
  refine br_nd H (fun c H => ?_) (fun c H => ?_)
  conv => whnf
  injection H with H; subst H
  exact ret_fz [] (rtA_eq rfl)
  conv => whnf
  injection H with H; subst H
  exact ret_fz [] (rtA_eq rfl)
  conv => whnf
  injection H with H; subst H
  exact ret_fz [] (rtA_eq rfl)
  conv => whnf
  injection H with H; subst H
  exact ret_fz [] (rtA_eq rfl)
  conv => whnf
  injection H with H; subst H
  exact ret_fz [] (rtA_eq rfl)
  conv => whnf
  injection H with H; subst H
  exact ret_fz [] (rtA_eq rfl)
  conv => whnf
  injection H with H; subst H
  exact ret_fz [] (rtA_eq rfl)
  conv => whnf
  injection H with H; subst H
  exact ret_fz [] (rtA_eq rfl)
  conv => whnf
  injection H with H; subst H
  exact ret_fz [] (rtA_eq rfl)
theorem laws_eqRecPhaseS.l0_lp {F : (Exit → St → Prop) → St → Prop} {hv : List Tmp} {Q : Exit → St → Prop} {σ : St} {r : Bool} {k : Nat} {l0 : List S_impl_RecPhase} {l1 : List S_impl_RecPhase} {x5 : Int} (H : laws_eqRecPhaseS.l0 k l0 l1 x5 = some r) (rn : List (Option Nat)) (h1 : Fits σ σ [] [(5, .int .i64 x5)] [] [] rn)
    (h2 : ∀ (k0 : Nat) (x5 : Int), k0 < k + 1 → laws_eqRecPhaseS.l0 k0 l0 l1 x5 = some r → headN σ hv [] [(5, .int .i64 x5)] [] [] (F (fun e σ' => match e with | .normal => ∃ (y : Nat × Int) (rn : List (Option Nat)), (laws_eqRecPhaseS.l0 y.1 l0 l1 y.2 = some r ∧ y.1 < k + 1) ∧ y.1 < k0 ∧ Fits σ σ' [] [(5, .int .i64 y.2)] [] [] rn | e => Q e σ'))) : Lp F hv Q σ := by
  unfold Lp
  refine ⟨Nat × Int, fun x => laws_eqRecPhaseS.l0 x.1 l0 l1 x.2 = some r ∧ x.1 < k + 1, fun x => x.1, [], fun x => [(5, .int .i64 x.2)], fun x => [], fun x => [], ⟨(k, x5), rn, ⟨H, Nat.lt_succ_self _⟩, h1⟩, ?_⟩
  rintro ⟨k, x5⟩ ⟨H, hk⟩
  exact h2 k x5 hk H
theorem laws_eqRecPhaseS.ac {k : Nat} {l0 : List S_impl_RecPhase} {l1 : List S_impl_RecPhase} {r : Bool} (H : laws_eqRecPhaseS.f k l0 l1 = some r) : ACalls Tryd.prog G 20 [] [(sv_S_impl_RecPhase l0), (sv_S_impl_RecPhase l1)] [] (.bool r) := by
  refine acalls_of tok hP Tryd.func20 rfl (by kernel_rfl) [.tmp 4] rfl (by kernel_rfl) (Nat.le_of_ble_eq_true rfl) (.l .n (.l .n (.l (.l .n (.l (.c .n .n) (.l (.c .n .n) .n))) .n))) rfl ?_
  unfold laws_eqRecPhaseS.f at H
  conv => whnf
  refine br_nd H (fun c H => ?_) (fun c H => ?_)
  conv => whnf
  refine laws_eqRecPhaseS.l0_lp (l0 := l0) (l1 := l1) (k := k) H [] (fits_of ⟨.inl ⟨rfl, rfl⟩, trivial⟩ trivial fi_ trivial rfl) ?_
  intro k x5 hk H; rcases k with _ | k; exact none_elim H; rw [laws_eqRecPhaseS.l0] at H; conv => whnf
  refine cut_ 88 [(0, (sv_S_impl_RecPhase l0)), (1, (sv_S_impl_RecPhase l1)), (5, .int .i64 x5), (14, .bool (decide (x5 < (l0.length : Int))))] [] rfl ⟨.inl rfl, ⟨.inl rfl, ⟨.inl rfl, ⟨.inl rfl, trivial⟩⟩⟩⟩ trivial ?_
  conv => whnf
  refine br_d H (fun c H => ?_) (fun c H => ?_)
  conv => whnf
  refine nd_ H (fun c H => ?_)
  conv => whnf
  refine Nd.mk nf_ ?_
  conv => whnf
  refine El.mk (rdm_en_S_impl_RecPhase _ _ nf_ nf_) ?_
  conv => whnf
  refine Nd.mk nf_ ?_
  conv => whnf
  refine nd_ H (fun c H => ?_)
  conv => whnf
  refine El.mk (rdm_en_S_impl_RecPhase _ _ nf_ nf_) ?_
  conv => whnf
  revert H; refine bind_elim (fun t657 A H => ?_)
  refine call_mk (laws_eqRecPhase.ac A) (avAL_cons (avA_agg (avL_cons (av_shut' rfl) (avL_cons (av_shut' rfl) (avL_cons (av_shut' rfl) (avL_cons (av_shut' rfl) (avL_cons (av_shut' rfl) (avL_cons (av_shut' rfl) (avL_cons (av_shut' rfl) (avL_cons (av_shut' rfl) (avL_nil)))))))))) (avAL_cons (avA_agg (avL_cons (av_shut' rfl) (avL_cons (av_shut' rfl) (avL_cons (av_shut' rfl) (avL_cons (av_shut' rfl) (avL_cons (av_shut' rfl) (avL_cons (av_shut' rfl) (avL_cons (av_shut' rfl) (avL_cons (av_shut' rfl) (avL_nil)))))))))) (avAL_nil))) (Or.inl rfl) rfl rfl (Nat.le_of_ble_eq_true rfl) ?_
  conv => whnf
  refine cut_ 168 [(0, (sv_S_impl_RecPhase l0)), (1, (sv_S_impl_RecPhase l1)), (5, .int .i64 x5), (26, .bool (!t657))] [] rfl ⟨.inl rfl, ⟨.inl rfl, ⟨.inl rfl, ⟨.inl rfl, trivial⟩⟩⟩⟩ trivial ?_
  conv => whnf
  refine br_nt H (fun c H => ?_) (fun c H => ?_)
  conv => whnf
  exact ⟨(k, wrap64 (x5 + 1)), [], ⟨H, lt_⟩, lt_, (fits_of ⟨.inl ⟨rfl, rfl⟩, trivial⟩ trivial fi_ trivial rfl)⟩
  conv => whnf
  injection H with H; subst H
  exact ret_fz [] (rtA_eq rfl)
  conv => whnf
  injection H with H; subst H
  exact ret_fz [] (rtA_eq rfl)
  conv => whnf
  injection H with H; subst H
  exact ret_fz [] (rtA_eq rfl)
theorem laws_eqRecFault.ac {a0_0 : Int} {a0_1 : Int} {a1_0 : Int} {a1_1 : Int} {r : Bool} (H : laws_eqRecFault.f a0_0 a0_1 a1_0 a1_1 = some r) : ACalls Tryd.prog G 28 [] [.agg [.int .i64 a0_0, .int .i64 a0_1], .agg [.int .i64 a1_0, .int .i64 a1_1]] [] (.bool r) := by
  refine acalls_of tok hP Tryd.func28 rfl (by kernel_rfl) [.tmp 4] rfl (by kernel_rfl) (Nat.le_of_ble_eq_true rfl) (.l .n (.l .n (.l (.c .n .n) .n))) rfl ?_
  unfold laws_eqRecFault.f at H
  conv => whnf
  refine br_nd H (fun c H => ?_) (fun c H => ?_)
  conv => whnf
  refine cut_ 104 [(14, .bool (!(decide (a0_1 = a1_1))))] [] rfl ⟨.inl rfl, trivial⟩ trivial ?_
  conv => whnf
  refine br_nd H (fun c H => ?_) (fun c H => ?_)
  conv => whnf
  injection H with H; subst H
  exact ret_fz [] (rtA_eq rfl)
  conv => whnf
  injection H with H; subst H
  exact ret_fz [] (rtA_eq rfl)
  conv => whnf
  injection H with H; subst H
  exact ret_fz [] (rtA_eq rfl)
theorem laws_markText.l0_lp {F : (Exit → St → Prop) → St → Prop} {hv : List Tmp} {Q : Exit → St → Prop} {σ : St} {r : ByteArray} {k : Nat} {x0 : Int} {x3 : ByteArray} (H : laws_markText.l0 k x0 x3 = some r) (rn : List (Option Nat)) (h1 : Fits σ σ [] [(0, .int .i64 x0), (3, .str x3)] [] [] rn)
    (h2 : ∀ (k0 : Nat) (x0 : Int) (x3 : ByteArray), k0 < k + 1 → laws_markText.l0 k0 x0 x3 = some r → headN σ hv [] [(0, .int .i64 x0), (3, .str x3)] [] [] (F (fun e σ' => match e with | .normal => ∃ (y : Nat × Int × ByteArray) (rn : List (Option Nat)), (laws_markText.l0 y.1 y.2.1 y.2.2 = some r ∧ y.1 < k + 1) ∧ y.1 < k0 ∧ Fits σ σ' [] [(0, .int .i64 y.2.1), (3, .str y.2.2)] [] [] rn | e => Q e σ'))) : Lp F hv Q σ := by
  unfold Lp
  refine ⟨Nat × Int × ByteArray, fun x => laws_markText.l0 x.1 x.2.1 x.2.2 = some r ∧ x.1 < k + 1, fun x => x.1, [], fun x => [(0, .int .i64 x.2.1), (3, .str x.2.2)], fun x => [], fun x => [], ⟨(k, x0, x3), rn, ⟨H, Nat.lt_succ_self _⟩, h1⟩, ?_⟩
  rintro ⟨k, x0, x3⟩ ⟨H, hk⟩
  exact h2 k x0 x3 hk H
theorem laws_markText.ac {k : Nat} {a0 : Int} {r : ByteArray} (H : laws_markText.f k a0 = some r) : ACalls Tryd.prog G 39 [] [.int .i64 a0] [] (.str r) := by
  refine acalls_of tok hP Tryd.func39 rfl (by kernel_rfl) [.tmp 2] rfl (by kernel_rfl) (Nat.le_of_ble_eq_true rfl) (.l .n (.l .n (.l .n (.l (.l .n (.c .n .n)) .n)))) rfl ?_
  unfold laws_markText.f at H
  conv => whnf
  refine br_d H (fun c H => ?_) (fun c H => ?_)
  conv => whnf
  injection H with H; subst H
  exact ret_fz [] (rtA_eq rfl)
  conv => whnf
  refine laws_markText.l0_lp (k := k) H [] (fits_of ⟨.inl ⟨rfl, rfl⟩, ⟨.inl ⟨rfl, rfl⟩, trivial⟩⟩ trivial fi_ trivial rfl) ?_
  intro k x0 x3 hk H; rcases k with _ | k; exact none_elim H; rw [laws_markText.l0] at H; conv => whnf
  refine br_d H (fun c H => ?_) (fun c H => ?_)
  conv => whnf
  refine Nd.mk (by decide) ?_
  conv => whnf
  refine Or.inl ?_
  conv => whnf
  refine nd_ H (fun c H => ?_)
  conv => whnf
  refine cut_ 120 [(0, .int .i64 x0), (3, .str ((⟨#[UInt8.ofNat (IntKind.wrap .u8 (wrap64 (48 + (Int.tmod x0 10)))).toNat]⟩ : ByteArray) ++ x3))] [] rfl ⟨.inl rfl, ⟨.inl rfl, trivial⟩⟩ trivial ?_
  conv => whnf
  refine Nd.mk (by decide) ?_
  conv => whnf
  exact ⟨(k, wrap64 (Int.tdiv x0 10), (⟨#[UInt8.ofNat (IntKind.wrap .u8 (wrap64 (48 + (Int.tmod x0 10)))).toNat]⟩ : ByteArray) ++ x3), [], ⟨H, lt_⟩, lt_, (fits_of ⟨.inl ⟨rfl, rfl⟩, ⟨.inl ⟨rfl, rfl⟩, trivial⟩⟩ trivial fi_ trivial rfl)⟩
  conv => whnf
  refine nd_ H (fun c H => ?_)
  conv => whnf
  injection H with H; subst H
  exact ret_fz [] (rtA_eq rfl)
theorem laws_markRecPhaseS.l0_lp {F : (Exit → St → Prop) → St → Prop} {hv : List Tmp} {Q : Exit → St → Prop} {σ : St} {r : Int × (List S_impl_RecPhase)} {k : Nat} {l0 : List S_impl_RecPhase} {x1 : Int} {x5 : Int} {x1000 : List S_impl_RecPhase} (H : laws_markRecPhaseS.l0 k l0 x1 x5 x1000 = some r) (rn : List (Option Nat)) (h1 : Fits σ σ [0] [(1, .int .i64 x1), (5, .int .i64 x5)] [(0, .arr 73 8 (x1000.map en_S_impl_RecPhase))] [] rn)
    (h2 : ∀ (k0 : Nat) (x1 : Int) (x5 : Int) (x1000 : List S_impl_RecPhase), k0 < k + 1 → laws_markRecPhaseS.l0 k0 l0 x1 x5 x1000 = some r → headN σ hv [0] [(1, .int .i64 x1), (5, .int .i64 x5)] [(0, .arr 73 8 (x1000.map en_S_impl_RecPhase))] [] (F (fun e σ' => match e with | .normal => ∃ (y : Nat × Int × Int × (List S_impl_RecPhase)) (rn : List (Option Nat)), (laws_markRecPhaseS.l0 y.1 l0 y.2.1 y.2.2.1 y.2.2.2 = some r ∧ y.1 < k + 1) ∧ y.1 < k0 ∧ Fits σ σ' [0] [(1, .int .i64 y.2.1), (5, .int .i64 y.2.2.1)] [(0, .arr 73 8 (y.2.2.2.map en_S_impl_RecPhase))] [] rn | e => Q e σ'))) : Lp F hv Q σ := by
  unfold Lp
  refine ⟨Nat × Int × Int × (List S_impl_RecPhase), fun x => laws_markRecPhaseS.l0 x.1 l0 x.2.1 x.2.2.1 x.2.2.2 = some r ∧ x.1 < k + 1, fun x => x.1, [0], fun x => [(1, .int .i64 x.2.1), (5, .int .i64 x.2.2.1)], fun x => [(0, .arr 73 8 (x.2.2.2.map en_S_impl_RecPhase))], fun x => [], ⟨(k, x1, x5, x1000), rn, ⟨H, Nat.lt_succ_self _⟩, h1⟩, ?_⟩
  rintro ⟨k, x1, x5, x1000⟩ ⟨H, hk⟩
  exact h2 k x1 x5 x1000 hk H
theorem laws_markRecPhaseS.ac {k : Nat} {l0 : List S_impl_RecPhase} {a1 : Int} {r : Int × (List S_impl_RecPhase)} (H : laws_markRecPhaseS.f k l0 a1 = some r) : ACalls Tryd.prog G 29 [.arr 73 8 (l0.map en_S_impl_RecPhase)] [.own 0 l0.length, .int .i64 a1] [.arr 73 8 (r.2.map en_S_impl_RecPhase)] (.int .i64 r.1) := by
  refine acalls_of tok hP Tryd.func29 rfl (by kernel_rfl) [.tmp 4] rfl (by kernel_rfl) (Nat.le_of_ble_eq_true rfl) (.l .n (.l (.l .n (.l .n (.c (.c .n (.l .n (.l .n (.c .n (.l .n (.l .n (.c .n (.l .n (.l .n (.c .n (.l .n (.l .n (.c .n .n))))))))))))) .n))) .n)) rfl ?_
  unfold laws_markRecPhaseS.f at H
  conv => whnf
  refine laws_markRecPhaseS.l0_lp (l0 := l0) (k := k) H [] (fits_of ⟨.inl ⟨rfl, rfl⟩, ⟨.inl ⟨rfl, rfl⟩, trivial⟩⟩ trivial fi_ ⟨⟨_, rfl⟩, rfl, trivial⟩ rfl) ?_
  intro k x1 x5 x1000 hk H; rcases k with _ | k; exact none_elim H; rw [laws_markRecPhaseS.l0] at H; conv => whnf
  refine chk_ H (fun c H => ?_)
  refine br_d H (fun c H => ?_) (fun c H => ?_)
  conv => whnf
  revert H; refine bind_elim (fun t713 A H => ?_)
  refine call_mk (laws_markText.ac A) (avAL_cons (avA_shut' rfl) (avAL_nil)) (Or.inl rfl) rfl rfl (Nat.le_of_ble_eq_true rfl) ?_
  conv => whnf
  refine nd_ H (fun c H => ?_)
  conv => whnf
  refine Nd.mk nf_ ?_
  conv => whnf
  refine El.mk (rdm_en_S_impl_RecPhase _ _ nf_ nf_) ?_
  conv => whnf
  refine cut_ 105 [(0, .own 0 l0.length), (1, .int .i64 x1), (5, .int .i64 x5)] [(0, .arr 73 8 ((x1000.set (x5).toNat (⟨t713, (rd_impl_RecPhase x1000 x5).f1, (rd_impl_RecPhase x1000 x5).f2, (rd_impl_RecPhase x1000 x5).f3, (rd_impl_RecPhase x1000 x5).f4, (rd_impl_RecPhase x1000 x5).f5, (rd_impl_RecPhase x1000 x5).f6, (rd_impl_RecPhase x1000 x5).f7⟩ : S_impl_RecPhase)).map en_S_impl_RecPhase))] rfl ⟨.inl rfl, ⟨.inl rfl, ⟨.inl rfl, trivial⟩⟩⟩ ⟨fm_, trivial⟩ ?_
  conv => whnf
  refine Nd.mk nf_ ?_
  conv => whnf
  refine Nd.mk nf_ ?_
  conv => whnf
  refine El.mk (el_of (ys := (x1000.set (x5).toNat (⟨t713, (rd_impl_RecPhase x1000 x5).f1, (rd_impl_RecPhase x1000 x5).f2, (rd_impl_RecPhase x1000 x5).f3, (rd_impl_RecPhase x1000 x5).f4, (rd_impl_RecPhase x1000 x5).f5, (rd_impl_RecPhase x1000 x5).f6, (rd_impl_RecPhase x1000 x5).f7⟩ : S_impl_RecPhase)).map en_S_impl_RecPhase) lm_ (rdms en_S_impl_RecPhase _ _ _ nf_ nf_)) ?_
  conv => whnf
  refine cut_ 201 [(0, .own 0 l0.length), (1, .int .i64 (wrap64 ((wrap64 (x1 + 1)) + 1))), (5, .int .i64 x5)] [(0, .arr 73 8 ((x1000.set (x5).toNat (⟨t713, wrap64 (x1 + 1), (rd_impl_RecPhase x1000 x5).f2, (rd_impl_RecPhase x1000 x5).f3, (rd_impl_RecPhase x1000 x5).f4, (rd_impl_RecPhase x1000 x5).f5, (rd_impl_RecPhase x1000 x5).f6, (rd_impl_RecPhase x1000 x5).f7⟩ : S_impl_RecPhase)).map en_S_impl_RecPhase))] rfl ⟨.inl rfl, ⟨.inl rfl, ⟨.inl rfl, trivial⟩⟩⟩ ⟨fm_, trivial⟩ ?_
  conv => whnf
  revert H; refine bind_elim (fun t714 A H => ?_)
  refine call_mk (laws_markText.ac A) (avAL_cons (avA_shut' rfl) (avAL_nil)) (Or.inl rfl) rfl rfl (Nat.le_of_ble_eq_true rfl) ?_
  conv => whnf
  refine Nd.mk nf_ ?_
  conv => whnf
  refine Nd.mk nf_ ?_
  conv => whnf
  refine El.mk (el_of (ys := (x1000.set (x5).toNat (⟨t713, wrap64 (x1 + 1), (rd_impl_RecPhase x1000 x5).f2, (rd_impl_RecPhase x1000 x5).f3, (rd_impl_RecPhase x1000 x5).f4, (rd_impl_RecPhase x1000 x5).f5, (rd_impl_RecPhase x1000 x5).f6, (rd_impl_RecPhase x1000 x5).f7⟩ : S_impl_RecPhase)).map en_S_impl_RecPhase) lm_ (rdms en_S_impl_RecPhase _ _ _ nf_ nf_)) ?_
  conv => whnf
  revert H; refine bind_elim (fun t715 A H => ?_)
  refine call_mk (laws_markText.ac A) (avAL_cons (avA_shut' rfl) (avAL_nil)) (Or.inl rfl) rfl rfl (Nat.le_of_ble_eq_true rfl) ?_
  conv => whnf
  refine Nd.mk nf_ ?_
  conv => whnf
  refine Nd.mk nf_ ?_
  conv => whnf
  refine El.mk (el_of (ys := (x1000.set (x5).toNat (⟨t713, wrap64 (x1 + 1), t714, (rd_impl_RecPhase x1000 x5).f3, (rd_impl_RecPhase x1000 x5).f4, (rd_impl_RecPhase x1000 x5).f5, (rd_impl_RecPhase x1000 x5).f6, (rd_impl_RecPhase x1000 x5).f7⟩ : S_impl_RecPhase)).map en_S_impl_RecPhase) lm_ (rdms en_S_impl_RecPhase _ _ _ nf_ nf_)) ?_
  conv => whnf
  refine cut_ 337 [(0, .own 0 l0.length), (1, .int .i64 (wrap64 ((wrap64 ((wrap64 (x1 + 1)) + 1)) + 1))), (5, .int .i64 x5)] [(0, .arr 73 8 ((x1000.set (x5).toNat (⟨t713, wrap64 (x1 + 1), t714, t715, (rd_impl_RecPhase x1000 x5).f4, (rd_impl_RecPhase x1000 x5).f5, (rd_impl_RecPhase x1000 x5).f6, (rd_impl_RecPhase x1000 x5).f7⟩ : S_impl_RecPhase)).map en_S_impl_RecPhase))] rfl ⟨.inl rfl, ⟨.inl rfl, ⟨.inl rfl, trivial⟩⟩⟩ ⟨fm_, trivial⟩ ?_
  conv => whnf
  refine Nd.mk nf_ ?_
  conv => whnf
  refine Nd.mk nf_ ?_
  conv => whnf
  refine El.mk (el_of (ys := (x1000.set (x5).toNat (⟨t713, wrap64 (x1 + 1), t714, t715, (rd_impl_RecPhase x1000 x5).f4, (rd_impl_RecPhase x1000 x5).f5, (rd_impl_RecPhase x1000 x5).f6, (rd_impl_RecPhase x1000 x5).f7⟩ : S_impl_RecPhase)).map en_S_impl_RecPhase) lm_ (rdms en_S_impl_RecPhase _ _ _ nf_ nf_)) ?_
  conv => whnf
  refine cut_ 433 [(0, .own 0 l0.length), (1, .int .i64 (wrap64 ((wrap64 ((wrap64 ((wrap64 ((wrap64 (x1 + 1)) + 1)) + 1)) + 1)) + 1))), (5, .int .i64 x5)] [(0, .arr 73 8 ((x1000.set (x5).toNat (⟨t713, wrap64 (x1 + 1), t714, t715, wrap64 ((wrap64 ((wrap64 ((wrap64 (x1 + 1)) + 1)) + 1)) + 1), (rd_impl_RecPhase x1000 x5).f5, (rd_impl_RecPhase x1000 x5).f6, (rd_impl_RecPhase x1000 x5).f7⟩ : S_impl_RecPhase)).map en_S_impl_RecPhase))] rfl ⟨.inl rfl, ⟨.inl rfl, ⟨.inl rfl, trivial⟩⟩⟩ ⟨fm_, trivial⟩ ?_
  conv => whnf
  refine Nd.mk nf_ ?_
  conv => whnf
  refine Nd.mk nf_ ?_
  conv => whnf
  refine El.mk (el_of (ys := (x1000.set (x5).toNat (⟨t713, wrap64 (x1 + 1), t714, t715, wrap64 ((wrap64 ((wrap64 ((wrap64 (x1 + 1)) + 1)) + 1)) + 1), (rd_impl_RecPhase x1000 x5).f5, (rd_impl_RecPhase x1000 x5).f6, (rd_impl_RecPhase x1000 x5).f7⟩ : S_impl_RecPhase)).map en_S_impl_RecPhase) lm_ (rdms en_S_impl_RecPhase _ _ _ nf_ nf_)) ?_
  conv => whnf
  revert H; refine bind_elim (fun t716 A H => ?_)
  refine call_mk (laws_markText.ac A) (avAL_cons (avA_shut' rfl) (avAL_nil)) (Or.inl rfl) rfl rfl (Nat.le_of_ble_eq_true rfl) ?_
  conv => whnf
  refine Nd.mk nf_ ?_
  conv => whnf
  refine Nd.mk nf_ ?_
  conv => whnf
  refine El.mk (el_of (ys := (x1000.set (x5).toNat (⟨t713, wrap64 (x1 + 1), t714, t715, wrap64 ((wrap64 ((wrap64 ((wrap64 (x1 + 1)) + 1)) + 1)) + 1), wrap64 ((wrap64 ((wrap64 ((wrap64 ((wrap64 (x1 + 1)) + 1)) + 1)) + 1)) + 1), (rd_impl_RecPhase x1000 x5).f6, (rd_impl_RecPhase x1000 x5).f7⟩ : S_impl_RecPhase)).map en_S_impl_RecPhase) lm_ (rdms en_S_impl_RecPhase _ _ _ nf_ nf_)) ?_
  conv => whnf
  refine cut_ 561 [(0, .own 0 l0.length), (1, .int .i64 (wrap64 ((wrap64 ((wrap64 ((wrap64 ((wrap64 ((wrap64 (x1 + 1)) + 1)) + 1)) + 1)) + 1)) + 1))), (5, .int .i64 x5)] [(0, .arr 73 8 ((x1000.set (x5).toNat (⟨t713, wrap64 (x1 + 1), t714, t715, wrap64 ((wrap64 ((wrap64 ((wrap64 (x1 + 1)) + 1)) + 1)) + 1), wrap64 ((wrap64 ((wrap64 ((wrap64 ((wrap64 (x1 + 1)) + 1)) + 1)) + 1)) + 1), t716, (rd_impl_RecPhase x1000 x5).f7⟩ : S_impl_RecPhase)).map en_S_impl_RecPhase))] rfl ⟨.inl rfl, ⟨.inl rfl, ⟨.inl rfl, trivial⟩⟩⟩ ⟨fm_, trivial⟩ ?_
  conv => whnf
  revert H; refine bind_elim (fun t717 A H => ?_)
  refine call_mk (laws_markText.ac A) (avAL_cons (avA_shut' rfl) (avAL_nil)) (Or.inl rfl) rfl rfl (Nat.le_of_ble_eq_true rfl) ?_
  conv => whnf
  refine Nd.mk nf_ ?_
  conv => whnf
  refine Nd.mk nf_ ?_
  conv => whnf
  refine El.mk (el_of (ys := (x1000.set (x5).toNat (⟨t713, wrap64 (x1 + 1), t714, t715, wrap64 ((wrap64 ((wrap64 ((wrap64 (x1 + 1)) + 1)) + 1)) + 1), wrap64 ((wrap64 ((wrap64 ((wrap64 ((wrap64 (x1 + 1)) + 1)) + 1)) + 1)) + 1), t716, (rd_impl_RecPhase x1000 x5).f7⟩ : S_impl_RecPhase)).map en_S_impl_RecPhase) lm_ (rdms en_S_impl_RecPhase _ _ _ nf_ nf_)) ?_
  conv => whnf
  refine cut_ 665 [(0, .own 0 l0.length), (1, .int .i64 (wrap64 ((wrap64 ((wrap64 ((wrap64 ((wrap64 ((wrap64 ((wrap64 ((wrap64 (x1 + 1)) + 1)) + 1)) + 1)) + 1)) + 1)) + 1)) + 1))), (5, .int .i64 x5)] [(0, .arr 73 8 ((x1000.set (x5).toNat (⟨t713, wrap64 (x1 + 1), t714, t715, wrap64 ((wrap64 ((wrap64 ((wrap64 (x1 + 1)) + 1)) + 1)) + 1), wrap64 ((wrap64 ((wrap64 ((wrap64 ((wrap64 (x1 + 1)) + 1)) + 1)) + 1)) + 1), t716, t717⟩ : S_impl_RecPhase)).map en_S_impl_RecPhase))] rfl ⟨.inl rfl, ⟨.inl rfl, ⟨.inl rfl, trivial⟩⟩⟩ ⟨fm_, trivial⟩ ?_
  conv => whnf
  exact ⟨(k, wrap64 ((wrap64 ((wrap64 ((wrap64 ((wrap64 ((wrap64 ((wrap64 ((wrap64 (x1 + 1)) + 1)) + 1)) + 1)) + 1)) + 1)) + 1)) + 1), wrap64 (x5 + 1), (x1000.set (x5).toNat (⟨t713, wrap64 (x1 + 1), t714, t715, wrap64 ((wrap64 ((wrap64 ((wrap64 (x1 + 1)) + 1)) + 1)) + 1), wrap64 ((wrap64 ((wrap64 ((wrap64 ((wrap64 (x1 + 1)) + 1)) + 1)) + 1)) + 1), t716, t717⟩ : S_impl_RecPhase))), [], ⟨H, lt_⟩, lt_, (fits_of ⟨.inl ⟨rfl, rfl⟩, ⟨.inl ⟨rfl, rfl⟩, trivial⟩⟩ trivial fi_ ⟨⟨_, rfl⟩, rfl, trivial⟩ rfl)⟩
  conv => whnf
  injection H with H; subst H
  exact ret_gen [some 0] [] ((rtA_eq rfl)) ⟨rfl, trivial⟩ rfl
theorem laws_heldRecPhaseS.l0_lp {F : (Exit → St → Prop) → St → Prop} {hv : List Tmp} {Q : Exit → St → Prop} {σ : St} {r : Int} {k : Nat} {l0 : List S_impl_RecPhase} {x1 : Int} {x5 : Int} (H : laws_heldRecPhaseS.l0 k l0 x1 x5 = some r) (rn : List (Option Nat)) (h1 : Fits σ σ [] [(1, .int .i64 x1), (5, .int .i64 x5)] [] [] rn)
    (h2 : ∀ (k0 : Nat) (x1 : Int) (x5 : Int), k0 < k + 1 → laws_heldRecPhaseS.l0 k0 l0 x1 x5 = some r → headN σ hv [] [(1, .int .i64 x1), (5, .int .i64 x5)] [] [] (F (fun e σ' => match e with | .normal => ∃ (y : Nat × Int × Int) (rn : List (Option Nat)), (laws_heldRecPhaseS.l0 y.1 l0 y.2.1 y.2.2 = some r ∧ y.1 < k + 1) ∧ y.1 < k0 ∧ Fits σ σ' [] [(1, .int .i64 y.2.1), (5, .int .i64 y.2.2)] [] [] rn | e => Q e σ'))) : Lp F hv Q σ := by
  unfold Lp
  refine ⟨Nat × Int × Int, fun x => laws_heldRecPhaseS.l0 x.1 l0 x.2.1 x.2.2 = some r ∧ x.1 < k + 1, fun x => x.1, [], fun x => [(1, .int .i64 x.2.1), (5, .int .i64 x.2.2)], fun x => [], fun x => [], ⟨(k, x1, x5), rn, ⟨H, Nat.lt_succ_self _⟩, h1⟩, ?_⟩
  rintro ⟨k, x1, x5⟩ ⟨H, hk⟩
  exact h2 k x1 x5 hk H
theorem laws_heldRecPhaseS.ac {k : Nat} {l0 : List S_impl_RecPhase} {a1 : Int} {r : Int} (H : laws_heldRecPhaseS.f k l0 a1 = some r) : ACalls Tryd.prog G 30 [] [(sv_S_impl_RecPhase l0), .int .i64 a1] [] (.int .i64 r) := by
  refine acalls_of tok hP Tryd.func30 rfl (by kernel_rfl) [.tmp 4] rfl (by kernel_rfl) (Nat.le_of_ble_eq_true rfl) (.l .n (.l (.l .n (.l .n (.l (.l (.c .n .n) (.l .n (.l (.c .n .n) (.l .n (.l (.c .n .n) (.l .n (.l (.c .n .n) (.l .n (.l (.c .n .n) (.l .n (.l (.c .n .n) (.l .n (.l (.c .n .n) (.l .n (.l (.c .n .n) .n))))))))))))))) .n))) .n)) rfl ?_
  unfold laws_heldRecPhaseS.f at H
  conv => whnf
  refine laws_heldRecPhaseS.l0_lp (l0 := l0) (k := k) H [] (fits_of ⟨.inl ⟨rfl, rfl⟩, ⟨.inl ⟨rfl, rfl⟩, trivial⟩⟩ trivial fi_ trivial rfl) ?_
  intro k x1 x5 hk H; rcases k with _ | k; exact none_elim H; rw [laws_heldRecPhaseS.l0] at H; conv => whnf
  refine br_d H (fun c H => ?_) (fun c H => ?_)
  conv => whnf
  refine nd_ H (fun c H => ?_)
  conv => whnf
  refine Nd.mk nf_ ?_
  conv => whnf
  refine El.mk (rdm_en_S_impl_RecPhase _ _ nf_ nf_) ?_
  conv => whnf
  revert H; refine bind_elim (fun t793 A H => ?_)
  refine call_mk (laws_markText.ac A) (avAL_cons (avA_shut' rfl) (avAL_nil)) (Or.inl rfl) rfl rfl (Nat.le_of_ble_eq_true rfl) ?_
  conv => whnf
  refine cut_ 112 [(0, (sv_S_impl_RecPhase l0)), (1, .int .i64 x1), (5, .int .i64 x5), (19, .bool (!(decide (((rd_impl_RecPhase l0 x5).f0).toList = t793.toList))))] [] rfl ⟨.inl rfl, ⟨.inl rfl, ⟨.inl rfl, ⟨.inl rfl, trivial⟩⟩⟩⟩ trivial ?_
  conv => whnf
  refine br_nd H (fun c H => ?_) (fun c H => ?_)
  conv => whnf
  refine Nd.mk nf_ ?_
  conv => whnf
  refine Nd.mk nf_ ?_
  conv => whnf
  refine El.mk (rdm_en_S_impl_RecPhase _ _ nf_ nf_) ?_
  conv => whnf
  refine cut_ 192 [(0, (sv_S_impl_RecPhase l0)), (1, .int .i64 (wrap64 (x1 + 1))), (5, .int .i64 x5), (28, .bool (!(decide (((rd_impl_RecPhase l0 x5).f1) = (wrap64 (x1 + 1))))))] [] rfl ⟨.inl rfl, ⟨.inl rfl, ⟨.inl rfl, ⟨.inl rfl, trivial⟩⟩⟩⟩ trivial ?_
  conv => whnf
  refine br_nd H (fun c H => ?_) (fun c H => ?_)
  conv => whnf
  refine Nd.mk nf_ ?_
  conv => whnf
  refine Nd.mk nf_ ?_
  conv => whnf
  refine El.mk (rdm_en_S_impl_RecPhase _ _ nf_ nf_) ?_
  conv => whnf
  revert H; refine bind_elim (fun t794 A H => ?_)
  refine call_mk (laws_markText.ac A) (avAL_cons (avA_shut' rfl) (avAL_nil)) (Or.inl rfl) rfl rfl (Nat.le_of_ble_eq_true rfl) ?_
  conv => whnf
  refine cut_ 280 [(0, (sv_S_impl_RecPhase l0)), (1, .int .i64 (wrap64 ((wrap64 (x1 + 1)) + 1))), (5, .int .i64 x5), (38, .bool (!(decide (((rd_impl_RecPhase l0 x5).f2).toList = t794.toList))))] [] rfl ⟨.inl rfl, ⟨.inl rfl, ⟨.inl rfl, ⟨.inl rfl, trivial⟩⟩⟩⟩ trivial ?_
  conv => whnf
  refine br_nd H (fun c H => ?_) (fun c H => ?_)
  conv => whnf
  refine Nd.mk nf_ ?_
  conv => whnf
  refine Nd.mk nf_ ?_
  conv => whnf
  refine El.mk (rdm_en_S_impl_RecPhase _ _ nf_ nf_) ?_
  conv => whnf
  revert H; refine bind_elim (fun t795 A H => ?_)
  refine call_mk (laws_markText.ac A) (avAL_cons (avA_shut' rfl) (avAL_nil)) (Or.inl rfl) rfl rfl (Nat.le_of_ble_eq_true rfl) ?_
  conv => whnf
  refine cut_ 368 [(0, (sv_S_impl_RecPhase l0)), (1, .int .i64 (wrap64 ((wrap64 ((wrap64 (x1 + 1)) + 1)) + 1))), (5, .int .i64 x5), (48, .bool (!(decide (((rd_impl_RecPhase l0 x5).f3).toList = t795.toList))))] [] rfl ⟨.inl rfl, ⟨.inl rfl, ⟨.inl rfl, ⟨.inl rfl, trivial⟩⟩⟩⟩ trivial ?_
  conv => whnf
  refine br_nd H (fun c H => ?_) (fun c H => ?_)
  conv => whnf
  refine Nd.mk nf_ ?_
  conv => whnf
  refine Nd.mk nf_ ?_
  conv => whnf
  refine El.mk (rdm_en_S_impl_RecPhase _ _ nf_ nf_) ?_
  conv => whnf
  refine cut_ 448 [(0, (sv_S_impl_RecPhase l0)), (1, .int .i64 (wrap64 ((wrap64 ((wrap64 ((wrap64 (x1 + 1)) + 1)) + 1)) + 1))), (5, .int .i64 x5), (57, .bool (!(decide (((rd_impl_RecPhase l0 x5).f4) = (wrap64 ((wrap64 ((wrap64 ((wrap64 (x1 + 1)) + 1)) + 1)) + 1))))))] [] rfl ⟨.inl rfl, ⟨.inl rfl, ⟨.inl rfl, ⟨.inl rfl, trivial⟩⟩⟩⟩ trivial ?_
  conv => whnf
  refine br_nd H (fun c H => ?_) (fun c H => ?_)
  conv => whnf
  refine Nd.mk nf_ ?_
  conv => whnf
  refine Nd.mk nf_ ?_
  conv => whnf
  refine El.mk (rdm_en_S_impl_RecPhase _ _ nf_ nf_) ?_
  conv => whnf
  refine cut_ 528 [(0, (sv_S_impl_RecPhase l0)), (1, .int .i64 (wrap64 ((wrap64 ((wrap64 ((wrap64 ((wrap64 (x1 + 1)) + 1)) + 1)) + 1)) + 1))), (5, .int .i64 x5), (66, .bool (!(decide (((rd_impl_RecPhase l0 x5).f5) = (wrap64 ((wrap64 ((wrap64 ((wrap64 ((wrap64 (x1 + 1)) + 1)) + 1)) + 1)) + 1))))))] [] rfl ⟨.inl rfl, ⟨.inl rfl, ⟨.inl rfl, ⟨.inl rfl, trivial⟩⟩⟩⟩ trivial ?_
  conv => whnf
  refine br_nd H (fun c H => ?_) (fun c H => ?_)
  conv => whnf
  refine Nd.mk nf_ ?_
  conv => whnf
  refine Nd.mk nf_ ?_
  conv => whnf
  refine El.mk (rdm_en_S_impl_RecPhase _ _ nf_ nf_) ?_
  conv => whnf
  revert H; refine bind_elim (fun t796 A H => ?_)
  refine call_mk (laws_markText.ac A) (avAL_cons (avA_shut' rfl) (avAL_nil)) (Or.inl rfl) rfl rfl (Nat.le_of_ble_eq_true rfl) ?_
  conv => whnf
  refine cut_ 616 [(0, (sv_S_impl_RecPhase l0)), (1, .int .i64 (wrap64 ((wrap64 ((wrap64 ((wrap64 ((wrap64 ((wrap64 (x1 + 1)) + 1)) + 1)) + 1)) + 1)) + 1))), (5, .int .i64 x5), (76, .bool (!(decide (((rd_impl_RecPhase l0 x5).f6).toList = t796.toList))))] [] rfl ⟨.inl rfl, ⟨.inl rfl, ⟨.inl rfl, ⟨.inl rfl, trivial⟩⟩⟩⟩ trivial ?_
  conv => whnf
  refine br_nd H (fun c H => ?_) (fun c H => ?_)
  conv => whnf
  refine Nd.mk nf_ ?_
  conv => whnf
  refine Nd.mk nf_ ?_
  conv => whnf
  refine El.mk (rdm_en_S_impl_RecPhase _ _ nf_ nf_) ?_
  conv => whnf
  revert H; refine bind_elim (fun t797 A H => ?_)
  refine call_mk (laws_markText.ac A) (avAL_cons (avA_shut' rfl) (avAL_nil)) (Or.inl rfl) rfl rfl (Nat.le_of_ble_eq_true rfl) ?_
  conv => whnf
  refine cut_ 704 [(0, (sv_S_impl_RecPhase l0)), (1, .int .i64 (wrap64 ((wrap64 ((wrap64 ((wrap64 ((wrap64 ((wrap64 ((wrap64 (x1 + 1)) + 1)) + 1)) + 1)) + 1)) + 1)) + 1))), (5, .int .i64 x5), (86, .bool (!(decide (((rd_impl_RecPhase l0 x5).f7).toList = t797.toList))))] [] rfl ⟨.inl rfl, ⟨.inl rfl, ⟨.inl rfl, ⟨.inl rfl, trivial⟩⟩⟩⟩ trivial ?_
  conv => whnf
  refine br_nd H (fun c H => ?_) (fun c H => ?_)
  conv => whnf
  exact ⟨(k, wrap64 ((wrap64 ((wrap64 ((wrap64 ((wrap64 ((wrap64 ((wrap64 ((wrap64 (x1 + 1)) + 1)) + 1)) + 1)) + 1)) + 1)) + 1)) + 1), wrap64 (x5 + 1)), [], ⟨H, lt_⟩, lt_, (fits_of ⟨.inl ⟨rfl, rfl⟩, ⟨.inl ⟨rfl, rfl⟩, trivial⟩⟩ trivial fi_ trivial rfl)⟩
  conv => whnf
  injection H with H; subst H
  exact ret_fz [] (rtA_eq rfl)
  conv => whnf
  injection H with H; subst H
  exact ret_fz [] (rtA_eq rfl)
  conv => whnf
  injection H with H; subst H
  exact ret_fz [] (rtA_eq rfl)
  conv => whnf
  injection H with H; subst H
  exact ret_fz [] (rtA_eq rfl)
  conv => whnf
  injection H with H; subst H
  exact ret_fz [] (rtA_eq rfl)
  conv => whnf
  injection H with H; subst H
  exact ret_fz [] (rtA_eq rfl)
  conv => whnf
  injection H with H; subst H
  exact ret_fz [] (rtA_eq rfl)
  conv => whnf
  injection H with H; subst H
  exact ret_fz [] (rtA_eq rfl)
  conv => whnf
  injection H with H; subst H
  exact ret_fz [] (rtA_eq rfl)
theorem laws_FnExactRecParse.ac [GvOk G] {k : Nat} {a0 : ByteArray} {r : Bool} (H : laws_FnExactRecParse.f k a0 = some r) : ACalls Tryd.prog G 7 [] [.str a0] [] (.bool r) := by
  refine acalls_of tok hP Tryd.func7 rfl (by kernel_rfl) [.tmp 2] rfl (by kernel_rfl) (Nat.le_of_ble_eq_true rfl) (.l .n (.l .n (.c .n (.l .n (.l (.c .n (.l (.c .n .n) .n)) (.c .n (.l .n (.l .n (.l .n (.l (.c .n .n) (.l .n (.c .n (.l (.c .n (.l (.c .n .n) .n)) (.c .n (.l .n (.l .n (.l (.l .n (.l (.c .n .n) .n)) (.c .n .n)))))))))))))))))) rfl ?_
  unfold laws_FnExactRecParse.f at H
  conv => whnf
  refine br_d H (fun c H => ?_) (fun c H => ?_)
  conv => whnf
  injection H with H; subst H
  exact ret_fz [] (rtA_eq rfl)
  conv => whnf
  revert H; refine bind_elim (fun t799 A H => ?_)
  refine call_mk (spec_RecParse.ac A) (avAL_cons (avA_shut' rfl) (avAL_nil)) (Or.inl rfl) rfl rfl (Nat.le_of_ble_eq_true rfl) ?_
  conv => whnf
  refine cut_ 96 [(0, .str a0), (3, (sv_S_impl_RecPhase t799.1)), (4, .bp 72 0)] [(72, .box [.int .i64 t799.2.1, .int .i64 t799.2.2])] rfl ⟨.inl rfl, ⟨.inl rfl, ⟨.inl rfl, trivial⟩⟩⟩ ⟨rfl, trivial⟩ ?_
  conv => whnf
  revert H; refine bind_elim (fun t801 A H => ?_)
  refine call_mk (impl_RecParse.acO A) (avAL_cons (avA_shut' rfl) (avAL_nil)) (Or.inl rfl) rfl rfl (Nat.le_of_ble_eq_true rfl) ?_
  conv => whnf
  revert H; refine bind_elim (fun t821 A H => ?_)
  refine call_mk (laws_eqRecPhaseS.ac A) (avAL_cons (avA_own rfl rfl) (avAL_cons (avA_shut' rfl) (avAL_nil))) (Or.inr ⟨rfl, bo_nil⟩) rfl rfl (Nat.le_of_ble_eq_true rfl) ?_
  conv => whnf
  refine br_nt H (fun c H => ?_) (fun c H => ?_)
  conv => whnf
  refine Br.f ff_ ?_
  conv => whnf
  refine Br.f ff_ ?_
  conv => whnf
  revert H; refine bind_elim (fun t822 A H => ?_)
  refine call_mk (laws_eqRecFault.ac A) (avAL_cons (avA_agg (avL_cons (av_shut' rfl) (avL_cons (av_shut' rfl) (avL_nil)))) (avAL_cons (avA_agg (avL_cons (av_shut' rfl) (avL_cons (av_shut' rfl) (avL_nil)))) (avAL_nil))) (Or.inl rfl) rfl rfl (Nat.le_of_ble_eq_true rfl) ?_
  conv => whnf
  refine Br.f ff_ ?_
  conv => whnf
  refine Br.f ff_ ?_
  conv => whnf
  refine cut_ 240 [(0, .str a0), (3, (sv_S_impl_RecPhase t799.1)), (4, .bp 72 0), (5, .own 104 t801.1.length), (33, .bool (!t822))] [(72, .box [.int .i64 t799.2.1, .int .i64 t799.2.2]), (104, .arr 73 8 (t801.1.map en_S_impl_RecPhase))] rfl ⟨.inl rfl, ⟨.inl rfl, ⟨.inl rfl, ⟨.inl rfl, ⟨.inl rfl, trivial⟩⟩⟩⟩⟩ ⟨rfl, ⟨rfl, trivial⟩⟩ ?_
  conv => whnf
  refine br_nt H (fun c H => ?_) (fun c H => ?_)
  conv => whnf
  refine cut_ 248 [(0, .str a0), (3, (sv_S_impl_RecPhase t799.1)), (4, .bp 72 0), (5, .own 104 t801.1.length), (7, .int .i64 1)] [(72, .box [.int .i64 t799.2.1, .int .i64 t799.2.2]), (104, .arr 73 8 (t801.1.map en_S_impl_RecPhase))] rfl ⟨.inl rfl, ⟨.inl rfl, ⟨.inl rfl, ⟨.inl rfl, ⟨.inl rfl, trivial⟩⟩⟩⟩⟩ ⟨rfl, ⟨rfl, trivial⟩⟩ ?_
  conv => whnf
  revert H; refine bind_elim (fun t823 A H => ?_)
  refine call_mk2 [104] (laws_markRecPhaseS.ac A) ⟨rfl, trivial⟩ rfl rfl rfl rfl rfl rfl rfl rfl ?_
  conv => whnf
  revert H; refine bind_elim (fun t824 A H => ?_)
  refine call_mk (laws_heldRecPhaseS.ac A) (avAL_cons (avA_ownX rfl rfl lm_ lm_) (avAL_cons (avA_shut' rfl) (avAL_nil))) (Or.inr ⟨rfl, bo_nil⟩) rfl rfl (Nat.le_of_ble_eq_true rfl) ?_
  conv => whnf
  refine cut_ 336 [(0, .str a0), (3, (sv_S_impl_RecPhase t799.1)), (4, .bp 72 0), (5, .own 104 t801.1.length), (7, .int .i64 t823.1), (8, .int .i64 t824), (41, .bool (decide (t824 < 0)))] [(72, .box [.int .i64 t799.2.1, .int .i64 t799.2.2]), (104, .arr 73 8 (t823.2.map en_S_impl_RecPhase))] rfl ⟨.inl rfl, ⟨.inl rfl, ⟨.inl rfl, ⟨.inl rfl, ⟨.inl rfl, ⟨.inl rfl, ⟨.inl rfl, trivial⟩⟩⟩⟩⟩⟩⟩ ⟨rfl, ⟨rfl, trivial⟩⟩ ?_
  conv => whnf
  refine br_d H (fun c H => ?_) (fun c H => ?_)
  conv => whnf
  injection H with H; subst H
  exact ret_fz [] (rtA_eq rfl)
  conv => whnf
  refine br_nd H (fun c H => ?_) (fun c H => ?_)
  conv => whnf
  revert H; refine bind_elim (fun t825 A H => ?_)
  refine call_mk (impl_RecParse.ac A) (avAL_cons (avA_shut' rfl) (avAL_nil)) (Or.inl rfl) rfl rfl (Nat.le_of_ble_eq_true rfl) ?_
  conv => whnf
  refine cut_ 424 [(3, (sv_S_impl_RecPhase t799.1)), (4, .bp 72 0), (5, .own 104 t801.1.length), (7, .int .i64 t823.1), (9, (sv_S_impl_RecPhase t825.1)), (10, .bp 400 0)] [(72, .box [.int .i64 t799.2.1, .int .i64 t799.2.2]), (104, .arr 73 8 (t823.2.map en_S_impl_RecPhase)), (400, .box [.int .i64 t825.2.1, .int .i64 t825.2.2])] rfl ⟨.inl rfl, ⟨.inl rfl, ⟨.inl rfl, ⟨.inl rfl, ⟨.inl rfl, ⟨.inl rfl, trivial⟩⟩⟩⟩⟩⟩ ⟨rfl, ⟨rfl, ⟨rfl, trivial⟩⟩⟩ ?_
  conv => whnf
  revert H; refine bind_elim (fun t826 A H => ?_)
  refine call_mk (laws_eqRecPhaseS.ac A) (avAL_cons (avA_shut' rfl) (avAL_cons (avA_shut' rfl) (avAL_nil))) (Or.inl rfl) rfl rfl (Nat.le_of_ble_eq_true rfl) ?_
  conv => whnf
  refine br_nt H (fun c H => ?_) (fun c H => ?_)
  conv => whnf
  refine Br.f ff_ ?_
  conv => whnf
  refine Br.f ff_ ?_
  conv => whnf
  revert H; refine bind_elim (fun t827 A H => ?_)
  refine call_mk (laws_eqRecFault.ac A) (avAL_cons (avA_agg (avL_cons (av_shut' rfl) (avL_cons (av_shut' rfl) (avL_nil)))) (avAL_cons (avA_agg (avL_cons (av_shut' rfl) (avL_cons (av_shut' rfl) (avL_nil)))) (avAL_nil))) (Or.inl rfl) rfl rfl (Nat.le_of_ble_eq_true rfl) ?_
  conv => whnf
  refine Br.f ff_ ?_
  conv => whnf
  refine Br.f ff_ ?_
  conv => whnf
  refine cut_ 504 [(5, .own 104 t801.1.length), (7, .int .i64 t823.1), (59, .bool (!t827))] [(104, .arr 73 8 (t823.2.map en_S_impl_RecPhase))] rfl ⟨.inl rfl, ⟨.inl rfl, ⟨.inl rfl, trivial⟩⟩⟩ ⟨rfl, trivial⟩ ?_
  conv => whnf
  refine br_nt H (fun c H => ?_) (fun c H => ?_)
  conv => whnf
  refine cut_ 512 [(5, .own 104 t801.1.length), (7, .int .i64 t823.1), (8, .int .i64 1)] [(104, .arr 73 8 (t823.2.map en_S_impl_RecPhase))] rfl ⟨.inl rfl, ⟨.inl rfl, ⟨.inl rfl, trivial⟩⟩⟩ ⟨rfl, trivial⟩ ?_
  conv => whnf
  revert H; refine bind_elim (fun t828 A H => ?_)
  refine call_mk (laws_heldRecPhaseS.ac A) (avAL_cons (avA_ownX rfl rfl lm_ lm_) (avAL_cons (avA_shut' rfl) (avAL_nil))) (Or.inr ⟨rfl, bo_nil⟩) rfl rfl (Nat.le_of_ble_eq_true rfl) ?_
  conv => whnf
  refine br_d H (fun c H => ?_) (fun c H => ?_)
  conv => whnf
  injection H with H; subst H
  exact ret_fz [] (rtA_eq rfl)
  conv => whnf
  refine br_nd H (fun c H => ?_) (fun c H => ?_)
  conv => whnf
  refine cut_ 592 [(2, .bool true)] [] rfl ⟨.inl rfl, trivial⟩ trivial ?_
  conv => whnf
  injection H with H; subst H
  exact ret_fz [] (rtA_eq rfl)
  conv => whnf
  refine cut_ 592 [(2, .bool false)] [] rfl ⟨.inl rfl, trivial⟩ trivial ?_
  conv => whnf
  injection H with H; subst H
  exact ret_fz [] (rtA_eq rfl)
  conv => whnf
  refine cut_ 512 [(2, .bool false)] [] rfl ⟨.inl rfl, trivial⟩ trivial ?_
  conv => whnf
  injection H with H; subst H
  exact ret_fz [] (rtA_eq rfl)
  conv => whnf
  refine Br.t ft_ ?_
  conv => whnf
  refine Br.t ft_ ?_
  conv => whnf
  refine Br.t ft_ ?_
  conv => whnf
  refine Br.t ft_ ?_
  conv => whnf
  refine cut_ 504 [(5, .own 104 t801.1.length), (7, .int .i64 t823.1), (59, .bool true)] [(104, .arr 73 8 (t823.2.map en_S_impl_RecPhase))] rfl ⟨.inl rfl, ⟨.inl rfl, ⟨.inl rfl, trivial⟩⟩⟩ ⟨rfl, trivial⟩ ?_
  conv => whnf
  refine Br.t rfl ?_
  conv => whnf
  refine cut_ 512 [(2, .bool false)] [] rfl ⟨.inl rfl, trivial⟩ trivial ?_
  conv => whnf
  injection H with H; subst H
  exact ret_fz [] (rtA_eq rfl)
  conv => whnf
  injection H with H; subst H
  exact ret_fz [] (rtA_eq rfl)
  conv => whnf
  refine cut_ 248 [(2, .bool false)] [] rfl ⟨.inl rfl, trivial⟩ trivial ?_
  conv => whnf
  injection H with H; subst H
  exact ret_fz [] (rtA_eq rfl)
  conv => whnf
  refine Br.t ft_ ?_
  conv => whnf
  refine Br.t ft_ ?_
  conv => whnf
  refine Br.t ft_ ?_
  conv => whnf
  refine Br.t ft_ ?_
  conv => whnf
  refine cut_ 240 [(0, .str a0), (3, (sv_S_impl_RecPhase t799.1)), (4, .bp 72 0), (5, .own 104 t801.1.length), (33, .bool true)] [(72, .box [.int .i64 t799.2.1, .int .i64 t799.2.2]), (104, .arr 73 8 (t801.1.map en_S_impl_RecPhase))] rfl ⟨.inl rfl, ⟨.inl rfl, ⟨.inl rfl, ⟨.inl rfl, ⟨.inl rfl, trivial⟩⟩⟩⟩⟩ ⟨rfl, ⟨rfl, trivial⟩⟩ ?_
  conv => whnf
  refine Br.t rfl ?_
  conv => whnf
  refine cut_ 248 [(2, .bool false)] [] rfl ⟨.inl rfl, trivial⟩ trivial ?_
  conv => whnf
  injection H with H; subst H
  exact ret_fz [] (rtA_eq rfl)

end Go.Proofs.YteflhnpcgoijfaaDoor.RX

