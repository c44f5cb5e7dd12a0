import Derived.Test.YteflhnpcgoijfaaDoorZFnRecText2
import Derived.Shelf.Lay
import Derived.Test.YteflhnpcgoijfaaDoorProg
import Derived.KernelRfl
set_option linter.unusedVariables false
set_option linter.unusedSimpArgs false
namespace Go.Proofs.YteflhnpcgoijfaaDoor.RT
open Go Go.Aw Go.RowKit Go.Proofs
set_option maxRecDepth 100000
set_option maxHeartbeats 40000000
variable {G : Nat → Option Obj}
attribute [local irreducible] callE Lp Sq Cut RetOk Fits
theorem impl_RecParse.ac [GvOk G] {k : Nat} {a0 : ByteArray} {r : (List S_impl_RecPhase) × Int × Int} (H : impl_RecParse.f k a0 = some r) : ACalls Tryd.prog G 27 [] [.str a0] [] (.tup [(sv_S_impl_RecPhase r.1), .agg [.int .i64 r.2.1, .int .i64 r.2.2]]) := by
  refine acalls_of tok hP Tryd.func27 rfl (by kernel_rfl) [.tmp 2, .cell 3 54] rfl (by kernel_rfl) (Nat.le_of_ble_eq_true rfl) (.l .n (.l .n (.l (.c .n (.l (.c .n .n) .n)) (.l .n (.l .n (.l (.l .n (.l .n (.l .n (.l (.c .n (.l .n (.l (.l .n (.l (.c .n .n) .n)) (.l (.c .n .n) (.l .n (.l .n (.l (.c .n (.l .n (.l .n (.l .n (.c .n .n))))) (.l (.l .n (.l (.c .n .n) .n)) .n)))))))) .n)))) (.l (.l .n (.c .n (.l .n (.l (.l .n (.c .n (.l .n (.l .n (.l (.l .n (.c .n (.l (.c .n .n) .n))) .n))))) .n)))) .n))))))) rfl ?_
  unfold impl_RecParse.f at H
  conv => whnf
  revert H; refine bind_elim (fun t740 A H => ?_)
  refine call_mk (impl_cutLines.ac A) (avAL_cons (avA_shut' rfl) (avAL_nil)) (Or.inl rfl) rfl rfl (Nat.le_of_ble_eq_true rfl) ?_
  conv => whnf
  refine br_d H (fun c H => ?_) (fun c H => ?_)
  conv => whnf
  refine Br.t ft_ ?_
  conv => whnf
  refine Br.t ft_ ?_
  conv => whnf
  refine Br.t ft_ ?_
  conv => whnf
  refine cut_ 104 [(3, .bp 8 0), (4, (sv_str t740)), (26, .bool true)] [(8, .box [.int .i64 0, .int .i64 0])] rfl ⟨.inl rfl, ⟨.inl rfl, ⟨.inl rfl, trivial⟩⟩⟩ ⟨rfl, trivial⟩ ?_
  conv => whnf
  refine Br.t rfl ?_
  conv => whnf
  refine cut_ 128 [(2, .nil), (3, .bp 8 0)] [(8, .box [.int .i64 0, .int .i64 7])] rfl ⟨.inl rfl, ⟨.inl rfl, trivial⟩⟩ ⟨rfl, trivial⟩ ?_
  conv => whnf
  injection H with H; subst H
  exact ret_tup [] (rtAL_cons (rtA_nil) (rtAL_cons (rtA_agg (rtL_cons (rt_eq rfl) (rtL_cons (rt_eq rfl) (rtL_nil)))) (rtAL_nil)))
  conv => whnf
  refine Br.f ff_ ?_
  conv => whnf
  refine Br.f ff_ ?_
  conv => whnf
  refine Br.f ff_ ?_
  conv => whnf
  refine cut_ 104 [(3, .bp 8 0), (4, (sv_str t740)), (26, .bool (decide ((t740.length : Int) > 60)))] [(8, .box [.int .i64 0, .int .i64 0])] rfl ⟨.inl rfl, ⟨.inl rfl, ⟨.inl rfl, trivial⟩⟩⟩ ⟨rfl, trivial⟩ ?_
  conv => whnf
  refine br_d H (fun c H => ?_) (fun c H => ?_)
  conv => whnf
  refine cut_ 128 [(2, .nil), (3, .bp 8 0)] [(8, .box [.int .i64 0, .int .i64 7])] rfl ⟨.inl rfl, ⟨.inl rfl, trivial⟩⟩ ⟨rfl, trivial⟩ ?_
  conv => whnf
  injection H with H; subst H
  exact ret_tup [] (rtAL_cons (rtA_nil) (rtAL_cons (rtA_agg (rtL_cons (rt_eq rfl) (rtL_cons (rt_eq rfl) (rtL_nil)))) (rtAL_nil)))
  conv => whnf
  refine impl_RecParse.l0_lp (t740 := t740) (k := k) H [none, none] (fits_of ⟨⟨rfl, rfl⟩, ⟨⟨rfl, rfl⟩, ⟨.inl ⟨rfl, rfl⟩, trivial⟩⟩⟩ ⟨⟨_, _, rfl⟩, ⟨⟨_, _, rfl⟩, trivial⟩⟩ fi_ trivial rfl) ?_
  intro k x5 x6 x30 hk H; rcases k with _ | k; exact none_elim H; rw [impl_RecParse.l0] at H; conv => whnf
  refine br_d H (fun c H => ?_) (fun c H => ?_)
  conv => whnf
  refine nd_ H (fun c H => ?_)
  conv => whnf
  refine Nd.mk nf_ ?_
  conv => whnf
  refine El.mk (rdm_en_str _ _ nf_ nf_) ?_
  conv => whnf
  refine cut_ 194 [(3, .bp 8 0), (5, .own 144 x5.length), (6, .own 145 x6.length), (7, .int .i64 x30), (8, .str (rdOf ByteArray.empty t740 x30)), (28, (sv_str t740)), (29, .int .i64 (t740.length : Int)), (30, .int .i64 x30)] [(8, .box [.int .i64 0, .int .i64 0]), (144, .arr 73 8 (x5.map en_S_impl_RecPhase)), (145, .arr 3 1 (x6.map en_i64))] rfl ⟨.inl rfl, ⟨.inl rfl, ⟨.inl rfl, ⟨.inl rfl, ⟨.inl rfl, ⟨.inl rfl, ⟨.inl rfl, ⟨.inl rfl, trivial⟩⟩⟩⟩⟩⟩⟩⟩ ⟨rfl, ⟨rfl, ⟨rfl, trivial⟩⟩⟩ ?_
  conv => whnf
  revert H; refine bind_elim (fun t761 A H => ?_)
  refine call_mk (impl_cutWords.ac A) (avAL_cons (avA_shut' rfl) (avAL_nil)) (Or.inl rfl) rfl rfl (Nat.le_of_ble_eq_true rfl) ?_
  conv => whnf
  refine br_nt H (fun c H => ?_) (fun c H => ?_)
  conv => whnf
  refine cut_ 290 [(3, .bp 8 0), (5, .own 144 x5.length), (6, .own 145 x6.length), (7, .int .i64 x30), (9, (sv_str t761.1)), (28, (sv_str t740)), (29, .int .i64 (t740.length : Int)), (30, .int .i64 x30), (47, .bool (decide ((t761.1.length : Int) = 0)))] [(8, .box [.int .i64 0, .int .i64 0]), (144, .arr 73 8 (x5.map en_S_impl_RecPhase)), (145, .arr 3 1 (x6.map en_i64))] rfl ⟨.inl rfl, ⟨.inl rfl, ⟨.inl rfl, ⟨.inl rfl, ⟨.inl rfl, ⟨.inl rfl, ⟨.inl rfl, ⟨.inl rfl, ⟨.inl rfl, trivial⟩⟩⟩⟩⟩⟩⟩⟩⟩ ⟨rfl, ⟨rfl, ⟨rfl, trivial⟩⟩⟩ ?_
  conv => whnf
  refine br_d H (fun c H => ?_) (fun c H => ?_)
  conv => whnf
  exact ⟨(k, x5, x6, wrap64 (x30 + 1)), [some 144, some 145], ⟨H, lt_⟩, lt_, (fits_of ⟨rfl, ⟨rfl, ⟨.inl ⟨rfl, rfl⟩, trivial⟩⟩⟩ ⟨rfl, ⟨rfl, trivial⟩⟩ fi_ trivial rfl)⟩
  conv => whnf
  revert H; refine bind_elim (fun t762 A H => ?_)
  refine call_mk (impl_phaseOf.ac A) (avAL_cons (avA_shut' rfl) (avAL_nil)) (Or.inl rfl) rfl rfl (Nat.le_of_ble_eq_true rfl) ?_
  conv => whnf
  refine cut_ 386 [(3, .bp 8 0), (5, .own 144 x5.length), (6, .own 145 x6.length), (7, .int .i64 x30), (11, .bp 330 0), (12, .int .i64 0), (28, (sv_str t740)), (29, .int .i64 (t740.length : Int)), (30, .int .i64 x30), (53, .bool (!t762.2.2.2.2.2.2.2.2))] [(8, .box [.int .i64 0, .int .i64 0]), (144, .arr 73 8 (x5.map en_S_impl_RecPhase)), (145, .arr 3 1 (x6.map en_i64)), (330, .box [.str t762.1, .int .i64 t762.2.1, .str t762.2.2.1, .str t762.2.2.2.1, .int .i64 t762.2.2.2.2.1, .int .i64 t762.2.2.2.2.2.1, .str t762.2.2.2.2.2.2.1, .str t762.2.2.2.2.2.2.2.1])] rfl ⟨.inl rfl, ⟨.inl rfl, ⟨.inl rfl, ⟨.inl rfl, ⟨.inl rfl, ⟨.inl rfl, ⟨.inl rfl, ⟨.inl rfl, ⟨.inl rfl, ⟨.inl rfl, trivial⟩⟩⟩⟩⟩⟩⟩⟩⟩⟩ ⟨rfl, ⟨rfl, ⟨rfl, ⟨rfl, trivial⟩⟩⟩⟩ ?_
  conv => whnf
  refine br_nt H (fun c H => ?_) (fun c H => ?_)
  conv => whnf
  revert H; refine bind_elim (fun t763 A H => ?_)
  refine call_mk (impl_phase.ac A) (avAL_cons (avA_own rfl rfl) (avAL_cons (avA_shut' rfl) (avAL_nil))) (Or.inr ⟨rfl, bo_nil⟩) rfl rfl (Nat.le_of_ble_eq_true rfl) ?_
  conv => whnf
  refine br_d H (fun c H => ?_) (fun c H => ?_)
  conv => whnf
  refine Br.t (by decide) ?_
  conv => whnf
  refine cut_ 506 [(2, .nil), (3, .bp 8 0)] [(8, .box [.int .i64 (wrap64 (x30 + 1)), .int .i64 3])] rfl ⟨.inl rfl, ⟨.inl rfl, trivial⟩⟩ ⟨rfl, trivial⟩ ?_
  conv => whnf
  injection H with H; subst H
  exact ret_tup [] (rtAL_cons (rtA_nil) (rtAL_cons (rtA_agg (rtL_cons (rt_eq rfl) (rtL_cons (rt_eq rfl) (rtL_nil)))) (rtAL_nil)))
  conv => whnf
  refine cut_ 466 [(3, .bp 8 0), (5, .own 144 x5.length), (6, .own 145 x6.length), (7, .int .i64 x30), (11, .bp 330 0), (12, .int .i64 0), (28, (sv_str t740)), (29, .int .i64 (t740.length : Int)), (30, .int .i64 x30), (62, .bool (decide ((x5.length : Int) ≥ 12)))] [(8, .box [.int .i64 0, .int .i64 0]), (144, .arr 73 8 (x5.map en_S_impl_RecPhase)), (145, .arr 3 1 (x6.map en_i64)), (330, .box [.str t762.1, .int .i64 t762.2.1, .str t762.2.2.1, .str t762.2.2.2.1, .int .i64 t762.2.2.2.2.1, .int .i64 t762.2.2.2.2.2.1, .str t762.2.2.2.2.2.2.1, .str t762.2.2.2.2.2.2.2.1])] rfl ⟨.inl rfl, ⟨.inl rfl, ⟨.inl rfl, ⟨.inl rfl, ⟨.inl rfl, ⟨.inl rfl, ⟨.inl rfl, ⟨.inl rfl, ⟨.inl rfl, ⟨.inl rfl, trivial⟩⟩⟩⟩⟩⟩⟩⟩⟩⟩ ⟨rfl, ⟨rfl, ⟨rfl, ⟨rfl, trivial⟩⟩⟩⟩ ?_
  conv => whnf
  refine br_d H (fun c H => ?_) (fun c H => ?_)
  conv => whnf
  refine Br.t (by decide) ?_
  conv => whnf
  refine cut_ 538 [(2, .nil), (3, .bp 8 0)] [(8, .box [.int .i64 (wrap64 (x30 + 1)), .int .i64 5])] rfl ⟨.inl rfl, ⟨.inl rfl, trivial⟩⟩ ⟨rfl, trivial⟩ ?_
  conv => whnf
  injection H with H; subst H
  exact ret_tup [] (rtAL_cons (rtA_nil) (rtAL_cons (rtA_agg (rtL_cons (rt_eq rfl) (rtL_cons (rt_eq rfl) (rtL_nil)))) (rtAL_nil)))
  conv => whnf
  refine Br.f (by decide) ?_
  conv => whnf
  refine Or.inl ?_
  conv => whnf
  refine nd_ H (fun c H => ?_)
  conv => whnf
  refine Or.inl ?_
  conv => whnf
  refine nd_ H (fun c H => ?_)
  conv => whnf
  exact ⟨(k, (x5 ++ ([(⟨t762.1, t762.2.1, t762.2.2.1, t762.2.2.2.1, t762.2.2.2.2.1, t762.2.2.2.2.2.1, t762.2.2.2.2.2.2.1, t762.2.2.2.2.2.2.2.1⟩ : S_impl_RecPhase)] : List S_impl_RecPhase)), (x6 ++ ([wrap64 (x30 + 1)] : List Int)), wrap64 (x30 + 1)), [some 506, some 546], ⟨H, lt_⟩, lt_, (fits_of ⟨mt_own lm_, ⟨mt_own lm_, ⟨.inl ⟨rfl, rfl⟩, trivial⟩⟩⟩ ⟨fm_, ⟨fm_, trivial⟩⟩ fi_ trivial rfl)⟩
  conv => whnf
  refine Br.t (by decide) ?_
  conv => whnf
  refine cut_ 458 [(2, .nil), (3, .bp 8 0)] [(8, .box [.int .i64 (wrap64 (x30 + 1)), .int .i64 2])] rfl ⟨.inl rfl, ⟨.inl rfl, trivial⟩⟩ ⟨rfl, trivial⟩ ?_
  conv => whnf
  injection H with H; subst H
  exact ret_tup [] (rtAL_cons (rtA_nil) (rtAL_cons (rtA_agg (rtL_cons (rt_eq rfl) (rtL_cons (rt_eq rfl) (rtL_nil)))) (rtAL_nil)))
  conv => whnf
  refine cut_ 306 [(2, .nil), (3, .bp 8 0)] [(8, .box [.int .i64 (wrap64 (x30 + 1)), .int .i64 1])] rfl ⟨.inl rfl, ⟨.inl rfl, trivial⟩⟩ ⟨rfl, trivial⟩ ?_
  conv => whnf
  injection H with H; subst H
  exact ret_tup [] (rtAL_cons (rtA_nil) (rtAL_cons (rtA_agg (rtL_cons (rt_eq rfl) (rtL_cons (rt_eq rfl) (rtL_nil)))) (rtAL_nil)))
  conv => whnf
  refine impl_RecParse.l1_lp (x5 := x5) (x6 := x6) (k := k) H [] (fits_of ⟨.inl ⟨rfl, rfl⟩, trivial⟩ trivial fi_ trivial rfl) ?_
  intro k x84 hk H; rcases k with _ | k; exact none_elim H; rw [impl_RecParse.l1] at H; conv => whnf
  refine cut_ 186 [(3, .bp 8 0), (5, .own 144 x5.length), (6, .own 145 x6.length), (82, .own 144 x5.length), (83, .int .i64 (x5.length : Int)), (84, .int .i64 x84), (85, .bool (decide (x84 < (x5.length : Int))))] [(8, .box [.int .i64 0, .int .i64 0]), (144, .arr 73 8 (x5.map en_S_impl_RecPhase)), (145, .arr 3 1 (x6.map en_i64))] rfl ⟨.inl rfl, ⟨.inl rfl, ⟨.inl rfl, ⟨.inl rfl, ⟨.inl rfl, ⟨.inl rfl, ⟨.inl rfl, trivial⟩⟩⟩⟩⟩⟩⟩ ⟨rfl, ⟨rfl, ⟨rfl, trivial⟩⟩⟩ ?_
  conv => whnf
  refine br_d H (fun c H => ?_) (fun c H => ?_)
  conv => whnf
  refine nd_ H (fun c H => ?_)
  conv => whnf
  refine Nd.mk nf_ ?_
  conv => whnf
  refine El.mk (rdm_en_S_impl_RecPhase _ _ nf_ nf_) ?_
  conv => whnf
  refine Or.inl ?_
  conv => whnf
  refine cut_ 290 [(3, .bp 8 0), (5, .own 144 x5.length), (6, .own 145 x6.length), (13, .int .i64 x84), (82, .own 144 x5.length), (83, .int .i64 (x5.length : Int)), (84, .int .i64 x84), (93, .own 266 2), (94, .int .i64 2), (95, .int .i64 0)] [(8, .box [.int .i64 0, .int .i64 0]), (144, .arr 73 8 (x5.map en_S_impl_RecPhase)), (145, .arr 3 1 (x6.map en_i64)), (266, .arr 9 1 (([(rd_impl_RecPhase x5 x84).f6, (rd_impl_RecPhase x5 x84).f7] : List ByteArray).map en_str))] rfl ⟨.inl rfl, ⟨.inl rfl, ⟨.inl rfl, ⟨.inl rfl, ⟨.inl rfl, ⟨.inl rfl, ⟨.inl rfl, ⟨.inl rfl, ⟨.inl rfl, ⟨.inl rfl, trivial⟩⟩⟩⟩⟩⟩⟩⟩⟩⟩ ⟨rfl, ⟨rfl, ⟨rfl, ⟨fm_, trivial⟩⟩⟩⟩ ?_
  conv => whnf
  refine impl_RecParse.l2_lp (x5 := x5) (x6 := x6) (x84 := x84) (k := k) H [] (fits_of ⟨.inl ⟨rfl, rfl⟩, trivial⟩ trivial fi_ trivial rfl) ?_
  intro k x95 hk H; rcases k with _ | k; exact none_elim H; rw [impl_RecParse.l2] at H; conv => whnf
  refine br_d H (fun c H => ?_) (fun c H => ?_)
  conv => whnf
  refine nd_ H (fun c H => ?_)
  conv => whnf
  refine nd_ H (fun c H => ?_)
  conv => whnf
  refine El.mk (rdm_en_str _ _ nf_ nf_) ?_
  conv => whnf
  revert H; refine bind_elim (fun t772 A H => ?_)
  refine call_mk (impl_RecEnd.ac A) (avAL_cons (avA_shut' rfl) (avAL_nil)) (Or.inl rfl) rfl rfl (Nat.le_of_ble_eq_true rfl) ?_
  conv => whnf
  refine br_d H (fun c H => ?_) (fun c H => ?_)
  conv => whnf
  refine Br.t ft_ ?_
  conv => whnf
  refine Br.t ft_ ?_
  conv => whnf
  revert H; refine bind_elim (fun t773 A H => ?_)
  refine call_mk (impl_phase.ac A) (avAL_cons (avA_own rfl rfl) (avAL_cons (avA_shut' rfl) (avAL_nil))) (Or.inr ⟨rfl, bo_nil⟩) rfl rfl (Nat.le_of_ble_eq_true rfl) ?_
  conv => whnf
  refine Br.t ft_ ?_
  conv => whnf
  refine Br.t ft_ ?_
  conv => whnf
  refine Br.t ft_ ?_
  conv => whnf
  refine cut_ 402 [(3, .bp 8 0), (5, .own 144 x5.length), (6, .own 145 x6.length), (13, .int .i64 x84), (82, .own 144 x5.length), (83, .int .i64 (x5.length : Int)), (84, .int .i64 x84), (93, .own 266 2), (94, .int .i64 2), (95, .int .i64 x95), (108, .bool (decide (t773 ≤ x84)))] [(8, .box [.int .i64 0, .int .i64 0]), (144, .arr 73 8 (x5.map en_S_impl_RecPhase)), (145, .arr 3 1 (x6.map en_i64)), (266, .arr 9 1 (([(rd_impl_RecPhase x5 x84).f6, (rd_impl_RecPhase x5 x84).f7] : List ByteArray).map en_str))] rfl ⟨.inl rfl, ⟨.inl rfl, ⟨.inl rfl, ⟨.inl rfl, ⟨.inl rfl, ⟨.inl rfl, ⟨.inl rfl, ⟨.inl rfl, ⟨.inl rfl, ⟨.inl rfl, ⟨.inl rfl, trivial⟩⟩⟩⟩⟩⟩⟩⟩⟩⟩⟩ ⟨rfl, ⟨rfl, ⟨rfl, ⟨rfl, trivial⟩⟩⟩⟩ ?_
  conv => whnf
  refine br_d H (fun c H => ?_) (fun c H => ?_)
  conv => whnf
  refine Nd.mk nf_ ?_
  conv => whnf
  refine nd_ H (fun c H => ?_)
  conv => whnf
  refine El.mk (rdm_en_i64 _ _ nf_ nf_) ?_
  conv => whnf
  refine cut_ 458 [(2, .nil), (3, .bp 8 0)] [(8, .box [.int .i64 (rd x6 x84), .int .i64 4])] rfl ⟨.inl rfl, ⟨.inl rfl, trivial⟩⟩ ⟨rfl, trivial⟩ ?_
  conv => whnf
  injection H with H; subst H
  exact ret_tup [] (rtAL_cons (rtA_nil) (rtAL_cons (rtA_agg (rtL_cons (rt_eq rfl) (rtL_cons (rt_eq rfl) (rtL_nil)))) (rtAL_nil)))
  conv => whnf
  exact ⟨(k, wrap64 (x95 + 1)), [], ⟨H, lt_⟩, lt_, (fits_of ⟨.inl ⟨rfl, rfl⟩, trivial⟩ trivial fi_ trivial rfl)⟩
  conv => whnf
  refine Br.f ff_ ?_
  conv => whnf
  refine Br.f ff_ ?_
  conv => whnf
  refine Br.f ff_ ?_
  conv => whnf
  refine Br.f ff_ ?_
  conv => whnf
  refine Br.f ff_ ?_
  conv => whnf
  refine cut_ 402 [(3, .bp 8 0), (5, .own 144 x5.length), (6, .own 145 x6.length), (13, .int .i64 x84), (82, .own 144 x5.length), (83, .int .i64 (x5.length : Int)), (84, .int .i64 x84), (93, .own 266 2), (94, .int .i64 2), (95, .int .i64 x95), (108, .bool false)] [(8, .box [.int .i64 0, .int .i64 0]), (144, .arr 73 8 (x5.map en_S_impl_RecPhase)), (145, .arr 3 1 (x6.map en_i64)), (266, .arr 9 1 (([(rd_impl_RecPhase x5 x84).f6, (rd_impl_RecPhase x5 x84).f7] : List ByteArray).map en_str))] rfl ⟨.inl rfl, ⟨.inl rfl, ⟨.inl rfl, ⟨.inl rfl, ⟨.inl rfl, ⟨.inl rfl, ⟨.inl rfl, ⟨.inl rfl, ⟨.inl rfl, ⟨.inl rfl, ⟨.inl rfl, trivial⟩⟩⟩⟩⟩⟩⟩⟩⟩⟩⟩ ⟨rfl, ⟨rfl, ⟨rfl, ⟨rfl, trivial⟩⟩⟩⟩ ?_
  conv => whnf
  refine Br.f rfl ?_
  conv => whnf
  exact ⟨(k, wrap64 (x95 + 1)), [], ⟨H, lt_⟩, lt_, (fits_of ⟨.inl ⟨rfl, rfl⟩, trivial⟩ trivial fi_ trivial rfl)⟩
  conv => whnf
  exact ⟨(k, wrap64 (x84 + 1)), [], ⟨H, lt_⟩, lt_, (fits_of ⟨.inl ⟨rfl, rfl⟩, trivial⟩ trivial fi_ trivial rfl)⟩
  conv => whnf
  refine br_d H (fun c H => ?_) (fun c H => ?_)
  conv => whnf
  injection H with H; subst H
  exact ret_tup [] (rtAL_cons (rtA_nil) (rtAL_cons (rtA_agg (rtL_cons (rt_eq rfl) (rtL_cons (rt_eq rfl) (rtL_nil)))) (rtAL_nil)))
  conv => whnf
  injection H with H; subst H
  exact ret_tup [144] (rtAL_cons (rtA_fz' rfl rfl) (rtAL_cons (rtA_agg (rtL_cons (rt_eq rfl) (rtL_cons (rt_eq rfl) (rtL_nil)))) (rtAL_nil)))
theorem spec_l43Words.j0_sq {F : (Exit → St → Prop) → St → Prop} {hv : List Tmp} {K : St → Prop} {Q : Exit → St → Prop} {σ : St} {r : (List ByteArray) × Bool} {KK : Nat} {x4 : List ByteArray} {x5 : ByteArray} {x7 : Int}
    (h1 : F (fun e σ' => match e with | .normal => ∃ (y : Nat × ByteArray) (rn : List (Option Nat)), (spec_l43Words.j0 y.1 x4 x5 y.2 x7 = some r ∧ y.1 < KK) ∧ Fits σ σ' [] [(6, .str y.2)] [] [] rn | e => Q e σ') σ)
    (h2 : ∀ (k : Nat) (x6_1 : ByteArray), k < KK → spec_l43Words.j0 k x4 x5 x6_1 x7 = some r → headN σ hv [] [(6, .str x6_1)] [] [] K) : Sq F hv K Q σ := by
  unfold Sq
  refine ⟨Nat × ByteArray, fun x => spec_l43Words.j0 x.1 x4 x5 x.2 x7 = some r ∧ x.1 < KK, [], fun x => [(6, .str x.2)], fun x => [], fun x => [], h1, ?_⟩
  rintro ⟨k, x6_1⟩ ⟨H, hk⟩
  exact h2 k x6_1 hk H
theorem spec_l43Words.l0_lp {F : (Exit → St → Prop) → St → Prop} {hv : List Tmp} {Q : Exit → St → Prop} {σ : St} {r : (List ByteArray) × Bool} {k : Nat} {x4 : List ByteArray} {x5 : ByteArray} {x6 : ByteArray} {x7 : Int} (H : spec_l43Words.l0 k x4 x5 x6 x7 = some r) (rn : List (Option Nat)) (h1 : Fits σ σ [16] [(4, .own 0 x4.length), (5, .str x5), (6, .str x6), (7, .int .i64 x7)] [] [.arr 9 1 (x4.map en_str)] rn)
    (h2 : ∀ (k0 : Nat) (x4 : List ByteArray) (x5 : ByteArray) (x6 : ByteArray) (x7 : Int), k0 < k + 1 → spec_l43Words.l0 k0 x4 x5 x6 x7 = some r → headN σ hv [16] [(4, .own 0 x4.length), (5, .str x5), (6, .str x6), (7, .int .i64 x7)] [] [.arr 9 1 (x4.map en_str)] (F (fun e σ' => match e with | .normal => ∃ (y : Nat × (List ByteArray) × ByteArray × ByteArray × Int) (rn : List (Option Nat)), (spec_l43Words.l0 y.1 y.2.1 y.2.2.1 y.2.2.2.1 y.2.2.2.2 = some r ∧ y.1 < k + 1) ∧ y.1 < k0 ∧ Fits σ σ' [16] [(4, .own 0 y.2.1.length), (5, .str y.2.2.1), (6, .str y.2.2.2.1), (7, .int .i64 y.2.2.2.2)] [] [.arr 9 1 (y.2.1.map en_str)] rn | e => Q e σ'))) : Lp F hv Q σ := by
  unfold Lp
  refine ⟨Nat × (List ByteArray) × ByteArray × ByteArray × Int, fun x => spec_l43Words.l0 x.1 x.2.1 x.2.2.1 x.2.2.2.1 x.2.2.2.2 = some r ∧ x.1 < k + 1, fun x => x.1, [16], fun x => [(4, .own 0 x.2.1.length), (5, .str x.2.2.1), (6, .str x.2.2.2.1), (7, .int .i64 x.2.2.2.2)], fun x => [], fun x => [.arr 9 1 (x.2.1.map en_str)], ⟨(k, x4, x5, x6, x7), rn, ⟨H, Nat.lt_succ_self _⟩, h1⟩, ?_⟩
  rintro ⟨k, x4, x5, x6, x7⟩ ⟨H, hk⟩
  exact h2 k x4 x5 x6 x7 hk H
theorem spec_l43Words.ac {k : Nat} {a0 : ByteArray} {r : (List ByteArray) × Bool} (H : spec_l43Words.f k a0 = some r) : ACalls Tryd.prog G 65 [] [.str a0] [] (.tup [(sv_str r.1), .bool r.2]) := by
  refine acalls_of tok hP Tryd.func65 rfl (by kernel_rfl) [.tmp 2, .tmp 3] rfl (by kernel_rfl) (Nat.le_of_ble_eq_true rfl) (.l .n (.l .n (.l .n (.l .n (.l (.l .n (.l (.c .n .n) (.l (.j .n (.l (.c .n (.l (.l .n (.l (.c .n (.l (.c .n .n) .n)) .n)) .n)) .n)) .n))) .n))))) rfl ?_
  unfold spec_l43Words.f at H
  conv => whnf
  refine Or.inl ?_
  conv => whnf
  refine nd_ H (fun c H => ?_)
  conv => whnf
  refine spec_l43Words.l0_lp (k := k) H [some 16] (fits_of ⟨mt_own lm_, ⟨.inl ⟨rfl, rfl⟩, ⟨.inl ⟨rfl, rfl⟩, ⟨.inl ⟨rfl, rfl⟩, trivial⟩⟩⟩⟩ ⟨fm_, trivial⟩ fi_ trivial rfl) ?_
  intro k x4 x5 x6 x7 hk H; rcases k with _ | k; exact none_elim H; rw [spec_l43Words.l0] at H; conv => whnf
  refine cut_ 105 [(4, .own 72 x4.length), (5, .str x5), (6, .str x6), (7, .int .i64 x7), (14, .bool (decide (x7 < (x6.size : Int))))] [(72, .arr 9 1 (x4.map en_str))] rfl ⟨.inl rfl, ⟨.inl rfl, ⟨.inl rfl, ⟨.inl rfl, ⟨.inl rfl, trivial⟩⟩⟩⟩⟩ ⟨rfl, trivial⟩ ?_
  conv => whnf
  refine br_d H (fun c H => ?_) (fun c H => ?_)
  conv => whnf
  refine spec_l43Words.j0_sq (x4 := x4) (x5 := x5) (x7 := x7) (KK := k + 1) (r := r) ?_ ?_
  conv => whnf
  refine nd_ H (fun c H => ?_)
  conv => whnf
  refine Nd.mk nf_ ?_
  conv => whnf
  refine br_d H (fun c H => ?_) (fun c H => ?_)
  conv => whnf
  refine Nd.mk nf_ ?_
  conv => whnf
  refine nd_ H (fun c H => ?_)
  conv => whnf
  refine nd_ H (fun c H => ?_)
  conv => whnf
  exact ⟨(k, (x6.extract 0 (x7).toNat) ++ (⟨#[32]⟩ : ByteArray)), [], ⟨H, lt_⟩, (fits_of ⟨.inl ⟨rfl, rfl⟩, trivial⟩ trivial fi_ trivial rfl)⟩
  conv => whnf
  exact ⟨(k, x6), [], ⟨H, lt_⟩, (fits_of ⟨.inl ⟨rfl, rfl⟩, trivial⟩ trivial fi_ trivial rfl)⟩
  intro k x6_1 hk H; rcases k with _ | k; exact none_elim H; rw [spec_l43Words.j0] at H; conv => whnf
  refine nd_ H (fun c H => ?_)
  conv => whnf
  refine nd_ H (fun c H => ?_)
  conv => whnf
  refine cut_ 137 [(4, .own 72 x4.length), (5, .str x5), (6, .str x6_1), (7, .int .i64 x7), (28, .bool (!(decide ((bt x6_1 x7) = 32))))] [(72, .arr 9 1 (x4.map en_str))] rfl ⟨.inl rfl, ⟨.inl rfl, ⟨.inl rfl, ⟨.inl rfl, ⟨.inl rfl, trivial⟩⟩⟩⟩⟩ ⟨rfl, trivial⟩ ?_
  conv => whnf
  refine br_nd H (fun c H => ?_) (fun c H => ?_)
  conv => whnf
  refine br_nd H (fun c H => ?_) (fun c H => ?_)
  conv => whnf
  exact ⟨(k, x4, _, x6_1, wrap64 (x7 + 1)), [some 72], ⟨H, lt_⟩, lt_, (fits_of ⟨rfl, ⟨.inl ⟨rfl, rfl⟩, ⟨.inl ⟨rfl, rfl⟩, ⟨.inl ⟨rfl, rfl⟩, trivial⟩⟩⟩⟩ ⟨rfl, trivial⟩ fi_ trivial rfl)⟩
  conv => whnf
  refine Or.inl ?_
  conv => whnf
  refine nd_ H (fun c H => ?_)
  conv => whnf
  exact ⟨(k, (x4 ++ ([x5] : List ByteArray)), (⟨#[]⟩ : ByteArray), x6_1, wrap64 (x7 + 1)), [some 177], ⟨H, lt_⟩, lt_, (fits_of ⟨mt_own lm_, ⟨.inl ⟨rfl, rfl⟩, ⟨.inl ⟨rfl, rfl⟩, ⟨.inl ⟨rfl, rfl⟩, trivial⟩⟩⟩⟩ ⟨fm_, trivial⟩ fi_ trivial rfl)⟩
  conv => whnf
  refine Nd.mk nf_ ?_
  conv => whnf
  refine nd_ H (fun c H => ?_)
  conv => whnf
  refine nd_ H (fun c H => ?_)
  conv => whnf
  refine nd_ H (fun c H => ?_)
  conv => whnf
  refine Nd.mk nf_ ?_
  conv => whnf
  refine Nd.mk nf_ ?_
  conv => whnf
  revert H; refine bind_elim (fun t790 A H => ?_)
  refine call_mk (spec_l41In.ac A) (avAL_cons (avA_shut' rfl) (avAL_cons (avA_shut' rfl) (avAL_cons (avA_shut' rfl) (avAL_nil)))) (Or.inl rfl) rfl rfl (Nat.le_of_ble_eq_true rfl) ?_
  conv => whnf
  refine br_nt H (fun c H => ?_) (fun c H => ?_)
  conv => whnf
  refine Br.f ff_ ?_
  conv => whnf
  refine Br.f ff_ ?_
  conv => whnf
  refine Br.f ff_ ?_
  conv => whnf
  refine cut_ 289 [(4, .own 72 x4.length), (5, .str (x5 ++ (x6_1.extract (x7).toNat (wrap64 (x7 + 1)).toNat))), (6, .str x6_1), (7, .int .i64 x7), (46, .bool (decide (((x5 ++ (x6_1.extract (x7).toNat (wrap64 (x7 + 1)).toNat)).size : Int) > 24)))] [(72, .arr 9 1 (x4.map en_str))] rfl ⟨.inl rfl, ⟨.inl rfl, ⟨.inl rfl, ⟨.inl rfl, ⟨.inl rfl, trivial⟩⟩⟩⟩⟩ ⟨rfl, trivial⟩ ?_
  conv => whnf
  refine br_d H (fun c H => ?_) (fun c H => ?_)
  conv => whnf
  refine Or.inl ?_
  conv => whnf
  refine cut_ 313 [(2, .own 289 0), (3, .bool false)] [(289, .arr 9 1 (([] : List ByteArray).map en_str))] rfl ⟨.inl rfl, ⟨.inl rfl, trivial⟩⟩ ⟨fm_, trivial⟩ ?_
  conv => whnf
  injection H with H; subst H
  exact ret_tup [289] (rtAL_cons (rtA_fzD rfl lm_ lm_ rfl) (rtAL_cons (rtA_eq rfl) (rtAL_nil)))
  conv => whnf
  exact ⟨(k, x4, x5 ++ (x6_1.extract (x7).toNat (wrap64 (x7 + 1)).toNat), x6_1, wrap64 (x7 + 1)), [some 72], ⟨H, lt_⟩, lt_, (fits_of ⟨rfl, ⟨.inl ⟨rfl, rfl⟩, ⟨.inl ⟨rfl, rfl⟩, ⟨.inl ⟨rfl, rfl⟩, trivial⟩⟩⟩⟩ ⟨rfl, trivial⟩ fi_ trivial rfl)⟩
  conv => whnf
  refine Br.t ft_ ?_
  conv => whnf
  refine Br.t ft_ ?_
  conv => whnf
  refine Br.t ft_ ?_
  conv => whnf
  refine cut_ 289 [(4, .own 72 x4.length), (5, .str (x5 ++ (x6_1.extract (x7).toNat (wrap64 (x7 + 1)).toNat))), (6, .str x6_1), (7, .int .i64 x7), (46, .bool true)] [(72, .arr 9 1 (x4.map en_str))] rfl ⟨.inl rfl, ⟨.inl rfl, ⟨.inl rfl, ⟨.inl rfl, ⟨.inl rfl, trivial⟩⟩⟩⟩⟩ ⟨rfl, trivial⟩ ?_
  conv => whnf
  refine Br.t rfl ?_
  conv => whnf
  refine Or.inl ?_
  conv => whnf
  refine cut_ 313 [(2, .own 289 0), (3, .bool false)] [(289, .arr 9 1 (([] : List ByteArray).map en_str))] rfl ⟨.inl rfl, ⟨.inl rfl, trivial⟩⟩ ⟨fm_, trivial⟩ ?_
  conv => whnf
  injection H with H; subst H
  exact ret_tup [289] (rtAL_cons (rtA_fzD rfl lm_ lm_ rfl) (rtAL_cons (rtA_eq rfl) (rtAL_nil)))
  conv => whnf
  injection H with H; subst H
  exact ret_tup [72] (rtAL_cons (rtA_fz' rfl rfl) (rtAL_cons (rtA_eq rfl) (rtAL_nil)))
theorem spec_l43Number.l0_lp {F : (Exit → St → Prop) → St → Prop} {hv : List Tmp} {Q : Exit → St → Prop} {σ : St} {r : Int} {k : Nat} {a0 : ByteArray} {x3 : Int} {x4 : Int} (H : spec_l43Number.l0 k a0 x3 x4 = some r) (rn : List (Option Nat)) (h1 : Fits σ σ [] [(3, .int .i64 x3), (4, .int .i64 x4)] [] [] rn)
    (h2 : ∀ (k0 : Nat) (x3 : Int) (x4 : Int), k0 < k + 1 → spec_l43Number.l0 k0 a0 x3 x4 = some r → headN σ hv [] [(3, .int .i64 x3), (4, .int .i64 x4)] [] [] (F (fun e σ' => match e with | .normal => ∃ (y : Nat × Int × Int) (rn : List (Option Nat)), (spec_l43Number.l0 y.1 a0 y.2.1 y.2.2 = some r ∧ y.1 < k + 1) ∧ y.1 < k0 ∧ Fits σ σ' [] [(3, .int .i64 y.2.1), (4, .int .i64 y.2.2)] [] [] rn | e => Q e σ'))) : Lp F hv Q σ := by
  unfold Lp
  refine ⟨Nat × Int × Int, fun x => spec_l43Number.l0 x.1 a0 x.2.1 x.2.2 = some r ∧ x.1 < k + 1, fun x => x.1, [], fun x => [(3, .int .i64 x.2.1), (4, .int .i64 x.2.2)], fun x => [], fun x => [], ⟨(k, x3, x4), rn, ⟨H, Nat.lt_succ_self _⟩, h1⟩, ?_⟩
  rintro ⟨k, x3, x4⟩ ⟨H, hk⟩
  exact h2 k x3 x4 hk H
theorem spec_l43Number.l1_lp {F : (Exit → St → Prop) → St → Prop} {hv : List Tmp} {Q : Exit → St → Prop} {σ : St} {r : Int} {k : Nat} {a0 : ByteArray} {x3_1 : Int} {x4_1 : Int} (H : spec_l43Number.l1 k a0 x3_1 x4_1 = some r) (rn : List (Option Nat)) (h1 : Fits σ σ [] [(3, .int .i64 x3_1), (4, .int .i64 x4_1)] [] [] rn)
    (h2 : ∀ (k0 : Nat) (x3_1 : Int) (x4_1 : Int), k0 < k + 1 → spec_l43Number.l1 k0 a0 x3_1 x4_1 = some r → headN σ hv [] [(3, .int .i64 x3_1), (4, .int .i64 x4_1)] [] [] (F (fun e σ' => match e with | .normal => ∃ (y : Nat × Int × Int) (rn : List (Option Nat)), (spec_l43Number.l1 y.1 a0 y.2.1 y.2.2 = some r ∧ y.1 < k + 1) ∧ y.1 < k0 ∧ Fits σ σ' [] [(3, .int .i64 y.2.1), (4, .int .i64 y.2.2)] [] [] rn | e => Q e σ'))) : Lp F hv Q σ := by
  unfold Lp
  refine ⟨Nat × Int × Int, fun x => spec_l43Number.l1 x.1 a0 x.2.1 x.2.2 = some r ∧ x.1 < k + 1, fun x => x.1, [], fun x => [(3, .int .i64 x.2.1), (4, .int .i64 x.2.2)], fun x => [], fun x => [], ⟨(k, x3_1, x4_1), rn, ⟨H, Nat.lt_succ_self _⟩, h1⟩, ?_⟩
  rintro ⟨k, x3_1, x4_1⟩ ⟨H, hk⟩
  exact h2 k x3_1 x4_1 hk H
theorem spec_l43Number.ac {k : Nat} {a0 : ByteArray} {r : Int} (H : spec_l43Number.f k a0 = some r) : ACalls Tryd.prog G 105 [] [.str a0] [] (.int .i64 r) := by
  refine acalls_of tok hP Tryd.func105 rfl (by kernel_rfl) [.tmp 2] rfl (by kernel_rfl) (Nat.le_of_ble_eq_true rfl) (.l .n (.l (.c .n (.l (.c .n .n) .n)) (.c .n (.l (.l .n (.l .n (.l (.l (.c .n (.l (.c .n .n) .n)) .n) .n))) .n)))) rfl ?_
  unfold spec_l43Number.f at H
  conv => whnf
  revert H; refine bind_elim (fun t809 A H => ?_)
  refine call_mk (spec_l41In.ac A) (avAL_cons (avA_shut' rfl) (avAL_cons (avA_shut' rfl) (avAL_cons (avA_shut' rfl) (avAL_nil)))) (Or.inl rfl) rfl rfl (Nat.le_of_ble_eq_true rfl) ?_
  conv => whnf
  refine br_nt H (fun c H => ?_) (fun c H => ?_)
  conv => whnf
  refine Br.f ff_ ?_
  conv => whnf
  refine Br.f ff_ ?_
  conv => whnf
  refine Br.f ff_ ?_
  conv => whnf
  refine br_d H (fun c H => ?_) (fun c H => ?_)
  conv => whnf
  refine Br.t ft_ ?_
  conv => whnf
  refine Nd.mk (by decide) ?_
  conv => whnf
  refine nd_ H (fun c H => ?_)
  conv => whnf
  refine Br.t ft_ ?_
  conv => whnf
  refine Br.f ff_ ?_
  conv => whnf
  refine Br.t ft_ ?_
  conv => whnf
  refine Br.f ff_ ?_
  conv => whnf
  refine cut_ 120 [(0, .str a0), (18, .bool (decide ((bt a0 0) = 48)))] [] rfl ⟨.inl rfl, ⟨.inl rfl, trivial⟩⟩ trivial ?_
  conv => whnf
  refine br_d H (fun c H => ?_) (fun c H => ?_)
  conv => whnf
  refine cut_ 128 [(2, .int .i64 (-1))] [] rfl ⟨.inl rfl, trivial⟩ trivial ?_
  conv => whnf
  injection H with H; subst H
  exact ret_fz [] (rtA_eq rfl)
  conv => whnf
  refine cut_ 128 [(0, .str a0), (3, .int .i64 0)] [] rfl ⟨.inl rfl, ⟨.inl rfl, trivial⟩⟩ trivial ?_
  conv => whnf
  refine spec_l43Number.l0_lp (a0 := a0) (k := k) H [] (fits_of ⟨.inl ⟨rfl, rfl⟩, ⟨.inl ⟨rfl, rfl⟩, trivial⟩⟩ trivial fi_ trivial rfl) ?_
  intro k x3 x4 hk H; rcases k with _ | k; exact none_elim H; rw [spec_l43Number.l0] at H; conv => whnf
  refine br_d H (fun c H => ?_) (fun c H => ?_)
  conv => whnf
  refine nd_ H (fun c H => ?_)
  conv => whnf
  refine Nd.mk nf_ ?_
  conv => whnf
  refine br_d H (fun c H => ?_) (fun c H => ?_)
  conv => whnf
  refine Br.t ft_ ?_
  conv => whnf
  refine Br.t ft_ ?_
  conv => whnf
  refine Br.t ft_ ?_
  conv => whnf
  refine Br.t ft_ ?_
  conv => whnf
  refine cut_ 248 [(0, .str a0), (3, .int .i64 x3), (4, .int .i64 x4), (34, .bool true)] [] rfl ⟨.inl rfl, ⟨.inl rfl, ⟨.inl rfl, ⟨.inl rfl, trivial⟩⟩⟩⟩ trivial ?_
  conv => whnf
  refine Br.t rfl ?_
  conv => whnf
  refine cut_ 256 [(2, .int .i64 (-1))] [] rfl ⟨.inl rfl, trivial⟩ trivial ?_
  conv => whnf
  injection H with H; subst H
  exact ret_fz [] (rtA_eq rfl)
  conv => whnf
  refine Br.f ff_ ?_
  conv => whnf
  refine Br.f ff_ ?_
  conv => whnf
  refine Nd.mk nf_ ?_
  conv => whnf
  refine Nd.mk nf_ ?_
  conv => whnf
  refine Br.f ff_ ?_
  conv => whnf
  refine Br.f ff_ ?_
  conv => whnf
  refine cut_ 248 [(0, .str a0), (3, .int .i64 x3), (4, .int .i64 x4), (34, .bool (decide ((bt a0 x4) > 57)))] [] rfl ⟨.inl rfl, ⟨.inl rfl, ⟨.inl rfl, ⟨.inl rfl, trivial⟩⟩⟩⟩ trivial ?_
  conv => whnf
  refine br_d H (fun c H => ?_) (fun c H => ?_)
  conv => whnf
  refine cut_ 256 [(2, .int .i64 (-1))] [] rfl ⟨.inl rfl, trivial⟩ trivial ?_
  conv => whnf
  injection H with H; subst H
  exact ret_fz [] (rtA_eq rfl)
  conv => whnf
  refine Nd.mk nf_ ?_
  conv => whnf
  refine Nd.mk nf_ ?_
  conv => whnf
  exact ⟨(k, wrap64 ((wrap64 ((wrap64 (x3 * 10)) + (wrap64 (bt a0 x4)))) - 48), wrap64 (x4 + 1)), [], ⟨H, lt_⟩, lt_, (fits_of ⟨.inl ⟨rfl, rfl⟩, ⟨.inl ⟨rfl, rfl⟩, trivial⟩⟩ trivial fi_ trivial rfl)⟩
  conv => whnf
  injection H with H; subst H
  exact ret_fz [] (rtA_eq rfl)
  conv => whnf
  refine Br.f ff_ ?_
  conv => whnf
  refine Br.f ff_ ?_
  conv => whnf
  refine Br.f ff_ ?_
  conv => whnf
  refine Br.f ff_ ?_
  conv => whnf
  refine Br.f ff_ ?_
  conv => whnf
  refine cut_ 120 [(0, .str a0), (18, .bool false)] [] rfl ⟨.inl rfl, ⟨.inl rfl, trivial⟩⟩ trivial ?_
  conv => whnf
  refine Br.f rfl ?_
  conv => whnf
  refine cut_ 128 [(0, .str a0), (3, .int .i64 0)] [] rfl ⟨.inl rfl, ⟨.inl rfl, trivial⟩⟩ trivial ?_
  conv => whnf
  refine spec_l43Number.l1_lp (a0 := a0) (k := k) H [] (fits_of ⟨.inl ⟨rfl, rfl⟩, ⟨.inl ⟨rfl, rfl⟩, trivial⟩⟩ trivial fi_ trivial rfl) ?_
  intro k x3_1 x4_1 hk H; rcases k with _ | k; exact none_elim H; rw [spec_l43Number.l1] at H; conv => whnf
  refine br_d H (fun c H => ?_) (fun c H => ?_)
  conv => whnf
  refine nd_ H (fun c H => ?_)
  conv => whnf
  refine Nd.mk nf_ ?_
  conv => whnf
  refine br_d H (fun c H => ?_) (fun c H => ?_)
  conv => whnf
  refine Br.t ft_ ?_
  conv => whnf
  refine Br.t ft_ ?_
  conv => whnf
  refine Br.t ft_ ?_
  conv => whnf
  refine Br.t ft_ ?_
  conv => whnf
  refine cut_ 248 [(0, .str a0), (3, .int .i64 x3_1), (4, .int .i64 x4_1), (34, .bool true)] [] rfl ⟨.inl rfl, ⟨.inl rfl, ⟨.inl rfl, ⟨.inl rfl, trivial⟩⟩⟩⟩ trivial ?_
  conv => whnf
  refine Br.t rfl ?_
  conv => whnf
  refine cut_ 256 [(2, .int .i64 (-1))] [] rfl ⟨.inl rfl, trivial⟩ trivial ?_
  conv => whnf
  injection H with H; subst H
  exact ret_fz [] (rtA_eq rfl)
  conv => whnf
  refine Br.f ff_ ?_
  conv => whnf
  refine Br.f ff_ ?_
  conv => whnf
  refine Nd.mk nf_ ?_
  conv => whnf
  refine Nd.mk nf_ ?_
  conv => whnf
  refine Br.f ff_ ?_
  conv => whnf
  refine Br.f ff_ ?_
  conv => whnf
  refine cut_ 248 [(0, .str a0), (3, .int .i64 x3_1), (4, .int .i64 x4_1), (34, .bool (decide ((bt a0 x4_1) > 57)))] [] rfl ⟨.inl rfl, ⟨.inl rfl, ⟨.inl rfl, ⟨.inl rfl, trivial⟩⟩⟩⟩ trivial ?_
  conv => whnf
  refine br_d H (fun c H => ?_) (fun c H => ?_)
  conv => whnf
  refine cut_ 256 [(2, .int .i64 (-1))] [] rfl ⟨.inl rfl, trivial⟩ trivial ?_
  conv => whnf
  injection H with H; subst H
  exact ret_fz [] (rtA_eq rfl)
  conv => whnf
  refine Nd.mk nf_ ?_
  conv => whnf
  refine Nd.mk nf_ ?_
  conv => whnf
  exact ⟨(k, wrap64 ((wrap64 ((wrap64 (x3_1 * 10)) + (wrap64 (bt a0 x4_1)))) - 48), wrap64 (x4_1 + 1)), [], ⟨H, lt_⟩, lt_, (fits_of ⟨.inl ⟨rfl, rfl⟩, ⟨.inl ⟨rfl, rfl⟩, trivial⟩⟩ trivial fi_ trivial rfl)⟩
  conv => whnf
  injection H with H; subst H
  exact ret_fz [] (rtA_eq rfl)
  conv => whnf
  refine Br.t ft_ ?_
  conv => whnf
  refine Br.t ft_ ?_
  conv => whnf
  refine Br.t ft_ ?_
  conv => whnf
  refine Br.t ft_ ?_
  conv => whnf
  refine Br.t ft_ ?_
  conv => whnf
  refine cut_ 120 [(0, .str a0), (18, .bool true)] [] rfl ⟨.inl rfl, ⟨.inl rfl, trivial⟩⟩ trivial ?_
  conv => whnf
  refine Br.t rfl ?_
  conv => whnf
  refine cut_ 128 [(2, .int .i64 (-1))] [] rfl ⟨.inl rfl, trivial⟩ trivial ?_
  conv => whnf
  injection H with H; subst H
  exact ret_fz [] (rtA_eq rfl)
theorem spec_l43Tail.ac {k : Nat} {a0_0 : ByteArray} {a0_1 : Int} {a0_2 : ByteArray} {a0_3 : ByteArray} {a0_4 : Int} {a0_5 : Int} {a0_6 : ByteArray} {a0_7 : ByteArray} {l1 : List ByteArray} {r : ByteArray × Int × ByteArray × ByteArray × Int × Int × ByteArray × ByteArray × Bool} (H : spec_l43Tail.f k a0_0 a0_1 a0_2 a0_3 a0_4 a0_5 a0_6 a0_7 l1 = some r) : ACalls Tryd.prog G 106 [] [.agg [.str a0_0, .int .i64 a0_1, .str a0_2, .str a0_3, .int .i64 a0_4, .int .i64 a0_5, .str a0_6, .str a0_7], (sv_str l1)] [] (.tup [.agg [.str r.1, .int .i64 r.2.1, .str r.2.2.1, .str r.2.2.2.1, .int .i64 r.2.2.2.2.1, .int .i64 r.2.2.2.2.2.1, .str r.2.2.2.2.2.2.1, .str r.2.2.2.2.2.2.2.1], .bool r.2.2.2.2.2.2.2.2]) := by
  refine acalls_of tok hP Tryd.func106 rfl (by kernel_rfl) [.cell 4 73, .tmp 5] rfl (by kernel_rfl) (Nat.le_of_ble_eq_true rfl) (.l .n (.l (.c .n (.l (.c .n .n) .n)) (.c .n (.l .n (.l .n (.c .n .n)))))) rfl ?_
  unfold spec_l43Tail.f at H
  conv => whnf
  refine br_nd H (fun c H => ?_) (fun c H => ?_)
  conv => whnf
  refine Br.f ff_ ?_
  conv => whnf
  refine Nd.mk (by decide) ?_
  conv => whnf
  refine nd_ H (fun c H => ?_)
  conv => whnf
  refine El.mk (rdm_en_str _ _ nf_ nf_) ?_
  conv => whnf
  refine Br.f ff_ ?_
  conv => whnf
  refine Br.f ff_ ?_
  conv => whnf
  refine Br.f ff_ ?_
  conv => whnf
  refine br_nd H (fun c H => ?_) (fun c H => ?_)
  conv => whnf
  refine Br.f ff_ ?_
  conv => whnf
  refine Nd.mk (by decide) ?_
  conv => whnf
  refine nd_ H (fun c H => ?_)
  conv => whnf
  refine El.mk (rdm_en_str _ _ nf_ nf_) ?_
  conv => whnf
  refine Br.f ff_ ?_
  conv => whnf
  refine Br.f ff_ ?_
  conv => whnf
  refine Br.f ff_ ?_
  conv => whnf
  refine br_nd H (fun c H => ?_) (fun c H => ?_)
  conv => whnf
  refine Br.f ff_ ?_
  conv => whnf
  refine Nd.mk (by decide) ?_
  conv => whnf
  refine nd_ H (fun c H => ?_)
  conv => whnf
  refine El.mk (rdm_en_str _ _ nf_ nf_) ?_
  conv => whnf
  refine Br.f ff_ ?_
  conv => whnf
  refine Br.f ff_ ?_
  conv => whnf
  refine Br.f ff_ ?_
  conv => whnf
  refine cut_ 192 [(1, (sv_str l1)), (2, .bp 0 0), (4, .bp 8 0), (26, .bool (!(decide ((rdOf ByteArray.empty l1 4).toList = (⟨#[101, 108, 115, 101]⟩ : ByteArray).toList))))] [(0, .box [.str a0_0, .int .i64 a0_1, .str a0_2, .str a0_3, .int .i64 a0_4, .int .i64 a0_5, .str a0_6, .str a0_7]), (8, .box [.str (⟨#[]⟩ : ByteArray), .int .i64 0, .str (⟨#[]⟩ : ByteArray), .str (⟨#[]⟩ : ByteArray), .int .i64 0, .int .i64 0, .str (⟨#[]⟩ : ByteArray), .str (⟨#[]⟩ : ByteArray)])] rfl ⟨.inl rfl, ⟨.inl rfl, ⟨.inl rfl, ⟨.inl rfl, trivial⟩⟩⟩⟩ ⟨rfl, ⟨rfl, trivial⟩⟩ ?_
  conv => whnf
  refine br_nd H (fun c H => ?_) (fun c H => ?_)
  conv => whnf
  refine Nd.mk (by decide) ?_
  conv => whnf
  refine nd_ H (fun c H => ?_)
  conv => whnf
  refine El.mk (rdm_en_str _ _ nf_ nf_) ?_
  conv => whnf
  revert H; refine bind_elim (fun t822 A H => ?_)
  refine call_mk (spec_l43Number.ac A) (avAL_cons (avA_shut' rfl) (avAL_nil)) (Or.inl rfl) rfl rfl (Nat.le_of_ble_eq_true rfl) ?_
  conv => whnf
  refine cut_ 240 [(1, (sv_str l1)), (2, .bp 0 0), (4, .bp 8 0)] [(0, .box [.str a0_0, .int .i64 a0_1, .str a0_2, .str a0_3, .int .i64 a0_4, .int .i64 t822, .str a0_6, .str a0_7]), (8, .box [.str (⟨#[]⟩ : ByteArray), .int .i64 0, .str (⟨#[]⟩ : ByteArray), .str (⟨#[]⟩ : ByteArray), .int .i64 0, .int .i64 0, .str (⟨#[]⟩ : ByteArray), .str (⟨#[]⟩ : ByteArray)])] rfl ⟨.inl rfl, ⟨.inl rfl, ⟨.inl rfl, trivial⟩⟩⟩ ⟨rfl, ⟨rfl, trivial⟩⟩ ?_
  conv => whnf
  refine Nd.mk (by decide) ?_
  conv => whnf
  refine nd_ H (fun c H => ?_)
  conv => whnf
  refine El.mk (rdm_en_str _ _ nf_ nf_) ?_
  conv => whnf
  refine Nd.mk (by decide) ?_
  conv => whnf
  refine nd_ H (fun c H => ?_)
  conv => whnf
  refine El.mk (rdm_en_str _ _ nf_ nf_) ?_
  conv => whnf
  refine cut_ 344 [(4, .bp 8 0), (5, .bool true)] [(8, .box [.str a0_0, .int .i64 a0_1, .str a0_2, .str a0_3, .int .i64 a0_4, .int .i64 t822, .str (rdOf ByteArray.empty l1 3), .str (rdOf ByteArray.empty l1 5)])] rfl ⟨.inl rfl, ⟨.inl rfl, trivial⟩⟩ ⟨rfl, trivial⟩ ?_
  conv => whnf
  injection H with H; subst H
  exact ret_tup [] (rtAL_cons (rtA_agg (rtL_cons (rt_eq rfl) (rtL_cons (rt_eq rfl) (rtL_cons (rt_eq rfl) (rtL_cons (rt_eq rfl) (rtL_cons (rt_eq rfl) (rtL_cons (rt_eq rfl) (rtL_cons (rt_eq rfl) (rtL_cons (rt_eq rfl) (rtL_nil)))))))))) (rtAL_cons (rtA_eq rfl) (rtAL_nil)))
  conv => whnf
  refine cut_ 216 [(4, .bp 8 0), (5, .bool false)] [(8, .box [.str a0_0, .int .i64 a0_1, .str a0_2, .str a0_3, .int .i64 a0_4, .int .i64 a0_5, .str a0_6, .str a0_7])] rfl ⟨.inl rfl, ⟨.inl rfl, trivial⟩⟩ ⟨rfl, trivial⟩ ?_
  conv => whnf
  injection H with H; subst H
  exact ret_tup [] (rtAL_cons (rtA_agg (rtL_cons (rt_eq rfl) (rtL_cons (rt_eq rfl) (rtL_cons (rt_eq rfl) (rtL_cons (rt_eq rfl) (rtL_cons (rt_eq rfl) (rtL_cons (rt_eq rfl) (rtL_cons (rt_eq rfl) (rtL_cons (rt_eq rfl) (rtL_nil)))))))))) (rtAL_cons (rtA_eq rfl) (rtAL_nil)))
  conv => whnf
  refine Br.t ft_ ?_
  conv => whnf
  refine Br.t ft_ ?_
  conv => whnf
  refine Br.t ft_ ?_
  conv => whnf
  refine Br.t ft_ ?_
  conv => whnf
  refine cut_ 192 [(1, (sv_str l1)), (2, .bp 0 0), (4, .bp 8 0), (26, .bool true)] [(0, .box [.str a0_0, .int .i64 a0_1, .str a0_2, .str a0_3, .int .i64 a0_4, .int .i64 a0_5, .str a0_6, .str a0_7]), (8, .box [.str (⟨#[]⟩ : ByteArray), .int .i64 0, .str (⟨#[]⟩ : ByteArray), .str (⟨#[]⟩ : ByteArray), .int .i64 0, .int .i64 0, .str (⟨#[]⟩ : ByteArray), .str (⟨#[]⟩ : ByteArray)])] rfl ⟨.inl rfl, ⟨.inl rfl, ⟨.inl rfl, ⟨.inl rfl, trivial⟩⟩⟩⟩ ⟨rfl, ⟨rfl, trivial⟩⟩ ?_
  conv => whnf
  refine Br.t rfl ?_
  conv => whnf
  refine cut_ 216 [(4, .bp 8 0), (5, .bool false)] [(8, .box [.str a0_0, .int .i64 a0_1, .str a0_2, .str a0_3, .int .i64 a0_4, .int .i64 a0_5, .str a0_6, .str a0_7])] rfl ⟨.inl rfl, ⟨.inl rfl, trivial⟩⟩ ⟨rfl, trivial⟩ ?_
  conv => whnf
  injection H with H; subst H
  exact ret_tup [] (rtAL_cons (rtA_agg (rtL_cons (rt_eq rfl) (rtL_cons (rt_eq rfl) (rtL_cons (rt_eq rfl) (rtL_cons (rt_eq rfl) (rtL_cons (rt_eq rfl) (rtL_cons (rt_eq rfl) (rtL_cons (rt_eq rfl) (rtL_cons (rt_eq rfl) (rtL_nil)))))))))) (rtAL_cons (rtA_eq rfl) (rtAL_nil)))
  conv => whnf
  refine Br.t ft_ ?_
  conv => whnf
  refine Br.t ft_ ?_
  conv => whnf
  refine Br.t ft_ ?_
  conv => whnf
  refine Br.t ft_ ?_
  conv => whnf
  refine Br.t rfl ?_
  conv => whnf
  refine Br.t rfl ?_
  conv => whnf
  refine Br.t rfl ?_
  conv => whnf
  refine Br.t rfl ?_
  conv => whnf
  refine Br.t rfl ?_
  conv => whnf
  refine cut_ 192 [(1, (sv_str l1)), (2, .bp 0 0), (4, .bp 8 0), (26, .bool true)] [(0, .box [.str a0_0, .int .i64 a0_1, .str a0_2, .str a0_3, .int .i64 a0_4, .int .i64 a0_5, .str a0_6, .str a0_7]), (8, .box [.str (⟨#[]⟩ : ByteArray), .int .i64 0, .str (⟨#[]⟩ : ByteArray), .str (⟨#[]⟩ : ByteArray), .int .i64 0, .int .i64 0, .str (⟨#[]⟩ : ByteArray), .str (⟨#[]⟩ : ByteArray)])] rfl ⟨.inl rfl, ⟨.inl rfl, ⟨.inl rfl, ⟨.inl rfl, trivial⟩⟩⟩⟩ ⟨rfl, ⟨rfl, trivial⟩⟩ ?_
  conv => whnf
  refine Br.t rfl ?_
  conv => whnf
  refine cut_ 216 [(4, .bp 8 0), (5, .bool false)] [(8, .box [.str a0_0, .int .i64 a0_1, .str a0_2, .str a0_3, .int .i64 a0_4, .int .i64 a0_5, .str a0_6, .str a0_7])] rfl ⟨.inl rfl, ⟨.inl rfl, trivial⟩⟩ ⟨rfl, trivial⟩ ?_
  conv => whnf
  injection H with H; subst H
  exact ret_tup [] (rtAL_cons (rtA_agg (rtL_cons (rt_eq rfl) (rtL_cons (rt_eq rfl) (rtL_cons (rt_eq rfl) (rtL_cons (rt_eq rfl) (rtL_cons (rt_eq rfl) (rtL_cons (rt_eq rfl) (rtL_cons (rt_eq rfl) (rtL_cons (rt_eq rfl) (rtL_nil)))))))))) (rtAL_cons (rtA_eq rfl) (rtAL_nil)))
  conv => whnf
  refine Br.t ft_ ?_
  conv => whnf
  refine Br.t ft_ ?_
  conv => whnf
  refine Br.t ft_ ?_
  conv => whnf
  refine Br.t ft_ ?_
  conv => whnf
  refine Br.t rfl ?_
  conv => whnf
  refine Br.t rfl ?_
  conv => whnf
  refine Br.t rfl ?_
  conv => whnf
  refine Br.t rfl ?_
  conv => whnf
  refine Br.t rfl ?_
  conv => whnf
  refine Br.t rfl ?_
  conv => whnf
  refine Br.t rfl ?_
  conv => whnf
  refine Br.t rfl ?_
  conv => whnf
  refine Br.t rfl ?_
  conv => whnf
  refine Br.t rfl ?_
  conv => whnf
  refine cut_ 192 [(1, (sv_str l1)), (2, .bp 0 0), (4, .bp 8 0), (26, .bool true)] [(0, .box [.str a0_0, .int .i64 a0_1, .str a0_2, .str a0_3, .int .i64 a0_4, .int .i64 a0_5, .str a0_6, .str a0_7]), (8, .box [.str (⟨#[]⟩ : ByteArray), .int .i64 0, .str (⟨#[]⟩ : ByteArray), .str (⟨#[]⟩ : ByteArray), .int .i64 0, .int .i64 0, .str (⟨#[]⟩ : ByteArray), .str (⟨#[]⟩ : ByteArray)])] rfl ⟨.inl rfl, ⟨.inl rfl, ⟨.inl rfl, ⟨.inl rfl, trivial⟩⟩⟩⟩ ⟨rfl, ⟨rfl, trivial⟩⟩ ?_
  conv => whnf
  refine Br.t rfl ?_
  conv => whnf
  refine cut_ 216 [(4, .bp 8 0), (5, .bool false)] [(8, .box [.str a0_0, .int .i64 a0_1, .str a0_2, .str a0_3, .int .i64 a0_4, .int .i64 a0_5, .str a0_6, .str a0_7])] rfl ⟨.inl rfl, ⟨.inl rfl, trivial⟩⟩ ⟨rfl, trivial⟩ ?_
  conv => whnf
  injection H with H; subst H
  exact ret_tup [] (rtAL_cons (rtA_agg (rtL_cons (rt_eq rfl) (rtL_cons (rt_eq rfl) (rtL_cons (rt_eq rfl) (rtL_cons (rt_eq rfl) (rtL_cons (rt_eq rfl) (rtL_cons (rt_eq rfl) (rtL_cons (rt_eq rfl) (rtL_cons (rt_eq rfl) (rtL_nil)))))))))) (rtAL_cons (rtA_eq rfl) (rtAL_nil)))
theorem spec_l43Phase.j0_sq {F : (Exit → St → Prop) → St → Prop} {hv : List Tmp} {K : St → Prop} {Q : Exit → St → Prop} {σ : St} {r : ByteArray × Int × ByteArray × ByteArray × Int × Int × ByteArray × ByteArray × Bool} {KK : Nat}
    (h1 : F (fun e σ' => match e with | .normal => ∃ (y : Nat × ByteArray × Int × ByteArray × ByteArray × Int × Int × ByteArray × ByteArray × Bool) (rn : List (Option Nat)), (spec_l43Phase.j0 y.1 y.2.2.2.2.2.2.2.2.2 y.2.1 y.2.2.1 y.2.2.2.1 y.2.2.2.2.1 y.2.2.2.2.2.1 y.2.2.2.2.2.2.1 y.2.2.2.2.2.2.2.1 y.2.2.2.2.2.2.2.2.1 = some r ∧ y.1 < KK) ∧ Fits σ σ' [96] [(5, .bool y.2.2.2.2.2.2.2.2.2)] [(96, .box [.str y.2.1, .int .i64 y.2.2.1, .str y.2.2.2.1, .str y.2.2.2.2.1, .int .i64 y.2.2.2.2.2.1, .int .i64 y.2.2.2.2.2.2.1, .str y.2.2.2.2.2.2.2.1, .str y.2.2.2.2.2.2.2.2.1])] [] rn | e => Q e σ') σ)
    (h2 : ∀ (k : Nat) (x1096000 : ByteArray) (x1096001 : Int) (x1096002 : ByteArray) (x1096003 : ByteArray) (x1096004 : Int) (x1096005 : Int) (x1096006 : ByteArray) (x1096007 : ByteArray) (x5 : Bool), k < KK → spec_l43Phase.j0 k x5 x1096000 x1096001 x1096002 x1096003 x1096004 x1096005 x1096006 x1096007 = some r → headN σ hv [96] [(5, .bool x5)] [(96, .box [.str x1096000, .int .i64 x1096001, .str x1096002, .str x1096003, .int .i64 x1096004, .int .i64 x1096005, .str x1096006, .str x1096007])] [] K) : Sq F hv K Q σ := by
  unfold Sq
  refine ⟨Nat × ByteArray × Int × ByteArray × ByteArray × Int × Int × ByteArray × ByteArray × Bool, fun x => spec_l43Phase.j0 x.1 x.2.2.2.2.2.2.2.2.2 x.2.1 x.2.2.1 x.2.2.2.1 x.2.2.2.2.1 x.2.2.2.2.2.1 x.2.2.2.2.2.2.1 x.2.2.2.2.2.2.2.1 x.2.2.2.2.2.2.2.2.1 = some r ∧ x.1 < KK, [96], fun x => [(5, .bool x.2.2.2.2.2.2.2.2.2)], fun x => [(96, .box [.str x.2.1, .int .i64 x.2.2.1, .str x.2.2.2.1, .str x.2.2.2.2.1, .int .i64 x.2.2.2.2.2.1, .int .i64 x.2.2.2.2.2.2.1, .str x.2.2.2.2.2.2.2.1, .str x.2.2.2.2.2.2.2.2.1])], fun x => [], h1, ?_⟩
  rintro ⟨k, x1096000, x1096001, x1096002, x1096003, x1096004, x1096005, x1096006, x1096007, x5⟩ ⟨H, hk⟩
  exact h2 k x1096000 x1096001 x1096002 x1096003 x1096004 x1096005 x1096006 x1096007 x5 hk H
theorem spec_l43Phase.j1_sq {F : (Exit → St → Prop) → St → Prop} {hv : List Tmp} {K : St → Prop} {Q : Exit → St → Prop} {σ : St} {r : ByteArray × Int × ByteArray × ByteArray × Int × Int × ByteArray × ByteArray × Bool} {KK : Nat} {l0 : List ByteArray}
    (h1 : F (fun e σ' => match e with | .normal => ∃ (y : Nat × Bool) (rn : List (Option Nat)), (spec_l43Phase.j1 y.1 l0 y.2 = some r ∧ y.1 < KK) ∧ Fits σ σ' [] [(83, .bool y.2)] [] [] rn | e => Q e σ') σ)
    (h2 : ∀ (k : Nat) (x83 : Bool), k < KK → spec_l43Phase.j1 k l0 x83 = some r → headN σ hv [] [(83, .bool x83)] [] [] K) : Sq F hv K Q σ := by
  unfold Sq
  refine ⟨Nat × Bool, fun x => spec_l43Phase.j1 x.1 l0 x.2 = some r ∧ x.1 < KK, [], fun x => [(83, .bool x.2)], fun x => [], fun x => [], h1, ?_⟩
  rintro ⟨k, x83⟩ ⟨H, hk⟩
  exact h2 k x83 hk H
theorem spec_l43Phase.j2_sq {F : (Exit → St → Prop) → St → Prop} {hv : List Tmp} {K : St → Prop} {Q : Exit → St → Prop} {σ : St} {r : ByteArray × Int × ByteArray × ByteArray × Int × Int × ByteArray × ByteArray × Bool} {KK : Nat} {l0 : List ByteArray}
    (h1 : F (fun e σ' => match e with | .normal => ∃ (y : Nat × Bool) (rn : List (Option Nat)), (spec_l43Phase.j2 y.1 l0 y.2 = some r ∧ y.1 < KK) ∧ Fits σ σ' [] [(60, .bool y.2)] [] [] rn | e => Q e σ') σ)
    (h2 : ∀ (k : Nat) (x60 : Bool), k < KK → spec_l43Phase.j2 k l0 x60 = some r → headN σ hv [] [(60, .bool x60)] [] [] K) : Sq F hv K Q σ := by
  unfold Sq
  refine ⟨Nat × Bool, fun x => spec_l43Phase.j2 x.1 l0 x.2 = some r ∧ x.1 < KK, [], fun x => [(60, .bool x.2)], fun x => [], fun x => [], h1, ?_⟩
  rintro ⟨k, x60⟩ ⟨H, hk⟩
  exact h2 k x60 hk H
theorem spec_l43Phase.j3_sq {F : (Exit → St → Prop) → St → Prop} {hv : List Tmp} {K : St → Prop} {Q : Exit → St → Prop} {σ : St} {r : ByteArray × Int × ByteArray × ByteArray × Int × Int × ByteArray × ByteArray × Bool} {KK : Nat} {l0 : List ByteArray}
    (h1 : F (fun e σ' => match e with | .normal => ∃ (y : Nat × Bool) (rn : List (Option Nat)), (spec_l43Phase.j3 y.1 l0 y.2 = some r ∧ y.1 < KK) ∧ Fits σ σ' [] [(17, .bool y.2)] [] [] rn | e => Q e σ') σ)
    (h2 : ∀ (k : Nat) (x17 : Bool), k < KK → spec_l43Phase.j3 k l0 x17 = some r → headN σ hv [] [(17, .bool x17)] [] [] K) : Sq F hv K Q σ := by
  unfold Sq
  refine ⟨Nat × Bool, fun x => spec_l43Phase.j3 x.1 l0 x.2 = some r ∧ x.1 < KK, [], fun x => [(17, .bool x.2)], fun x => [], fun x => [], h1, ?_⟩
  rintro ⟨k, x17⟩ ⟨H, hk⟩
  exact h2 k x17 hk H
theorem spec_l43Phase.ac {k : Nat} {l0 : List ByteArray} {r : ByteArray × Int × ByteArray × ByteArray × Int × Int × ByteArray × ByteArray × Bool} (H : spec_l43Phase.f k l0 = some r) : ACalls Tryd.prog G 66 [] [(sv_str l0)] [] (.tup [.agg [.str r.1, .int .i64 r.2.1, .str r.2.2.1, .str r.2.2.2.1, .int .i64 r.2.2.2.2.1, .int .i64 r.2.2.2.2.2.1, .str r.2.2.2.2.2.2.1, .str r.2.2.2.2.2.2.2.1], .bool r.2.2.2.2.2.2.2.2]) := by
  refine acalls_of tok hP Tryd.func66 rfl (by kernel_rfl) [.cell 2 73, .tmp 3] rfl (by kernel_rfl) (Nat.le_of_ble_eq_true rfl) (.l .n (.l .n (.c .n (.l .n (.j (.j .n (.l (.c .n (.l .n (.l .n (.c .n .n)))) (.j .n (.l (.c .n .n) (.j .n (.l (.c .n .n) .n)))))) (.c .n .n)))))) rfl ?_
  unfold spec_l43Phase.f at H
  conv => whnf
  refine br_d H (fun c H => ?_) (fun c H => ?_)
  conv => whnf
  injection H with H; subst H
  exact ret_tup [] (rtAL_cons (rtA_agg (rtL_cons (rt_eq rfl) (rtL_cons (rt_eq rfl) (rtL_cons (rt_eq rfl) (rtL_cons (rt_eq rfl) (rtL_cons (rt_eq rfl) (rtL_cons (rt_eq rfl) (rtL_cons (rt_eq rfl) (rtL_cons (rt_eq rfl) (rtL_nil)))))))))) (rtAL_cons (rtA_eq rfl) (rtAL_nil)))
  conv => whnf
  refine Nd.mk (by decide) ?_
  conv => whnf
  refine nd_ H (fun c H => ?_)
  conv => whnf
  refine El.mk (rdm_en_str _ _ nf_ nf_) ?_
  conv => whnf
  refine Nd.mk (by decide) ?_
  conv => whnf
  refine nd_ H (fun c H => ?_)
  conv => whnf
  refine El.mk (rdm_en_str _ _ nf_ nf_) ?_
  conv => whnf
  refine cut_ 112 [(0, (sv_str l0)), (2, .bp 0 0), (4, .bp 96 0)] [(0, .box [.str (⟨#[]⟩ : ByteArray), .int .i64 0, .str (⟨#[]⟩ : ByteArray), .str (⟨#[]⟩ : ByteArray), .int .i64 0, .int .i64 0, .str (⟨#[]⟩ : ByteArray), .str (⟨#[]⟩ : ByteArray)]), (96, .box [.str (rdOf ByteArray.empty l0 0), .int .i64 0, .str (rdOf ByteArray.empty l0 2), .str (⟨#[]⟩ : ByteArray), .int .i64 0, .int .i64 0, .str (⟨#[]⟩ : ByteArray), .str (⟨#[]⟩ : ByteArray)])] rfl ⟨.inl rfl, ⟨.inl rfl, ⟨.inl rfl, trivial⟩⟩⟩ ⟨rfl, ⟨rfl, trivial⟩⟩ ?_
  conv => whnf
  refine spec_l43Phase.j0_sq (KK := k + 1) (r := r) ?_ ?_
  conv => whnf
  refine spec_l43Phase.j3_sq (l0 := l0) (KK := k + 1) (r := r) ?_ ?_
  conv => whnf
  refine Nd.mk (by decide) ?_
  conv => whnf
  refine nd_ H (fun c H => ?_)
  conv => whnf
  refine El.mk (rdm_en_str _ _ nf_ nf_) ?_
  conv => whnf
  refine br_d H (fun c H => ?_) (fun c H => ?_)
  conv => whnf
  refine Br.t ft_ ?_
  conv => whnf
  refine Br.t ft_ ?_
  conv => whnf
  refine Br.t ft_ ?_
  conv => whnf
  refine br_d H (fun c H => ?_) (fun c H => ?_)
  conv => whnf
  refine Br.t ft_ ?_
  conv => whnf
  refine Br.t ft_ ?_
  conv => whnf
  refine Br.t ft_ ?_
  conv => whnf
  refine Br.t ft_ ?_
  conv => whnf
  refine Br.t ft_ ?_
  conv => whnf
  refine Br.t ft_ ?_
  conv => whnf
  exact ⟨(k, true), [], ⟨H, lt_⟩, (fits_of ⟨.inl ⟨rfl, rfl⟩, trivial⟩ trivial fi_ trivial rfl)⟩
  conv => whnf
  refine Br.f ff_ ?_
  conv => whnf
  refine Nd.mk (by decide) ?_
  conv => whnf
  refine Nd.mk nf_ ?_
  conv => whnf
  refine El.mk (rdm_en_str _ _ nf_ nf_) ?_
  conv => whnf
  refine Br.f ff_ ?_
  conv => whnf
  refine Br.f ff_ ?_
  conv => whnf
  refine Br.f ff_ ?_
  conv => whnf
  refine br_d H (fun c H => ?_) (fun c H => ?_)
  conv => whnf
  refine Br.t ft_ ?_
  conv => whnf
  refine Br.t ft_ ?_
  conv => whnf
  refine Br.f ff_ ?_
  conv => whnf
  refine Br.t ft_ ?_
  conv => whnf
  refine Br.f ff_ ?_
  conv => whnf
  exact ⟨(k, decide ((l0.length : Int) = 11)), [], ⟨H, lt_⟩, (fits_of ⟨.inl ⟨rfl, rfl⟩, trivial⟩ trivial fi_ trivial rfl)⟩
  conv => whnf
  refine Br.f ff_ ?_
  conv => whnf
  refine Br.f ff_ ?_
  conv => whnf
  refine Br.f ff_ ?_
  conv => whnf
  refine Br.f ff_ ?_
  conv => whnf
  refine Br.f ff_ ?_
  conv => whnf
  exact ⟨(k, false), [], ⟨H, lt_⟩, (fits_of ⟨.inl ⟨rfl, rfl⟩, trivial⟩ trivial fi_ trivial rfl)⟩
  conv => whnf
  refine Br.f ff_ ?_
  conv => whnf
  refine Br.f ff_ ?_
  conv => whnf
  refine Br.f ff_ ?_
  conv => whnf
  refine Br.f rfl ?_
  conv => whnf
  refine Br.f rfl ?_
  conv => whnf
  refine Nd.mk (by decide) ?_
  conv => whnf
  refine Nd.mk nf_ ?_
  conv => whnf
  refine El.mk (rdm_en_str _ _ nf_ nf_) ?_
  conv => whnf
  refine Br.f rfl ?_
  conv => whnf
  refine Br.f rfl ?_
  conv => whnf
  refine Br.f rfl ?_
  conv => whnf
  refine br_d H (fun c H => ?_) (fun c H => ?_)
  conv => whnf
  refine Br.t ft_ ?_
  conv => whnf
  refine Br.t ft_ ?_
  conv => whnf
  refine Br.f rfl ?_
  conv => whnf
  refine Br.t ft_ ?_
  conv => whnf
  refine Br.f rfl ?_
  conv => whnf
  exact ⟨(k, decide ((l0.length : Int) = 11)), [], ⟨H, lt_⟩, (fits_of ⟨.inl ⟨rfl, rfl⟩, trivial⟩ trivial fi_ trivial rfl)⟩
  conv => whnf
  refine Br.f ff_ ?_
  conv => whnf
  refine Br.f ff_ ?_
  conv => whnf
  refine Br.f rfl ?_
  conv => whnf
  refine Br.f ff_ ?_
  conv => whnf
  refine Br.f rfl ?_
  conv => whnf
  exact ⟨(k, false), [], ⟨H, lt_⟩, (fits_of ⟨.inl ⟨rfl, rfl⟩, trivial⟩ trivial fi_ trivial rfl)⟩
  intro k x17 hk H; rcases k with _ | k; exact none_elim H; rw [spec_l43Phase.j3] at H; conv => whnf
  refine br_t H (fun c H => ?_) (fun c H => ?_)
  conv => whnf
  refine cut_ 136 [(0, (sv_str l0)), (2, .bp 0 0), (4, .bp 96 0)] [(0, .box [.str (⟨#[]⟩ : ByteArray), .int .i64 0, .str (⟨#[]⟩ : ByteArray), .str (⟨#[]⟩ : ByteArray), .int .i64 0, .int .i64 0, .str (⟨#[]⟩ : ByteArray), .str (⟨#[]⟩ : ByteArray)]), (96, .box [.str (rdOf ByteArray.empty l0 0), .int .i64 1, .str (rdOf ByteArray.empty l0 2), .str (⟨#[]⟩ : ByteArray), .int .i64 0, .int .i64 0, .str (⟨#[]⟩ : ByteArray), .str (⟨#[]⟩ : ByteArray)])] rfl ⟨.inl rfl, ⟨.inl rfl, ⟨.inl rfl, trivial⟩⟩⟩ ⟨rfl, ⟨rfl, trivial⟩⟩ ?_
  conv => whnf
  refine Nd.mk (by decide) ?_
  conv => whnf
  refine nd_ H (fun c H => ?_)
  conv => whnf
  refine El.mk (rdm_en_str _ _ nf_ nf_) ?_
  conv => whnf
  refine br_d H (fun c H => ?_) (fun c H => ?_)
  conv => whnf
  refine Nd.mk (by decide) ?_
  conv => whnf
  refine nd_ H (fun c H => ?_)
  conv => whnf
  refine El.mk (rdm_en_str _ _ nf_ nf_) ?_
  conv => whnf
  refine Nd.mk (by decide) ?_
  conv => whnf
  refine nd_ H (fun c H => ?_)
  conv => whnf
  refine El.mk (rdm_en_str _ _ nf_ nf_) ?_
  conv => whnf
  revert H; refine bind_elim (fun t857 A H => ?_)
  refine call_mk (spec_l43Number.ac A) (avAL_cons (avA_shut' rfl) (avAL_nil)) (Or.inl rfl) rfl rfl (Nat.le_of_ble_eq_true rfl) ?_
  conv => whnf
  refine cut_ 272 [(0, (sv_str l0)), (2, .bp 0 0), (4, .bp 96 0)] [(0, .box [.str (⟨#[]⟩ : ByteArray), .int .i64 0, .str (⟨#[]⟩ : ByteArray), .str (⟨#[]⟩ : ByteArray), .int .i64 0, .int .i64 0, .str (⟨#[]⟩ : ByteArray), .str (⟨#[]⟩ : ByteArray)]), (96, .box [.str (rdOf ByteArray.empty l0 0), .int .i64 2, .str (rdOf ByteArray.empty l0 2), .str (rdOf ByteArray.empty l0 3), .int .i64 t857, .int .i64 0, .str (⟨#[]⟩ : ByteArray), .str (⟨#[]⟩ : ByteArray)])] rfl ⟨.inl rfl, ⟨.inl rfl, ⟨.inl rfl, trivial⟩⟩⟩ ⟨rfl, ⟨rfl, trivial⟩⟩ ?_
  conv => whnf
  refine Nd.mk (by decide) ?_
  conv => whnf
  refine nd_ H (fun c H => ?_)
  conv => whnf
  revert H; refine bind_elim (fun t858 A H => ?_)
  refine call_mk (spec_l43Tail.ac A) (avAL_cons (avA_agg (avL_cons (av_shut' rfl) (avL_cons (av_shut' rfl) (avL_cons (av_shut' rfl) (avL_cons (av_shut' rfl) (avL_cons (av_shut' rfl) (avL_cons (av_shut' rfl) (avL_cons (av_shut' rfl) (avL_cons (av_shut' rfl) (avL_nil)))))))))) (avAL_cons (avA_slD lm_ lm_) (avAL_nil))) (Or.inl rfl) rfl rfl (Nat.le_of_ble_eq_true rfl) ?_
  conv => whnf
  exact ⟨(k, t858.1, t858.2.1, t858.2.2.1, t858.2.2.2.1, t858.2.2.2.2.1, t858.2.2.2.2.2.1, t858.2.2.2.2.2.2.1, t858.2.2.2.2.2.2.2.1, t858.2.2.2.2.2.2.2.2), [], ⟨H, lt_⟩, (fits_of ⟨.inl ⟨rfl, rfl⟩, trivial⟩ trivial fi_ ⟨⟨_, rfl⟩, ⟨_, rfl, ⟨.inl ⟨rfl, rfl⟩, ⟨.inl ⟨rfl, rfl⟩, ⟨.inl ⟨rfl, rfl⟩, ⟨.inl ⟨rfl, rfl⟩, ⟨.inl ⟨rfl, rfl⟩, ⟨.inl ⟨rfl, rfl⟩, ⟨.inl ⟨rfl, rfl⟩, ⟨.inl ⟨rfl, rfl⟩, trivial⟩⟩⟩⟩⟩⟩⟩⟩⟩, trivial⟩ rfl)⟩
  conv => whnf
  refine Nd.mk (by decide) ?_
  conv => whnf
  refine nd_ H (fun c H => ?_)
  conv => whnf
  refine El.mk (rdm_en_str _ _ nf_ nf_) ?_
  conv => whnf
  refine Nd.mk (by decide) ?_
  conv => whnf
  refine nd_ H (fun c H => ?_)
  conv => whnf
  refine El.mk (rdm_en_str _ _ nf_ nf_) ?_
  conv => whnf
  revert H; refine bind_elim (fun t859 A H => ?_)
  refine call_mk (spec_l43Number.ac A) (avAL_cons (avA_shut' rfl) (avAL_nil)) (Or.inl rfl) rfl rfl (Nat.le_of_ble_eq_true rfl) ?_
  conv => whnf
  refine cut_ 256 [(0, (sv_str l0)), (2, .bp 0 0), (4, .bp 96 0)] [(0, .box [.str (⟨#[]⟩ : ByteArray), .int .i64 0, .str (⟨#[]⟩ : ByteArray), .str (⟨#[]⟩ : ByteArray), .int .i64 0, .int .i64 0, .str (⟨#[]⟩ : ByteArray), .str (⟨#[]⟩ : ByteArray)]), (96, .box [.str (rdOf ByteArray.empty l0 0), .int .i64 1, .str (rdOf ByteArray.empty l0 2), .str (rdOf ByteArray.empty l0 3), .int .i64 t859, .int .i64 0, .str (⟨#[]⟩ : ByteArray), .str (⟨#[]⟩ : ByteArray)])] rfl ⟨.inl rfl, ⟨.inl rfl, ⟨.inl rfl, trivial⟩⟩⟩ ⟨rfl, ⟨rfl, trivial⟩⟩ ?_
  conv => whnf
  refine Nd.mk (by decide) ?_
  conv => whnf
  refine nd_ H (fun c H => ?_)
  conv => whnf
  revert H; refine bind_elim (fun t860 A H => ?_)
  refine call_mk (spec_l43Tail.ac A) (avAL_cons (avA_agg (avL_cons (av_shut' rfl) (avL_cons (av_shut' rfl) (avL_cons (av_shut' rfl) (avL_cons (av_shut' rfl) (avL_cons (av_shut' rfl) (avL_cons (av_shut' rfl) (avL_cons (av_shut' rfl) (avL_cons (av_shut' rfl) (avL_nil)))))))))) (avAL_cons (avA_slD lm_ lm_) (avAL_nil))) (Or.inl rfl) rfl rfl (Nat.le_of_ble_eq_true rfl) ?_
  conv => whnf
  exact ⟨(k, t860.1, t860.2.1, t860.2.2.1, t860.2.2.2.1, t860.2.2.2.2.1, t860.2.2.2.2.2.1, t860.2.2.2.2.2.2.1, t860.2.2.2.2.2.2.2.1, t860.2.2.2.2.2.2.2.2), [], ⟨H, lt_⟩, (fits_of ⟨.inl ⟨rfl, rfl⟩, trivial⟩ trivial fi_ ⟨⟨_, rfl⟩, ⟨_, rfl, ⟨.inl ⟨rfl, rfl⟩, ⟨.inl ⟨rfl, rfl⟩, ⟨.inl ⟨rfl, rfl⟩, ⟨.inl ⟨rfl, rfl⟩, ⟨.inl ⟨rfl, rfl⟩, ⟨.inl ⟨rfl, rfl⟩, ⟨.inl ⟨rfl, rfl⟩, ⟨.inl ⟨rfl, rfl⟩, trivial⟩⟩⟩⟩⟩⟩⟩⟩⟩, trivial⟩ rfl)⟩
  conv => whnf
  refine spec_l43Phase.j2_sq (l0 := l0) (KK := k + 1) (r := r) ?_ ?_
  conv => whnf
  refine Nd.mk (by decide) ?_
  conv => whnf
  refine nd_ H (fun c H => ?_)
  conv => whnf
  refine El.mk (rdm_en_str _ _ nf_ nf_) ?_
  conv => whnf
  refine br_d H (fun c H => ?_) (fun c H => ?_)
  conv => whnf
  refine Br.t ft_ ?_
  conv => whnf
  refine Br.t ft_ ?_
  conv => whnf
  refine Br.t ft_ ?_
  conv => whnf
  exact ⟨(k, decide ((l0.length : Int) = 10)), [], ⟨H, lt_⟩, (fits_of ⟨.inl ⟨rfl, rfl⟩, trivial⟩ trivial fi_ trivial rfl)⟩
  conv => whnf
  refine Br.f ff_ ?_
  conv => whnf
  refine Br.f ff_ ?_
  conv => whnf
  refine Br.f ff_ ?_
  conv => whnf
  exact ⟨(k, false), [], ⟨H, lt_⟩, (fits_of ⟨.inl ⟨rfl, rfl⟩, trivial⟩ trivial fi_ trivial rfl)⟩
  intro k x60 hk H; rcases k with _ | k; exact none_elim H; rw [spec_l43Phase.j2] at H; conv => whnf
  refine br_t H (fun c H => ?_) (fun c H => ?_)
  conv => whnf
  refine cut_ 136 [(0, (sv_str l0)), (2, .bp 0 0), (4, .bp 96 0)] [(0, .box [.str (⟨#[]⟩ : ByteArray), .int .i64 0, .str (⟨#[]⟩ : ByteArray), .str (⟨#[]⟩ : ByteArray), .int .i64 0, .int .i64 0, .str (⟨#[]⟩ : ByteArray), .str (⟨#[]⟩ : ByteArray)]), (96, .box [.str (rdOf ByteArray.empty l0 0), .int .i64 3, .str (rdOf ByteArray.empty l0 2), .str (⟨#[]⟩ : ByteArray), .int .i64 0, .int .i64 0, .str (⟨#[]⟩ : ByteArray), .str (⟨#[]⟩ : ByteArray)])] rfl ⟨.inl rfl, ⟨.inl rfl, ⟨.inl rfl, trivial⟩⟩⟩ ⟨rfl, ⟨rfl, trivial⟩⟩ ?_
  conv => whnf
  refine Nd.mk (by decide) ?_
  conv => whnf
  refine nd_ H (fun c H => ?_)
  conv => whnf
  refine El.mk (rdm_en_str _ _ nf_ nf_) ?_
  conv => whnf
  revert H; refine bind_elim (fun t861 A H => ?_)
  refine call_mk (spec_l43Number.ac A) (avAL_cons (avA_shut' rfl) (avAL_nil)) (Or.inl rfl) rfl rfl (Nat.le_of_ble_eq_true rfl) ?_
  conv => whnf
  refine Nd.mk (by decide) ?_
  conv => whnf
  refine nd_ H (fun c H => ?_)
  conv => whnf
  revert H; refine bind_elim (fun t862 A H => ?_)
  refine call_mk (spec_l43Tail.ac A) (avAL_cons (avA_agg (avL_cons (av_shut' rfl) (avL_cons (av_shut' rfl) (avL_cons (av_shut' rfl) (avL_cons (av_shut' rfl) (avL_cons (av_shut' rfl) (avL_cons (av_shut' rfl) (avL_cons (av_shut' rfl) (avL_cons (av_shut' rfl) (avL_nil)))))))))) (avAL_cons (avA_slD lm_ lm_) (avAL_nil))) (Or.inl rfl) rfl rfl (Nat.le_of_ble_eq_true rfl) ?_
  conv => whnf
  exact ⟨(k, t862.1, t862.2.1, t862.2.2.1, t862.2.2.2.1, t862.2.2.2.2.1, t862.2.2.2.2.2.1, t862.2.2.2.2.2.2.1, t862.2.2.2.2.2.2.2.1, t862.2.2.2.2.2.2.2.2), [], ⟨H, lt_⟩, (fits_of ⟨.inl ⟨rfl, rfl⟩, trivial⟩ trivial fi_ ⟨⟨_, rfl⟩, ⟨_, rfl, ⟨.inl ⟨rfl, rfl⟩, ⟨.inl ⟨rfl, rfl⟩, ⟨.inl ⟨rfl, rfl⟩, ⟨.inl ⟨rfl, rfl⟩, ⟨.inl ⟨rfl, rfl⟩, ⟨.inl ⟨rfl, rfl⟩, ⟨.inl ⟨rfl, rfl⟩, ⟨.inl ⟨rfl, rfl⟩, trivial⟩⟩⟩⟩⟩⟩⟩⟩⟩, trivial⟩ rfl)⟩
  conv => whnf
  refine spec_l43Phase.j1_sq (l0 := l0) (KK := k + 1) (r := r) ?_ ?_
  conv => whnf
  refine Nd.mk (by decide) ?_
  conv => whnf
  refine nd_ H (fun c H => ?_)
  conv => whnf
  refine El.mk (rdm_en_str _ _ nf_ nf_) ?_
  conv => whnf
  refine br_d H (fun c H => ?_) (fun c H => ?_)
  conv => whnf
  refine Br.t ft_ ?_
  conv => whnf
  refine Br.t ft_ ?_
  conv => whnf
  refine Br.t ft_ ?_
  conv => whnf
  refine br_d H (fun c H => ?_) (fun c H => ?_)
  conv => whnf
  refine Br.t ft_ ?_
  conv => whnf
  refine Br.t ft_ ?_
  conv => whnf
  refine Br.t ft_ ?_
  conv => whnf
  refine Br.t ft_ ?_
  conv => whnf
  refine Br.t ft_ ?_
  conv => whnf
  refine Br.t ft_ ?_
  conv => whnf
  exact ⟨(k, true), [], ⟨H, lt_⟩, (fits_of ⟨.inl ⟨rfl, rfl⟩, trivial⟩ trivial fi_ trivial rfl)⟩
  conv => whnf
  refine Br.f ff_ ?_
  conv => whnf
  refine Nd.mk (by decide) ?_
  conv => whnf
  refine Nd.mk nf_ ?_
  conv => whnf
  refine El.mk (rdm_en_str _ _ nf_ nf_) ?_
  conv => whnf
  refine Br.f ff_ ?_
  conv => whnf
  refine Br.f ff_ ?_
  conv => whnf
  refine Br.f ff_ ?_
  conv => whnf
  refine br_d H (fun c H => ?_) (fun c H => ?_)
  conv => whnf
  refine Br.t ft_ ?_
  conv => whnf
  refine Br.t ft_ ?_
  conv => whnf
  refine Br.f ff_ ?_
  conv => whnf
  refine Br.t ft_ ?_
  conv => whnf
  refine Br.f ff_ ?_
  conv => whnf
  exact ⟨(k, decide ((l0.length : Int) = 9)), [], ⟨H, lt_⟩, (fits_of ⟨.inl ⟨rfl, rfl⟩, trivial⟩ trivial fi_ trivial rfl)⟩
  conv => whnf
  refine Br.f ff_ ?_
  conv => whnf
  refine Br.f ff_ ?_
  conv => whnf
  refine Br.f ff_ ?_
  conv => whnf
  refine Br.f ff_ ?_
  conv => whnf
  refine Br.f ff_ ?_
  conv => whnf
  exact ⟨(k, false), [], ⟨H, lt_⟩, (fits_of ⟨.inl ⟨rfl, rfl⟩, trivial⟩ trivial fi_ trivial rfl)⟩
  conv => whnf
  refine Br.f ff_ ?_
  conv => whnf
  refine Br.f ff_ ?_
  conv => whnf
  refine Br.f ff_ ?_
  conv => whnf
  refine Br.f rfl ?_
  conv => whnf
  refine Br.f rfl ?_
  conv => whnf
  refine Nd.mk (by decide) ?_
  conv => whnf
  refine Nd.mk nf_ ?_
  conv => whnf
  refine El.mk (rdm_en_str _ _ nf_ nf_) ?_
  conv => whnf
  refine Br.f rfl ?_
  conv => whnf
  refine Br.f rfl ?_
  conv => whnf
  refine Br.f rfl ?_
  conv => whnf
  refine br_d H (fun c H => ?_) (fun c H => ?_)
  conv => whnf
  refine Br.t ft_ ?_
  conv => whnf
  refine Br.t ft_ ?_
  conv => whnf
  refine Br.f rfl ?_
  conv => whnf
  refine Br.t ft_ ?_
  conv => whnf
  refine Br.f rfl ?_
  conv => whnf
  exact ⟨(k, decide ((l0.length : Int) = 9)), [], ⟨H, lt_⟩, (fits_of ⟨.inl ⟨rfl, rfl⟩, trivial⟩ trivial fi_ trivial rfl)⟩
  conv => whnf
  refine Br.f ff_ ?_
  conv => whnf
  refine Br.f ff_ ?_
  conv => whnf
  refine Br.f rfl ?_
  conv => whnf
  refine Br.f ff_ ?_
  conv => whnf
  refine Br.f rfl ?_
  conv => whnf
  exact ⟨(k, false), [], ⟨H, lt_⟩, (fits_of ⟨.inl ⟨rfl, rfl⟩, trivial⟩ trivial fi_ trivial rfl)⟩
  intro k x83 hk H; rcases k with _ | k; exact none_elim H; rw [spec_l43Phase.j1] at H; conv => whnf
  refine br_t H (fun c H => ?_) (fun c H => ?_)
  conv => whnf
  refine cut_ 136 [(0, (sv_str l0)), (2, .bp 0 0), (4, .bp 96 0)] [(0, .box [.str (⟨#[]⟩ : ByteArray), .int .i64 0, .str (⟨#[]⟩ : ByteArray), .str (⟨#[]⟩ : ByteArray), .int .i64 0, .int .i64 0, .str (⟨#[]⟩ : ByteArray), .str (⟨#[]⟩ : ByteArray)]), (96, .box [.str (rdOf ByteArray.empty l0 0), .int .i64 4, .str (rdOf ByteArray.empty l0 2), .str (⟨#[]⟩ : ByteArray), .int .i64 0, .int .i64 0, .str (⟨#[]⟩ : ByteArray), .str (⟨#[]⟩ : ByteArray)])] rfl ⟨.inl rfl, ⟨.inl rfl, ⟨.inl rfl, trivial⟩⟩⟩ ⟨rfl, ⟨rfl, trivial⟩⟩ ?_
  conv => whnf
  refine Nd.mk (by decide) ?_
  conv => whnf
  refine nd_ H (fun c H => ?_)
  conv => whnf
  refine El.mk (rdm_en_str _ _ nf_ nf_) ?_
  conv => whnf
  refine br_d H (fun c H => ?_) (fun c H => ?_)
  conv => whnf
  refine Nd.mk (by decide) ?_
  conv => whnf
  refine nd_ H (fun c H => ?_)
  conv => whnf
  revert H; refine bind_elim (fun t863 A H => ?_)
  refine call_mk (spec_l43Tail.ac A) (avAL_cons (avA_agg (avL_cons (av_shut' rfl) (avL_cons (av_shut' rfl) (avL_cons (av_shut' rfl) (avL_cons (av_shut' rfl) (avL_cons (av_shut' rfl) (avL_cons (av_shut' rfl) (avL_cons (av_shut' rfl) (avL_cons (av_shut' rfl) (avL_nil)))))))))) (avAL_cons (avA_slD lm_ lm_) (avAL_nil))) (Or.inl rfl) rfl rfl (Nat.le_of_ble_eq_true rfl) ?_
  conv => whnf
  exact ⟨(k, t863.1, t863.2.1, t863.2.2.1, t863.2.2.2.1, t863.2.2.2.2.1, t863.2.2.2.2.2.1, t863.2.2.2.2.2.2.1, t863.2.2.2.2.2.2.2.1, t863.2.2.2.2.2.2.2.2), [], ⟨H, lt_⟩, (fits_of ⟨.inl ⟨rfl, rfl⟩, trivial⟩ trivial fi_ ⟨⟨_, rfl⟩, ⟨_, rfl, ⟨.inl ⟨rfl, rfl⟩, ⟨.inl ⟨rfl, rfl⟩, ⟨.inl ⟨rfl, rfl⟩, ⟨.inl ⟨rfl, rfl⟩, ⟨.inl ⟨rfl, rfl⟩, ⟨.inl ⟨rfl, rfl⟩, ⟨.inl ⟨rfl, rfl⟩, ⟨.inl ⟨rfl, rfl⟩, trivial⟩⟩⟩⟩⟩⟩⟩⟩⟩, trivial⟩ rfl)⟩
  conv => whnf
  refine Nd.mk (by decide) ?_
  conv => whnf
  refine nd_ H (fun c H => ?_)
  conv => whnf
  revert H; refine bind_elim (fun t864 A H => ?_)
  refine call_mk (spec_l43Tail.ac A) (avAL_cons (avA_agg (avL_cons (av_shut' rfl) (avL_cons (av_shut' rfl) (avL_cons (av_shut' rfl) (avL_cons (av_shut' rfl) (avL_cons (av_shut' rfl) (avL_cons (av_shut' rfl) (avL_cons (av_shut' rfl) (avL_cons (av_shut' rfl) (avL_nil)))))))))) (avAL_cons (avA_slD lm_ lm_) (avAL_nil))) (Or.inl rfl) rfl rfl (Nat.le_of_ble_eq_true rfl) ?_
  conv => whnf
  exact ⟨(k, t864.1, t864.2.1, t864.2.2.1, t864.2.2.2.1, t864.2.2.2.2.1, t864.2.2.2.2.2.1, t864.2.2.2.2.2.2.1, t864.2.2.2.2.2.2.2.1, t864.2.2.2.2.2.2.2.2), [], ⟨H, lt_⟩, (fits_of ⟨.inl ⟨rfl, rfl⟩, trivial⟩ trivial fi_ ⟨⟨_, rfl⟩, ⟨_, rfl, ⟨.inl ⟨rfl, rfl⟩, ⟨.inl ⟨rfl, rfl⟩, ⟨.inl ⟨rfl, rfl⟩, ⟨.inl ⟨rfl, rfl⟩, ⟨.inl ⟨rfl, rfl⟩, ⟨.inl ⟨rfl, rfl⟩, ⟨.inl ⟨rfl, rfl⟩, ⟨.inl ⟨rfl, rfl⟩, trivial⟩⟩⟩⟩⟩⟩⟩⟩⟩, trivial⟩ rfl)⟩
  conv => whnf
  exact ⟨(k, rdOf ByteArray.empty l0 0, 0, rdOf ByteArray.empty l0 2, (⟨#[]⟩ : ByteArray), 0, 0, (⟨#[]⟩ : ByteArray), (⟨#[]⟩ : ByteArray), false), [], ⟨H, lt_⟩, (fits_of ⟨.inl ⟨rfl, rfl⟩, trivial⟩ trivial fi_ ⟨⟨_, rfl⟩, ⟨_, rfl, ⟨.inl ⟨rfl, rfl⟩, ⟨.inl ⟨rfl, rfl⟩, ⟨.inl ⟨rfl, rfl⟩, ⟨.inl ⟨rfl, rfl⟩, ⟨.inl ⟨rfl, rfl⟩, ⟨.inl ⟨rfl, rfl⟩, ⟨.inl ⟨rfl, rfl⟩, ⟨.inl ⟨rfl, rfl⟩, trivial⟩⟩⟩⟩⟩⟩⟩⟩⟩, trivial⟩ rfl)⟩
  intro k x1096000 x1096001 x1096002 x1096003 x1096004 x1096005 x1096006 x1096007 x5 hk H; rcases k with _ | k; exact none_elim H; rw [spec_l43Phase.j0] at H; conv => whnf
  refine br_t H (fun c H => ?_) (fun c H => ?_)
  conv => whnf
  refine Br.t ft_ ?_
  conv => whnf
  revert H; refine bind_elim (fun t856 A H => ?_)
  refine call_mk (spec_RecPhaseOk.ac A) (avAL_cons (avA_agg (avL_cons (av_shut' rfl) (avL_cons (av_shut' rfl) (avL_cons (av_shut' rfl) (avL_cons (av_shut' rfl) (avL_cons (av_shut' rfl) (avL_cons (av_shut' rfl) (avL_cons (av_shut' rfl) (avL_cons (av_shut' rfl) (avL_nil)))))))))) (avAL_nil)) (Or.inl rfl) rfl rfl (Nat.le_of_ble_eq_true rfl) ?_
  conv => whnf
  refine Br.t ft_ ?_
  conv => whnf
  refine cut_ 184 [(2, .bp 0 0), (3, .bool t856)] [(0, .box [.str x1096000, .int .i64 x1096001, .str x1096002, .str x1096003, .int .i64 x1096004, .int .i64 x1096005, .str x1096006, .str x1096007])] rfl ⟨.inl rfl, ⟨.inl rfl, trivial⟩⟩ ⟨rfl, trivial⟩ ?_
  conv => whnf
  injection H with H; subst H
  exact ret_tup [] (rtAL_cons (rtA_agg (rtL_cons (rt_eq rfl) (rtL_cons (rt_eq rfl) (rtL_cons (rt_eq rfl) (rtL_cons (rt_eq rfl) (rtL_cons (rt_eq rfl) (rtL_cons (rt_eq rfl) (rtL_cons (rt_eq rfl) (rtL_cons (rt_eq rfl) (rtL_nil)))))))))) (rtAL_cons (rtA_eq rfl) (rtAL_nil)))
  conv => whnf
  refine Br.f ff_ ?_
  conv => whnf
  refine Br.f ff_ ?_
  conv => whnf
  refine cut_ 184 [(2, .bp 0 0), (3, .bool false)] [(0, .box [.str x1096000, .int .i64 x1096001, .str x1096002, .str x1096003, .int .i64 x1096004, .int .i64 x1096005, .str x1096006, .str x1096007])] rfl ⟨.inl rfl, ⟨.inl rfl, trivial⟩⟩ ⟨rfl, trivial⟩ ?_
  conv => whnf
  injection H with H; subst H
  exact ret_tup [] (rtAL_cons (rtA_agg (rtL_cons (rt_eq rfl) (rtL_cons (rt_eq rfl) (rtL_cons (rt_eq rfl) (rtL_cons (rt_eq rfl) (rtL_cons (rt_eq rfl) (rtL_cons (rt_eq rfl) (rtL_cons (rt_eq rfl) (rtL_cons (rt_eq rfl) (rtL_nil)))))))))) (rtAL_cons (rtA_eq rfl) (rtAL_nil)))
theorem spec_l43Refers.l0_lp {F : (Exit → St → Prop) → St → Prop} {hv : List Tmp} {Q : Exit → St → Prop} {σ : St} {r : Int × Int} {k : Nat} {l0 : List S_impl_RecPhase} {l1 : List Int} {x5 : Int} (H : spec_l43Refers.l0 k l0 l1 x5 = some r) (rn : List (Option Nat)) (h1 : Fits σ σ [] [(5, .int .i64 x5)] [] [] rn)
    (h2 : ∀ (k0 : Nat) (x5 : Int), k0 < k + 1 → spec_l43Refers.l0 k0 l0 l1 x5 = some r → headN σ hv [] [(5, .int .i64 x5)] [] [] (F (fun e σ' => match e with | .normal => ∃ (y : Nat × Int) (rn : List (Option Nat)), (spec_l43Refers.l0 y.1 l0 l1 y.2 = some r ∧ y.1 < k + 1) ∧ y.1 < k0 ∧ Fits σ σ' [] [(5, .int .i64 y.2)] [] [] rn | e => Q e σ'))) : Lp F hv Q σ := by
  unfold Lp
  refine ⟨Nat × Int, fun x => spec_l43Refers.l0 x.1 l0 l1 x.2 = some r ∧ x.1 < k + 1, fun x => x.1, [], fun x => [(5, .int .i64 x.2)], fun x => [], fun x => [], ⟨(k, x5), rn, ⟨H, Nat.lt_succ_self _⟩, h1⟩, ?_⟩
  rintro ⟨k, x5⟩ ⟨H, hk⟩
  exact h2 k x5 hk H
theorem spec_l43Refers.ac {k : Nat} {l0 : List S_impl_RecPhase} {l1 : List Int} {r : Int × Int} (H : spec_l43Refers.f k l0 l1 = some r) : ACalls Tryd.prog G 68 [] [(sv_S_impl_RecPhase l0), (sv_i64 l1)] [] (.agg [.int .i64 r.1, .int .i64 r.2]) := by
  refine acalls_of tok hP Tryd.func68 rfl (by kernel_rfl) [.cell 4 54] rfl (by kernel_rfl) (Nat.le_of_ble_eq_true rfl) (.l .n (.l (.l .n (.l .n (.l (.c .n (.l (.c .n .n) .n)) .n))) .n)) rfl ?_
  unfold spec_l43Refers.f at H
  conv => whnf
  refine spec_l43Refers.l0_lp (l0 := l0) (l1 := l1) (k := k) H [] (fits_of ⟨.inl ⟨rfl, rfl⟩, trivial⟩ trivial fi_ trivial rfl) ?_
  intro k x5 hk H; rcases k with _ | k; exact none_elim H; rw [spec_l43Refers.l0] at H; conv => whnf
  refine br_d H (fun c H => ?_) (fun c H => ?_)
  conv => whnf
  refine nd_ H (fun c H => ?_)
  conv => whnf
  refine Nd.mk nf_ ?_
  conv => whnf
  refine El.mk (rdm_en_S_impl_RecPhase _ _ nf_ nf_) ?_
  conv => whnf
  revert H; refine bind_elim (fun t914 A H => ?_)
  refine call_mk (spec_RecEnd.ac A) (avAL_cons (avA_shut' rfl) (avAL_nil)) (Or.inl rfl) rfl rfl (Nat.le_of_ble_eq_true rfl) ?_
  conv => whnf
  refine br_d H (fun c H => ?_) (fun c H => ?_)
  conv => whnf
  refine Br.t ft_ ?_
  conv => whnf
  refine Br.t ft_ ?_
  conv => whnf
  refine Br.t ft_ ?_
  conv => whnf
  refine Nd.mk nf_ ?_
  conv => whnf
  refine Nd.mk nf_ ?_
  conv => whnf
  refine El.mk (rdm_en_S_impl_RecPhase _ _ nf_ nf_) ?_
  conv => whnf
  refine Br.t ft_ ?_
  conv => whnf
  refine Br.t ft_ ?_
  conv => whnf
  refine Br.t ft_ ?_
  conv => whnf
  revert H; refine bind_elim (fun t915 A H => ?_)
  refine call_mk (spec_l42At.ac A) (avAL_cons (avA_shut' rfl) (avAL_cons (avA_shut' rfl) (avAL_nil))) (Or.inl rfl) rfl rfl (Nat.le_of_ble_eq_true rfl) ?_
  conv => whnf
  refine Br.t ft_ ?_
  conv => whnf
  refine Br.t ft_ ?_
  conv => whnf
  refine Br.t ft_ ?_
  conv => whnf
  refine br_d H (fun c H => ?_) (fun c H => ?_)
  conv => whnf
  refine Br.t ft_ ?_
  conv => whnf
  refine Br.t ft_ ?_
  conv => whnf
  refine Br.t ft_ ?_
  conv => whnf
  refine Br.t ft_ ?_
  conv => whnf
  refine Br.t ft_ ?_
  conv => whnf
  refine Br.t ft_ ?_
  conv => whnf
  refine Br.t ft_ ?_
  conv => whnf
  refine Br.t ft_ ?_
  conv => whnf
  refine Br.t ft_ ?_
  conv => whnf
  refine cut_ 352 [(0, (sv_S_impl_RecPhase l0)), (1, (sv_i64 l1)), (4, .bp 0 0), (5, .int .i64 x5), (49, .bool true)] [(0, .box [.int .i64 0, .int .i64 0])] rfl ⟨.inl rfl, ⟨.inl rfl, ⟨.inl rfl, ⟨.inl rfl, ⟨.inl rfl, trivial⟩⟩⟩⟩⟩ ⟨rfl, trivial⟩ ?_
  conv => whnf
  refine Br.t rfl ?_
  conv => whnf
  refine Nd.mk nf_ ?_
  conv => whnf
  refine nd_ H (fun c H => ?_)
  conv => whnf
  refine El.mk (rdm_en_i64 _ _ nf_ nf_) ?_
  conv => whnf
  refine cut_ 400 [(4, .bp 0 0)] [(0, .box [.int .i64 (rd l1 x5), .int .i64 4])] rfl ⟨.inl rfl, trivial⟩ ⟨rfl, trivial⟩ ?_
  conv => whnf
  injection H with H; subst H
  exact ret_fz [] (rtA_agg (rtL_cons (rt_eq rfl) (rtL_cons (rt_eq rfl) (rtL_nil))))
  conv => whnf
  refine Br.f ff_ ?_
  conv => whnf
  refine Br.f ff_ ?_
  conv => whnf
  refine Nd.mk nf_ ?_
  conv => whnf
  refine Nd.mk nf_ ?_
  conv => whnf
  refine El.mk (rdm_en_S_impl_RecPhase _ _ nf_ nf_) ?_
  conv => whnf
  refine Br.f ff_ ?_
  conv => whnf
  refine Br.f ff_ ?_
  conv => whnf
  refine Br.f ff_ ?_
  conv => whnf
  revert H; refine bind_elim (fun t916 A H => ?_)
  refine call_mk (spec_RecEnd.ac A) (avAL_cons (avA_shut' rfl) (avAL_nil)) (Or.inl rfl) rfl rfl (Nat.le_of_ble_eq_true rfl) ?_
  conv => whnf
  refine Br.f ff_ ?_
  conv => whnf
  refine Br.f ff_ ?_
  conv => whnf
  refine br_d H (fun c H => ?_) (fun c H => ?_)
  conv => whnf
  refine Br.t ft_ ?_
  conv => whnf
  refine Br.t ft_ ?_
  conv => whnf
  refine Br.t ft_ ?_
  conv => whnf
  refine Nd.mk nf_ ?_
  conv => whnf
  refine Nd.mk nf_ ?_
  conv => whnf
  refine El.mk (rdm_en_S_impl_RecPhase _ _ nf_ nf_) ?_
  conv => whnf
  refine Br.t ft_ ?_
  conv => whnf
  refine Br.t ft_ ?_
  conv => whnf
  refine Br.t ft_ ?_
  conv => whnf
  revert H; refine bind_elim (fun t917 A H => ?_)
  refine call_mk (spec_l42At.ac A) (avAL_cons (avA_shut' rfl) (avAL_cons (avA_shut' rfl) (avAL_nil))) (Or.inl rfl) rfl rfl (Nat.le_of_ble_eq_true rfl) ?_
  conv => whnf
  refine Br.t ft_ ?_
  conv => whnf
  refine Br.t ft_ ?_
  conv => whnf
  refine Br.f ff_ ?_
  conv => whnf
  refine Br.t ft_ ?_
  conv => whnf
  refine Br.f ff_ ?_
  conv => whnf
  refine cut_ 352 [(0, (sv_S_impl_RecPhase l0)), (1, (sv_i64 l1)), (4, .bp 0 0), (5, .int .i64 x5), (49, .bool (decide (t917 ≤ x5)))] [(0, .box [.int .i64 0, .int .i64 0])] rfl ⟨.inl rfl, ⟨.inl rfl, ⟨.inl rfl, ⟨.inl rfl, ⟨.inl rfl, trivial⟩⟩⟩⟩⟩ ⟨rfl, trivial⟩ ?_
  conv => whnf
  refine br_d H (fun c H => ?_) (fun c H => ?_)
  conv => whnf
  refine Nd.mk nf_ ?_
  conv => whnf
  refine nd_ H (fun c H => ?_)
  conv => whnf
  refine El.mk (rdm_en_i64 _ _ nf_ nf_) ?_
  conv => whnf
  refine cut_ 400 [(4, .bp 0 0)] [(0, .box [.int .i64 (rd l1 x5), .int .i64 4])] rfl ⟨.inl rfl, trivial⟩ ⟨rfl, trivial⟩ ?_
  conv => whnf
  injection H with H; subst H
  exact ret_fz [] (rtA_agg (rtL_cons (rt_eq rfl) (rtL_cons (rt_eq rfl) (rtL_nil))))
  conv => whnf
  exact ⟨(k, wrap64 (x5 + 1)), [], ⟨H, lt_⟩, lt_, (fits_of ⟨.inl ⟨rfl, rfl⟩, trivial⟩ trivial fi_ trivial rfl)⟩
  conv => whnf
  refine Br.f ff_ ?_
  conv => whnf
  refine Br.f ff_ ?_
  conv => whnf
  refine Br.f ff_ ?_
  conv => whnf
  refine Br.f ff_ ?_
  conv => whnf
  refine Br.f ff_ ?_
  conv => whnf
  refine Br.f ff_ ?_
  conv => whnf
  refine Br.f ff_ ?_
  conv => whnf
  refine Br.f ff_ ?_
  conv => whnf
  refine Br.f ff_ ?_
  conv => whnf
  refine Br.f ff_ ?_
  conv => whnf
  refine Br.f ff_ ?_
  conv => whnf
  refine cut_ 352 [(0, (sv_S_impl_RecPhase l0)), (1, (sv_i64 l1)), (4, .bp 0 0), (5, .int .i64 x5), (49, .bool false)] [(0, .box [.int .i64 0, .int .i64 0])] rfl ⟨.inl rfl, ⟨.inl rfl, ⟨.inl rfl, ⟨.inl rfl, ⟨.inl rfl, trivial⟩⟩⟩⟩⟩ ⟨rfl, trivial⟩ ?_
  conv => whnf
  refine Br.f rfl ?_
  conv => whnf
  exact ⟨(k, wrap64 (x5 + 1)), [], ⟨H, lt_⟩, lt_, (fits_of ⟨.inl ⟨rfl, rfl⟩, trivial⟩ trivial fi_ trivial rfl)⟩
  conv => whnf
  refine Br.f ff_ ?_
  conv => whnf
  refine Br.f ff_ ?_
  conv => whnf
  refine Br.f ff_ ?_
  conv => whnf
  refine Br.f ff_ ?_
  conv => whnf
  refine Br.f ff_ ?_
  conv => whnf
  refine Br.f ff_ ?_
  conv => whnf
  refine Br.f ff_ ?_
  conv => whnf
  refine Br.f ff_ ?_
  conv => whnf
  refine Br.f ff_ ?_
  conv => whnf
  refine Br.f rfl ?_
  conv => whnf
  refine Br.f rfl ?_
  conv => whnf
  refine Br.f rfl ?_
  conv => whnf
  refine Nd.mk nf_ ?_
  conv => whnf
  refine Nd.mk nf_ ?_
  conv => whnf
  refine El.mk (rdm_en_S_impl_RecPhase _ _ nf_ nf_) ?_
  conv => whnf
  refine Br.f rfl ?_
  conv => whnf
  refine Br.f rfl ?_
  conv => whnf
  refine Br.f rfl ?_
  conv => whnf
  revert H; refine bind_elim (fun t918 A H => ?_)
  refine call_mk (spec_RecEnd.ac A) (avAL_cons (avA_shut' rfl) (avAL_nil)) (Or.inl rfl) rfl rfl (Nat.le_of_ble_eq_true rfl) ?_
  conv => whnf
  refine Br.f rfl ?_
  conv => whnf
  refine Br.f rfl ?_
  conv => whnf
  refine br_d H (fun c H => ?_) (fun c H => ?_)
  conv => whnf
  refine Br.t ft_ ?_
  conv => whnf
  refine Br.t ft_ ?_
  conv => whnf
  refine Br.t ft_ ?_
  conv => whnf
  refine Nd.mk nf_ ?_
  conv => whnf
  refine Nd.mk nf_ ?_
  conv => whnf
  refine El.mk (rdm_en_S_impl_RecPhase _ _ nf_ nf_) ?_
  conv => whnf
  refine Br.t ft_ ?_
  conv => whnf
  refine Br.t ft_ ?_
  conv => whnf
  refine Br.t ft_ ?_
  conv => whnf
  revert H; refine bind_elim (fun t919 A H => ?_)
  refine call_mk (spec_l42At.ac A) (avAL_cons (avA_shut' rfl) (avAL_cons (avA_shut' rfl) (avAL_nil))) (Or.inl rfl) rfl rfl (Nat.le_of_ble_eq_true rfl) ?_
  conv => whnf
  refine Br.t ft_ ?_
  conv => whnf
  refine Br.t ft_ ?_
  conv => whnf
  refine Br.f rfl ?_
  conv => whnf
  refine Br.t ft_ ?_
  conv => whnf
  refine Br.f rfl ?_
  conv => whnf
  refine cut_ 352 [(0, (sv_S_impl_RecPhase l0)), (1, (sv_i64 l1)), (4, .bp 0 0), (5, .int .i64 x5), (49, .bool (decide (t919 ≤ x5)))] [(0, .box [.int .i64 0, .int .i64 0])] rfl ⟨.inl rfl, ⟨.inl rfl, ⟨.inl rfl, ⟨.inl rfl, ⟨.inl rfl, trivial⟩⟩⟩⟩⟩ ⟨rfl, trivial⟩ ?_
  conv => whnf
  refine br_d H (fun c H => ?_) (fun c H => ?_)
  conv => whnf
  refine Nd.mk nf_ ?_
  conv => whnf
  refine nd_ H (fun c H => ?_)
  conv => whnf
  refine El.mk (rdm_en_i64 _ _ nf_ nf_) ?_
  conv => whnf
  refine cut_ 400 [(4, .bp 0 0)] [(0, .box [.int .i64 (rd l1 x5), .int .i64 4])] rfl ⟨.inl rfl, trivial⟩ ⟨rfl, trivial⟩ ?_
  conv => whnf
  injection H with H; subst H
  exact ret_fz [] (rtA_agg (rtL_cons (rt_eq rfl) (rtL_cons (rt_eq rfl) (rtL_nil))))
  conv => whnf
  exact ⟨(k, wrap64 (x5 + 1)), [], ⟨H, lt_⟩, lt_, (fits_of ⟨.inl ⟨rfl, rfl⟩, trivial⟩ trivial fi_ trivial rfl)⟩
  conv => whnf
  refine Br.f ff_ ?_
  conv => whnf
  refine Br.f ff_ ?_
  conv => whnf
  refine Br.f ff_ ?_
  conv => whnf
  refine Br.f ff_ ?_
  conv => whnf
  refine Br.f ff_ ?_
  conv => whnf
  refine Br.f ff_ ?_
  conv => whnf
  refine Br.f ff_ ?_
  conv => whnf
  refine Br.f ff_ ?_
  conv => whnf
  refine Br.f rfl ?_
  conv => whnf
  refine Br.f ff_ ?_
  conv => whnf
  refine Br.f rfl ?_
  conv => whnf
  refine cut_ 352 [(0, (sv_S_impl_RecPhase l0)), (1, (sv_i64 l1)), (4, .bp 0 0), (5, .int .i64 x5), (49, .bool false)] [(0, .box [.int .i64 0, .int .i64 0])] rfl ⟨.inl rfl, ⟨.inl rfl, ⟨.inl rfl, ⟨.inl rfl, ⟨.inl rfl, trivial⟩⟩⟩⟩⟩ ⟨rfl, trivial⟩ ?_
  conv => whnf
  refine Br.f rfl ?_
  conv => whnf
  exact ⟨(k, wrap64 (x5 + 1)), [], ⟨H, lt_⟩, lt_, (fits_of ⟨.inl ⟨rfl, rfl⟩, trivial⟩ trivial fi_ trivial rfl)⟩
  conv => whnf
  injection H with H; subst H
  exact ret_fz [] (rtA_agg (rtL_cons (rt_eq rfl) (rtL_cons (rt_eq rfl) (rtL_nil))))
theorem spec_RecParse.l0_lp {F : (Exit → St → Prop) → St → Prop} {hv : List Tmp} {Q : Exit → St → Prop} {σ : St} {r : (List S_impl_RecPhase) × Int × Int} {k : Nat} {t921 : List ByteArray} {x5 : List S_impl_RecPhase} {x6 : List Int} {x7 : Int} (H : spec_RecParse.l0 k x5 x6 x7 t921 = some r) (rn : List (Option Nat)) (h1 : Fits σ σ [104, 120] [(5, .own 0 x5.length), (6, .own 1 x6.length), (7, .int .i64 x7)] [] [.arr 73 8 (x5.map en_S_impl_RecPhase), .arr 3 1 (x6.map en_i64)] rn)
    (h2 : ∀ (k0 : Nat) (x5 : List S_impl_RecPhase) (x6 : List Int) (x7 : Int), k0 < k + 1 → spec_RecParse.l0 k0 x5 x6 x7 t921 = some r → headN σ hv [104, 120] [(5, .own 0 x5.length), (6, .own 1 x6.length), (7, .int .i64 x7)] [] [.arr 73 8 (x5.map en_S_impl_RecPhase), .arr 3 1 (x6.map en_i64)] (F (fun e σ' => match e with | .normal => ∃ (y : Nat × (List S_impl_RecPhase) × (List Int) × Int) (rn : List (Option Nat)), (spec_RecParse.l0 y.1 y.2.1 y.2.2.1 y.2.2.2 t921 = some r ∧ y.1 < k + 1) ∧ y.1 < k0 ∧ Fits σ σ' [104, 120] [(5, .own 0 y.2.1.length), (6, .own 1 y.2.2.1.length), (7, .int .i64 y.2.2.2)] [] [.arr 73 8 (y.2.1.map en_S_impl_RecPhase), .arr 3 1 (y.2.2.1.map en_i64)] rn | e => Q e σ'))) : Lp F hv Q σ := by
  unfold Lp
  refine ⟨Nat × (List S_impl_RecPhase) × (List Int) × Int, fun x => spec_RecParse.l0 x.1 x.2.1 x.2.2.1 x.2.2.2 t921 = some r ∧ x.1 < k + 1, fun x => x.1, [104, 120], fun x => [(5, .own 0 x.2.1.length), (6, .own 1 x.2.2.1.length), (7, .int .i64 x.2.2.2)], fun x => [], fun x => [.arr 73 8 (x.2.1.map en_S_impl_RecPhase), .arr 3 1 (x.2.2.1.map en_i64)], ⟨(k, x5, x6, x7), rn, ⟨H, Nat.lt_succ_self _⟩, h1⟩, ?_⟩
  rintro ⟨k, x5, x6, x7⟩ ⟨H, hk⟩
  exact h2 k x5 x6 x7 hk H
theorem spec_RecParse.ac {k : Nat} {a0 : ByteArray} {r : (List S_impl_RecPhase) × Int × Int} (H : spec_RecParse.f k a0 = some r) : ACalls Tryd.prog G 26 [] [.str a0] [] (.tup [(sv_S_impl_RecPhase r.1), .agg [.int .i64 r.2.1, .int .i64 r.2.2]]) := by
  refine acalls_of tok hP Tryd.func26 rfl (by kernel_rfl) [.tmp 2, .cell 3 54] rfl (by kernel_rfl) (Nat.le_of_ble_eq_true rfl) (.l .n (.l .n (.l (.c .n (.l (.c .n .n) .n)) (.l .n (.l .n (.l (.l .n (.l .n (.l (.c .n (.l .n (.l .n (.c .n (.l .n (.l (.l .n (.l (.c .n .n) .n)) (.l (.c .n .n) .n))))))) .n))) (.c .n .n))))))) rfl ?_
  unfold spec_RecParse.f at H
  conv => whnf
  revert H; refine bind_elim (fun t921 A H => ?_)
  refine call_mk (spec_l43Lines.ac A) (avAL_cons (avA_shut' rfl) (avAL_nil)) (Or.inl rfl) rfl rfl (Nat.le_of_ble_eq_true rfl) ?_
  conv => whnf
  refine br_d H (fun c H => ?_) (fun c H => ?_)
  conv => whnf
  refine Br.t ft_ ?_
  conv => whnf
  refine Br.t ft_ ?_
  conv => whnf
  refine Br.t ft_ ?_
  conv => whnf
  refine cut_ 104 [(3, .bp 8 0), (4, (sv_str t921)), (22, .bool true)] [(8, .box [.int .i64 0, .int .i64 0])] rfl ⟨.inl rfl, ⟨.inl rfl, ⟨.inl rfl, trivial⟩⟩⟩ ⟨rfl, trivial⟩ ?_
  conv => whnf
  refine Br.t rfl ?_
  conv => whnf
  refine Or.inl ?_
  conv => whnf
  refine cut_ 136 [(2, .own 104 0), (3, .bp 8 0)] [(8, .box [.int .i64 0, .int .i64 7]), (104, .arr 73 8 (([] : List S_impl_RecPhase).map en_S_impl_RecPhase))] rfl ⟨.inl rfl, ⟨.inl rfl, trivial⟩⟩ ⟨rfl, ⟨fm_, trivial⟩⟩ ?_
  conv => whnf
  injection H with H; subst H
  exact ret_tup [104] (rtAL_cons (rtA_fzD rfl lm_ lm_ rfl) (rtAL_cons (rtA_agg (rtL_cons (rt_eq rfl) (rtL_cons (rt_eq rfl) (rtL_nil)))) (rtAL_nil)))
  conv => whnf
  refine Br.f ff_ ?_
  conv => whnf
  refine Br.f ff_ ?_
  conv => whnf
  refine Br.f ff_ ?_
  conv => whnf
  refine cut_ 104 [(3, .bp 8 0), (4, (sv_str t921)), (22, .bool (decide ((t921.length : Int) > 60)))] [(8, .box [.int .i64 0, .int .i64 0])] rfl ⟨.inl rfl, ⟨.inl rfl, ⟨.inl rfl, trivial⟩⟩⟩ ⟨rfl, trivial⟩ ?_
  conv => whnf
  refine br_d H (fun c H => ?_) (fun c H => ?_)
  conv => whnf
  refine Or.inl ?_
  conv => whnf
  refine cut_ 136 [(2, .own 104 0), (3, .bp 8 0)] [(8, .box [.int .i64 0, .int .i64 7]), (104, .arr 73 8 (([] : List S_impl_RecPhase).map en_S_impl_RecPhase))] rfl ⟨.inl rfl, ⟨.inl rfl, trivial⟩⟩ ⟨rfl, ⟨fm_, trivial⟩⟩ ?_
  conv => whnf
  injection H with H; subst H
  exact ret_tup [104] (rtAL_cons (rtA_fzD rfl lm_ lm_ rfl) (rtAL_cons (rtA_agg (rtL_cons (rt_eq rfl) (rtL_cons (rt_eq rfl) (rtL_nil)))) (rtAL_nil)))
  conv => whnf
  refine Or.inl ?_
  conv => whnf
  refine Or.inl ?_
  conv => whnf
  refine spec_RecParse.l0_lp (t921 := t921) (k := k) H [some 104, some 120] (fits_of ⟨mt_own lm_, ⟨mt_own lm_, ⟨.inl ⟨rfl, rfl⟩, trivial⟩⟩⟩ ⟨fm_, ⟨fm_, trivial⟩⟩ fi_ trivial rfl) ?_
  intro k x5 x6 x7 hk H; rcases k with _ | k; exact none_elim H; rw [spec_RecParse.l0] at H; conv => whnf
  refine br_d H (fun c H => ?_) (fun c H => ?_)
  conv => whnf
  refine nd_ H (fun c H => ?_)
  conv => whnf
  refine Nd.mk nf_ ?_
  conv => whnf
  refine El.mk (rdm_en_str _ _ nf_ nf_) ?_
  conv => whnf
  revert H; refine bind_elim (fun t944 A H => ?_)
  refine call_mk (spec_l43Words.ac A) (avAL_cons (avA_shut' rfl) (avAL_nil)) (Or.inl rfl) rfl rfl (Nat.le_of_ble_eq_true rfl) ?_
  conv => whnf
  refine cut_ 258 [(3, .bp 8 0), (4, (sv_str t921)), (5, .own 144 x5.length), (6, .own 145 x6.length), (7, .int .i64 x7), (8, (sv_str t944.1)), (9, .bool t944.2)] [(8, .box [.int .i64 0, .int .i64 0]), (144, .arr 73 8 (x5.map en_S_impl_RecPhase)), (145, .arr 3 1 (x6.map en_i64))] rfl ⟨.inl rfl, ⟨.inl rfl, ⟨.inl rfl, ⟨.inl rfl, ⟨.inl rfl, ⟨.inl rfl, ⟨.inl rfl, trivial⟩⟩⟩⟩⟩⟩⟩ ⟨rfl, ⟨rfl, ⟨rfl, trivial⟩⟩⟩ ?_
  conv => whnf
  refine br_nt H (fun c H => ?_) (fun c H => ?_)
  conv => whnf
  refine br_d H (fun c H => ?_) (fun c H => ?_)
  conv => whnf
  exact ⟨(k, x5, x6, wrap64 (x7 + 1)), [some 144, some 145], ⟨H, lt_⟩, lt_, (fits_of ⟨rfl, ⟨rfl, ⟨.inl ⟨rfl, rfl⟩, trivial⟩⟩⟩ ⟨rfl, ⟨rfl, trivial⟩⟩ fi_ trivial rfl)⟩
  conv => whnf
  revert H; refine bind_elim (fun t945 A H => ?_)
  refine call_mk (spec_l43Phase.ac A) (avAL_cons (avA_shut' rfl) (avAL_nil)) (Or.inl rfl) rfl rfl (Nat.le_of_ble_eq_true rfl) ?_
  conv => whnf
  refine cut_ 362 [(3, .bp 8 0), (4, (sv_str t921)), (5, .own 144 x5.length), (6, .own 145 x6.length), (7, .int .i64 x7), (10, .bp 338 0), (11, .bool t945.2.2.2.2.2.2.2.2)] [(8, .box [.int .i64 0, .int .i64 0]), (144, .arr 73 8 (x5.map en_S_impl_RecPhase)), (145, .arr 3 1 (x6.map en_i64)), (338, .box [.str t945.1, .int .i64 t945.2.1, .str t945.2.2.1, .str t945.2.2.2.1, .int .i64 t945.2.2.2.2.1, .int .i64 t945.2.2.2.2.2.1, .str t945.2.2.2.2.2.2.1, .str t945.2.2.2.2.2.2.2.1])] rfl ⟨.inl rfl, ⟨.inl rfl, ⟨.inl rfl, ⟨.inl rfl, ⟨.inl rfl, ⟨.inl rfl, ⟨.inl rfl, trivial⟩⟩⟩⟩⟩⟩⟩ ⟨rfl, ⟨rfl, ⟨rfl, ⟨rfl, trivial⟩⟩⟩⟩ ?_
  conv => whnf
  refine br_nt H (fun c H => ?_) (fun c H => ?_)
  conv => whnf
  revert H; refine bind_elim (fun t946 A H => ?_)
  refine call_mk (spec_l42At.ac A) (avAL_cons (avA_own rfl rfl) (avAL_cons (avA_shut' rfl) (avAL_nil))) (Or.inr ⟨rfl, bo_nil⟩) rfl rfl (Nat.le_of_ble_eq_true rfl) ?_
  conv => whnf
  refine br_d H (fun c H => ?_) (fun c H => ?_)
  conv => whnf
  refine Or.inl ?_
  conv => whnf
  refine cut_ 466 [(2, .own 418 0), (3, .bp 8 0)] [(8, .box [.int .i64 (wrap64 (x7 + 1)), .int .i64 3]), (418, .arr 73 8 (([] : List S_impl_RecPhase).map en_S_impl_RecPhase))] rfl ⟨.inl rfl, ⟨.inl rfl, trivial⟩⟩ ⟨rfl, ⟨fm_, trivial⟩⟩ ?_
  conv => whnf
  injection H with H; subst H
  exact ret_tup [418] (rtAL_cons (rtA_fzD rfl lm_ lm_ rfl) (rtAL_cons (rtA_agg (rtL_cons (rt_eq rfl) (rtL_cons (rt_eq rfl) (rtL_nil)))) (rtAL_nil)))
  conv => whnf
  refine cut_ 442 [(3, .bp 8 0), (4, (sv_str t921)), (5, .own 144 x5.length), (6, .own 145 x6.length), (7, .int .i64 x7), (10, .bp 338 0), (72, .bool (decide ((x5.length : Int) ≥ 12)))] [(8, .box [.int .i64 0, .int .i64 0]), (144, .arr 73 8 (x5.map en_S_impl_RecPhase)), (145, .arr 3 1 (x6.map en_i64)), (338, .box [.str t945.1, .int .i64 t945.2.1, .str t945.2.2.1, .str t945.2.2.2.1, .int .i64 t945.2.2.2.2.1, .int .i64 t945.2.2.2.2.2.1, .str t945.2.2.2.2.2.2.1, .str t945.2.2.2.2.2.2.2.1])] rfl ⟨.inl rfl, ⟨.inl rfl, ⟨.inl rfl, ⟨.inl rfl, ⟨.inl rfl, ⟨.inl rfl, ⟨.inl rfl, trivial⟩⟩⟩⟩⟩⟩⟩ ⟨rfl, ⟨rfl, ⟨rfl, ⟨rfl, trivial⟩⟩⟩⟩ ?_
  conv => whnf
  refine br_d H (fun c H => ?_) (fun c H => ?_)
  conv => whnf
  refine Or.inl ?_
  conv => whnf
  injection H with H; subst H
  exact ret_tup [442] (rtAL_cons (rtA_fzD rfl lm_ lm_ rfl) (rtAL_cons (rtA_agg (rtL_cons (rt_eq rfl) (rtL_cons (rt_eq rfl) (rtL_nil)))) (rtAL_nil)))
  conv => whnf
  refine Or.inl ?_
  conv => whnf
  refine nd_ H (fun c H => ?_)
  conv => whnf
  refine Or.inl ?_
  conv => whnf
  refine nd_ H (fun c H => ?_)
  conv => whnf
  exact ⟨(k, (x5 ++ ([(⟨t945.1, t945.2.1, t945.2.2.1, t945.2.2.2.1, t945.2.2.2.2.1, t945.2.2.2.2.2.1, t945.2.2.2.2.2.2.1, t945.2.2.2.2.2.2.2.1⟩ : S_impl_RecPhase)] : List S_impl_RecPhase)), (x6 ++ ([wrap64 (x7 + 1)] : List Int)), wrap64 (x7 + 1)), [some 466, some 514], ⟨H, lt_⟩, lt_, (fits_of ⟨mt_own lm_, ⟨mt_own lm_, ⟨.inl ⟨rfl, rfl⟩, trivial⟩⟩⟩ ⟨fm_, ⟨fm_, trivial⟩⟩ fi_ trivial rfl)⟩
  conv => whnf
  refine Or.inl ?_
  conv => whnf
  injection H with H; subst H
  exact ret_tup [378] (rtAL_cons (rtA_fzD rfl lm_ lm_ rfl) (rtAL_cons (rtA_agg (rtL_cons (rt_eq rfl) (rtL_cons (rt_eq rfl) (rtL_nil)))) (rtAL_nil)))
  conv => whnf
  refine Or.inl ?_
  conv => whnf
  injection H with H; subst H
  exact ret_tup [274] (rtAL_cons (rtA_fzD rfl lm_ lm_ rfl) (rtAL_cons (rtA_agg (rtL_cons (rt_eq rfl) (rtL_cons (rt_eq rfl) (rtL_nil)))) (rtAL_nil)))
  conv => whnf
  revert H; refine bind_elim (fun t948 A H => ?_)
  refine call_mk (spec_l43Refers.ac A) (avAL_cons (avA_own rfl rfl) (avAL_cons (avA_own rfl rfl) (avAL_nil))) (Or.inr ⟨rfl, bo_nil⟩) rfl rfl (Nat.le_of_ble_eq_true rfl) ?_
  conv => whnf
  refine cut_ 218 [(3, .bp 8 0), (5, .own 144 x5.length), (12, .bp 202 0)] [(8, .box [.int .i64 0, .int .i64 0]), (144, .arr 73 8 (x5.map en_S_impl_RecPhase)), (202, .box [.int .i64 t948.1, .int .i64 t948.2])] rfl ⟨.inl rfl, ⟨.inl rfl, ⟨.inl rfl, trivial⟩⟩⟩ ⟨rfl, ⟨rfl, ⟨rfl, trivial⟩⟩⟩ ?_
  conv => whnf
  refine br_nd H (fun c H => ?_) (fun c H => ?_)
  conv => whnf
  refine br_d H (fun c H => ?_) (fun c H => ?_)
  conv => whnf
  injection H with H; subst H
  exact ret_tup [144] (rtAL_cons (rtA_fz' rfl rfl) (rtAL_cons (rtA_agg (rtL_cons (rt_eq rfl) (rtL_cons (rt_eq rfl) (rtL_nil)))) (rtAL_nil)))
  conv => whnf
  injection H with H; subst H
  exact ret_tup [144] (rtAL_cons (rtA_fz' rfl rfl) (rtAL_cons (rtA_agg (rtL_cons (rt_eq rfl) (rtL_cons (rt_eq rfl) (rtL_nil)))) (rtAL_nil)))
  conv => whnf
  refine Or.inl ?_
  conv => whnf
  injection H with H; subst H
  exact ret_tup [242] (rtAL_cons (rtA_fzD rfl lm_ lm_ rfl) (rtAL_cons (rtA_agg (rtL_cons (rt_eq rfl) (rtL_cons (rt_eq rfl) (rtL_nil)))) (rtAL_nil)))
theorem laws_wrPhases.l0_lp {F : (Exit → St → Prop) → St → Prop} {hv : List Tmp} {Q : Exit → St → Prop} {σ : St} {r : Bool} {k : Nat} {l0 : List S_impl_RecPhase} {l1 : List S_impl_RecPhase} {x5 : Int} (H : laws_wrPhases.l0 k l0 l1 x5 = some r) (rn : List (Option Nat)) (h1 : Fits σ σ [] [(5, .int .i64 x5)] [] [] rn)
    (h2 : ∀ (k0 : Nat) (x5 : Int), k0 < k + 1 → laws_wrPhases.l0 k0 l0 l1 x5 = some r → headN σ hv [] [(5, .int .i64 x5)] [] [] (F (fun e σ' => match e with | .normal => ∃ (y : Nat × Int) (rn : List (Option Nat)), (laws_wrPhases.l0 y.1 l0 l1 y.2 = some r ∧ y.1 < k + 1) ∧ y.1 < k0 ∧ Fits σ σ' [] [(5, .int .i64 y.2)] [] [] rn | e => Q e σ'))) : Lp F hv Q σ := by
  unfold Lp
  refine ⟨Nat × Int, fun x => laws_wrPhases.l0 x.1 l0 l1 x.2 = some r ∧ x.1 < k + 1, fun x => x.1, [], fun x => [(5, .int .i64 x.2)], fun x => [], fun x => [], ⟨(k, x5), rn, ⟨H, Nat.lt_succ_self _⟩, h1⟩, ?_⟩
  rintro ⟨k, x5⟩ ⟨H, hk⟩
  exact h2 k x5 hk H
theorem laws_wrPhases.ac {k : Nat} {l0 : List S_impl_RecPhase} {l1 : List S_impl_RecPhase} {r : Bool} (H : laws_wrPhases.f k l0 l1 = some r) : ACalls Tryd.prog G 32 [] [(sv_S_impl_RecPhase l0), (sv_S_impl_RecPhase l1)] [] (.bool r) := by
  refine acalls_of tok hP Tryd.func32 rfl (by kernel_rfl) [.tmp 4] rfl (by kernel_rfl) (Nat.le_of_ble_eq_true rfl) (.l .n (.l .n (.l (.l .n (.l (.c .n .n) (.l (.l .n (.l (.c .n .n) .n)) .n))) .n))) rfl ?_
  unfold laws_wrPhases.f at H
  conv => whnf
  refine br_nd H (fun c H => ?_) (fun c H => ?_)
  conv => whnf
  refine laws_wrPhases.l0_lp (l0 := l0) (l1 := l1) (k := k) H [] (fits_of ⟨.inl ⟨rfl, rfl⟩, trivial⟩ trivial fi_ trivial rfl) ?_
  intro k x5 hk H; rcases k with _ | k; exact none_elim H; rw [laws_wrPhases.l0] at H; conv => whnf
  refine cut_ 88 [(0, (sv_S_impl_RecPhase l0)), (1, (sv_S_impl_RecPhase l1)), (5, .int .i64 x5), (14, .bool (decide (x5 < (l0.length : Int))))] [] rfl ⟨.inl rfl, ⟨.inl rfl, ⟨.inl rfl, ⟨.inl rfl, trivial⟩⟩⟩⟩ trivial ?_
  conv => whnf
  refine br_d H (fun c H => ?_) (fun c H => ?_)
  conv => whnf
  refine nd_ H (fun c H => ?_)
  conv => whnf
  refine Nd.mk nf_ ?_
  conv => whnf
  refine El.mk (rdm_en_S_impl_RecPhase _ _ nf_ nf_) ?_
  conv => whnf
  refine Nd.mk nf_ ?_
  conv => whnf
  refine nd_ H (fun c H => ?_)
  conv => whnf
  refine El.mk (rdm_en_S_impl_RecPhase _ _ nf_ nf_) ?_
  conv => whnf
  refine br_nt H (fun c H => ?_) (fun c H => ?_)
  conv => whnf
  exact ⟨(k, wrap64 (x5 + 1)), [], ⟨H, lt_⟩, lt_, (fits_of ⟨.inl ⟨rfl, rfl⟩, trivial⟩ trivial fi_ trivial rfl)⟩
  conv => whnf
  refine cut_ 168 [(4, .bool false)] [] rfl ⟨.inl rfl, trivial⟩ trivial ?_
  conv => whnf
  injection H with H; subst H
  exact ret_fz [] (rtA_eq rfl)
  conv => whnf
  injection H with H; subst H
  exact ret_fz [] (rtA_eq rfl)
  conv => whnf
  injection H with H; subst H
  exact ret_fz [] (rtA_eq rfl)
theorem impl_RecOk.l2_lp {F : (Exit → St → Prop) → St → Prop} {hv : List Tmp} {Q : Exit → St → Prop} {σ : St} {r : Bool} {k : Nat} {l0 : List S_impl_RecPhase} {x38 : Int} {x47 : List ByteArray} {x49 : Int} (H : impl_RecOk.l2 k l0 x38 x47 x49 = some r) (rn : List (Option Nat)) (h1 : Fits σ σ [160, 216] [(47, .own 0 x47.length), (49, .int .i64 x49)] [] [.arr 9 1 (x47.map en_str)] rn)
    (h2 : ∀ (k0 : Nat) (x47 : List ByteArray) (x49 : Int), k0 < k + 1 → impl_RecOk.l2 k0 l0 x38 x47 x49 = some r → headN σ hv [160, 216] [(47, .own 0 x47.length), (49, .int .i64 x49)] [] [.arr 9 1 (x47.map en_str)] (F (fun e σ' => match e with | .normal => ∃ (y : Nat × (List ByteArray) × Int) (rn : List (Option Nat)), (impl_RecOk.l2 y.1 l0 x38 y.2.1 y.2.2 = some r ∧ y.1 < k + 1) ∧ y.1 < k0 ∧ Fits σ σ' [160, 216] [(47, .own 0 y.2.1.length), (49, .int .i64 y.2.2)] [] [.arr 9 1 (y.2.1.map en_str)] rn | e => Q e σ'))) : Lp F hv Q σ := by
  unfold Lp
  refine ⟨Nat × (List ByteArray) × Int, fun x => impl_RecOk.l2 x.1 l0 x38 x.2.1 x.2.2 = some r ∧ x.1 < k + 1, fun x => x.1, [160, 216], fun x => [(47, .own 0 x.2.1.length), (49, .int .i64 x.2.2)], fun x => [], fun x => [.arr 9 1 (x.2.1.map en_str)], ⟨(k, x47, x49), rn, ⟨H, Nat.lt_succ_self _⟩, h1⟩, ?_⟩
  rintro ⟨k, x47, x49⟩ ⟨H, hk⟩
  exact h2 k x47 x49 hk H
theorem impl_RecOk.l1_lp {F : (Exit → St → Prop) → St → Prop} {hv : List Tmp} {Q : Exit → St → Prop} {σ : St} {r : Bool} {k : Nat} {l0 : List S_impl_RecPhase} {x38 : Int} (H : impl_RecOk.l1 k l0 x38 = some r) (rn : List (Option Nat)) (h1 : Fits σ σ [] [(38, .int .i64 x38)] [] [] rn)
    (h2 : ∀ (k0 : Nat) (x38 : Int), k0 < k + 1 → impl_RecOk.l1 k0 l0 x38 = some r → headN σ hv [] [(38, .int .i64 x38)] [] [] (F (fun e σ' => match e with | .normal => ∃ (y : Nat × Int) (rn : List (Option Nat)), (impl_RecOk.l1 y.1 l0 y.2 = some r ∧ y.1 < k + 1) ∧ y.1 < k0 ∧ Fits σ σ' [] [(38, .int .i64 y.2)] [] [] rn | e => Q e σ'))) : Lp F hv Q σ := by
  unfold Lp
  refine ⟨Nat × Int, fun x => impl_RecOk.l1 x.1 l0 x.2 = some r ∧ x.1 < k + 1, fun x => x.1, [], fun x => [(38, .int .i64 x.2)], fun x => [], fun x => [], ⟨(k, x38), rn, ⟨H, Nat.lt_succ_self _⟩, h1⟩, ?_⟩
  rintro ⟨k, x38⟩ ⟨H, hk⟩
  exact h2 k x38 hk H
theorem impl_RecOk.l0_lp {F : (Exit → St → Prop) → St → Prop} {hv : List Tmp} {Q : Exit → St → Prop} {σ : St} {r : Bool} {k : Nat} {l0 : List S_impl_RecPhase} {x19 : Int} (H : impl_RecOk.l0 k l0 x19 = some r) (rn : List (Option Nat)) (h1 : Fits σ σ [] [(19, .int .i64 x19)] [] [] rn)
    (h2 : ∀ (k0 : Nat) (x19 : Int), k0 < k + 1 → impl_RecOk.l0 k0 l0 x19 = some r → headN σ hv [] [(19, .int .i64 x19)] [] [] (F (fun e σ' => match e with | .normal => ∃ (y : Nat × Int) (rn : List (Option Nat)), (impl_RecOk.l0 y.1 l0 y.2 = some r ∧ y.1 < k + 1) ∧ y.1 < k0 ∧ Fits σ σ' [] [(19, .int .i64 y.2)] [] [] rn | e => Q e σ'))) : Lp F hv Q σ := by
  unfold Lp
  refine ⟨Nat × Int, fun x => impl_RecOk.l0 x.1 l0 x.2 = some r ∧ x.1 < k + 1, fun x => x.1, [], fun x => [(19, .int .i64 x.2)], fun x => [], fun x => [], ⟨(k, x19), rn, ⟨H, Nat.lt_succ_self _⟩, h1⟩, ?_⟩
  rintro ⟨k, x19⟩ ⟨H, hk⟩
  exact h2 k x19 hk H
theorem impl_RecOk.ac {k : Nat} {l0 : List S_impl_RecPhase} {r : Bool} (H : impl_RecOk.f k l0 = some r) : ACalls Tryd.prog G 33 [] [(sv_S_impl_RecPhase l0)] [] (.bool r) := by
  refine acalls_of tok hP Tryd.func33 rfl (by kernel_rfl) [.tmp 2] rfl (by kernel_rfl) (Nat.le_of_ble_eq_true rfl) (.l .n (.l (.l .n (.l (.c .n .n) .n)) (.l (.c .n (.l .n (.l .n (.l (.l .n (.c .n (.l (.c .n .n) .n))) .n)))) (.l (.l .n (.l .n (.l .n (.l (.c .n (.l .n (.l .n (.l .n (.l (.c .n (.c .n (.l (.c .n .n) .n))) .n))))) .n)))) .n)))) rfl ?_
  unfold impl_RecOk.f at H
  conv => whnf
  refine br_d H (fun c H => ?_) (fun c H => ?_)
  conv => whnf
  refine Br.t ft_ ?_
  conv => whnf
  refine Br.t ft_ ?_
  conv => whnf
  refine Br.t ft_ ?_
  conv => whnf
  refine Br.t rfl ?_
  conv => whnf
  refine cut_ 80 [(2, .bool false)] [] rfl ⟨.inl rfl, trivial⟩ trivial ?_
  conv => whnf
  injection H with H; subst H
  exact ret_fz [] (rtA_eq rfl)
  conv => whnf
  refine Br.f ff_ ?_
  conv => whnf
  refine Br.f ff_ ?_
  conv => whnf
  refine Br.f ff_ ?_
  conv => whnf
  refine br_d H (fun c H => ?_) (fun c H => ?_)
  conv => whnf
  refine cut_ 80 [(2, .bool false)] [] rfl ⟨.inl rfl, trivial⟩ trivial ?_
  conv => whnf
  injection H with H; subst H
  exact ret_fz [] (rtA_eq rfl)
  conv => whnf
  refine cut_ 96 [(0, (sv_S_impl_RecPhase l0)), (17, (sv_S_impl_RecPhase l0)), (18, .int .i64 (l0.length : Int)), (19, .int .i64 0)] [] rfl ⟨.inl rfl, ⟨.inl rfl, ⟨.inl rfl, ⟨.inl rfl, trivial⟩⟩⟩⟩ trivial ?_
  conv => whnf
  refine impl_RecOk.l0_lp (l0 := l0) (k := k) H [] (fits_of ⟨.inl ⟨rfl, rfl⟩, trivial⟩ trivial fi_ trivial rfl) ?_
  intro k x19 hk H; rcases k with _ | k; exact none_elim H; rw [impl_RecOk.l0] at H; conv => whnf
  refine br_d H (fun c H => ?_) (fun c H => ?_)
  conv => whnf
  refine nd_ H (fun c H => ?_)
  conv => whnf
  refine Nd.mk nf_ ?_
  conv => whnf
  refine El.mk (rdm_en_S_impl_RecPhase _ _ nf_ nf_) ?_
  conv => whnf
  revert H; refine bind_elim (fun t968 A H => ?_)
  refine call_mk (impl_RecPhaseOk.ac A) (avAL_cons (avA_agg (avL_cons (av_shut' rfl) (avL_cons (av_shut' rfl) (avL_cons (av_shut' rfl) (avL_cons (av_shut' rfl) (avL_cons (av_shut' rfl) (avL_cons (av_shut' rfl) (avL_cons (av_shut' rfl) (avL_cons (av_shut' rfl) (avL_nil)))))))))) (avAL_nil)) (Or.inl rfl) rfl rfl (Nat.le_of_ble_eq_true rfl) ?_
  conv => whnf
  refine br_nt H (fun c H => ?_) (fun c H => ?_)
  conv => whnf
  refine Br.f ff_ ?_
  conv => whnf
  refine Br.f ff_ ?_
  conv => whnf
  refine Br.f ff_ ?_
  conv => whnf
  revert H; refine bind_elim (fun t969 A H => ?_)
  refine call_mk (impl_phase.ac A) (avAL_cons (avA_shut' rfl) (avAL_cons (avA_shut' rfl) (avAL_nil))) (Or.inl rfl) rfl rfl (Nat.le_of_ble_eq_true rfl) ?_
  conv => whnf
  refine Br.f ff_ ?_
  conv => whnf
  refine Br.f ff_ ?_
  conv => whnf
  refine Br.f ff_ ?_
  conv => whnf
  refine cut_ 240 [(0, (sv_S_impl_RecPhase l0)), (17, (sv_S_impl_RecPhase l0)), (18, .int .i64 (l0.length : Int)), (19, .int .i64 x19), (34, .bool (!(decide (t969 = x19))))] [] rfl ⟨.inl rfl, ⟨.inl rfl, ⟨.inl rfl, ⟨.inl rfl, ⟨.inl rfl, trivial⟩⟩⟩⟩⟩ trivial ?_
  conv => whnf
  refine br_nd H (fun c H => ?_) (fun c H => ?_)
  conv => whnf
  exact ⟨(k, wrap64 (x19 + 1)), [], ⟨H, lt_⟩, lt_, (fits_of ⟨.inl ⟨rfl, rfl⟩, trivial⟩ trivial fi_ trivial rfl)⟩
  conv => whnf
  refine cut_ 248 [(2, .bool false)] [] rfl ⟨.inl rfl, trivial⟩ trivial ?_
  conv => whnf
  injection H with H; subst H
  exact ret_fz [] (rtA_eq rfl)
  conv => whnf
  refine Br.t ft_ ?_
  conv => whnf
  refine Br.t ft_ ?_
  conv => whnf
  refine Br.t ft_ ?_
  conv => whnf
  refine Br.t ft_ ?_
  conv => whnf
  refine Br.t ft_ ?_
  conv => whnf
  refine Br.t ft_ ?_
  conv => whnf
  refine cut_ 240 [(0, (sv_S_impl_RecPhase l0)), (17, (sv_S_impl_RecPhase l0)), (18, .int .i64 (l0.length : Int)), (19, .int .i64 x19), (34, .bool true)] [] rfl ⟨.inl rfl, ⟨.inl rfl, ⟨.inl rfl, ⟨.inl rfl, ⟨.inl rfl, trivial⟩⟩⟩⟩⟩ trivial ?_
  conv => whnf
  refine Br.t rfl ?_
  conv => whnf
  refine cut_ 248 [(2, .bool false)] [] rfl ⟨.inl rfl, trivial⟩ trivial ?_
  conv => whnf
  injection H with H; subst H
  exact ret_fz [] (rtA_eq rfl)
  conv => whnf
  refine impl_RecOk.l1_lp (l0 := l0) (k := k) H [] (fits_of ⟨.inl ⟨rfl, rfl⟩, trivial⟩ trivial fi_ trivial rfl) ?_
  intro k x38 hk H; rcases k with _ | k; exact none_elim H; rw [impl_RecOk.l1] at H; conv => whnf
  refine br_d H (fun c H => ?_) (fun c H => ?_)
  conv => whnf
  refine nd_ H (fun c H => ?_)
  conv => whnf
  refine Nd.mk nf_ ?_
  conv => whnf
  refine El.mk (rdm_en_S_impl_RecPhase _ _ nf_ nf_) ?_
  conv => whnf
  refine cut_ 184 [(0, (sv_S_impl_RecPhase l0)), (5, .int .i64 x38), (6, .bp 160 0), (36, (sv_S_impl_RecPhase l0)), (37, .int .i64 (l0.length : Int)), (38, .int .i64 x38)] [(160, .box [.str ((rd_impl_RecPhase l0 x38).f0), .int .i64 ((rd_impl_RecPhase l0 x38).f1), .str ((rd_impl_RecPhase l0 x38).f2), .str ((rd_impl_RecPhase l0 x38).f3), .int .i64 ((rd_impl_RecPhase l0 x38).f4), .int .i64 ((rd_impl_RecPhase l0 x38).f5), .str ((rd_impl_RecPhase l0 x38).f6), .str ((rd_impl_RecPhase l0 x38).f7)])] rfl ⟨.inl rfl, ⟨.inl rfl, ⟨.inl rfl, ⟨.inl rfl, ⟨.inl rfl, ⟨.inl rfl, trivial⟩⟩⟩⟩⟩⟩ ⟨rfl, trivial⟩ ?_
  conv => whnf
  refine Or.inl ?_
  conv => whnf
  refine impl_RecOk.l2_lp (l0 := l0) (x38 := x38) (k := k) H [some 216] (fits_of ⟨mt_own lm_, ⟨.inl ⟨rfl, rfl⟩, trivial⟩⟩ ⟨fm_, trivial⟩ fi_ trivial rfl) ?_
  intro k x47 x49 hk H; rcases k with _ | k; exact none_elim H; rw [impl_RecOk.l2] at H; conv => whnf
  refine br_d H (fun c H => ?_) (fun c H => ?_)
  conv => whnf
  refine nd_ H (fun c H => ?_)
  conv => whnf
  refine nd_ H (fun c H => ?_)
  conv => whnf
  refine El.mk (rdm_en_str _ _ nf_ nf_) ?_
  conv => whnf
  refine cut_ 273 [(0, (sv_S_impl_RecPhase l0)), (5, .int .i64 x38), (8, .str (rdOf ByteArray.empty x47 x49)), (36, (sv_S_impl_RecPhase l0)), (37, .int .i64 (l0.length : Int)), (38, .int .i64 x38), (47, .own 240 x47.length), (48, .int .i64 2), (49, .int .i64 x49)] [(240, .arr 9 1 (x47.map en_str))] rfl ⟨.inl rfl, ⟨.inl rfl, ⟨.inl rfl, ⟨.inl rfl, ⟨.inl rfl, ⟨.inl rfl, ⟨.inl rfl, ⟨.inl rfl, ⟨.inl rfl, trivial⟩⟩⟩⟩⟩⟩⟩⟩⟩ ⟨rfl, trivial⟩ ?_
  conv => whnf
  revert H; refine bind_elim (fun t990 A H => ?_)
  refine call_mk (impl_RecEnd.ac A) (avAL_cons (avA_shut' rfl) (avAL_nil)) (Or.inl rfl) rfl rfl (Nat.le_of_ble_eq_true rfl) ?_
  conv => whnf
  refine br_d H (fun c H => ?_) (fun c H => ?_)
  conv => whnf
  refine Br.t ft_ ?_
  conv => whnf
  refine Br.t ft_ ?_
  conv => whnf
  revert H; refine bind_elim (fun t991 A H => ?_)
  refine call_mk (impl_phase.ac A) (avAL_cons (avA_shut' rfl) (avAL_cons (avA_shut' rfl) (avAL_nil))) (Or.inl rfl) rfl rfl (Nat.le_of_ble_eq_true rfl) ?_
  conv => whnf
  refine Br.t ft_ ?_
  conv => whnf
  refine Br.t ft_ ?_
  conv => whnf
  refine Br.t ft_ ?_
  conv => whnf
  refine cut_ 353 [(0, (sv_S_impl_RecPhase l0)), (5, .int .i64 x38), (36, (sv_S_impl_RecPhase l0)), (37, .int .i64 (l0.length : Int)), (38, .int .i64 x38), (47, .own 240 x47.length), (48, .int .i64 2), (49, .int .i64 x49), (62, .bool (decide (t991 ≤ x38)))] [(240, .arr 9 1 (x47.map en_str))] rfl ⟨.inl rfl, ⟨.inl rfl, ⟨.inl rfl, ⟨.inl rfl, ⟨.inl rfl, ⟨.inl rfl, ⟨.inl rfl, ⟨.inl rfl, ⟨.inl rfl, trivial⟩⟩⟩⟩⟩⟩⟩⟩⟩ ⟨rfl, trivial⟩ ?_
  conv => whnf
  refine br_d H (fun c H => ?_) (fun c H => ?_)
  conv => whnf
  refine cut_ 361 [(2, .bool false)] [] rfl ⟨.inl rfl, trivial⟩ trivial ?_
  conv => whnf
  injection H with H; subst H
  exact ret_fz [] (rtA_eq rfl)
  conv => whnf
  exact ⟨(k, x47, wrap64 (x49 + 1)), [some 240], ⟨H, lt_⟩, lt_, (fits_of ⟨rfl, ⟨.inl ⟨rfl, rfl⟩, trivial⟩⟩ ⟨rfl, trivial⟩ fi_ trivial rfl)⟩
  conv => whnf
  refine Br.f ff_ ?_
  conv => whnf
  refine Br.f ff_ ?_
  conv => whnf
  refine Br.f ff_ ?_
  conv => whnf
  refine Br.f ff_ ?_
  conv => whnf
  refine Br.f ff_ ?_
  conv => whnf
  refine cut_ 353 [(0, (sv_S_impl_RecPhase l0)), (5, .int .i64 x38), (36, (sv_S_impl_RecPhase l0)), (37, .int .i64 (l0.length : Int)), (38, .int .i64 x38), (47, .own 240 x47.length), (48, .int .i64 2), (49, .int .i64 x49), (62, .bool false)] [(240, .arr 9 1 (x47.map en_str))] rfl ⟨.inl rfl, ⟨.inl rfl, ⟨.inl rfl, ⟨.inl rfl, ⟨.inl rfl, ⟨.inl rfl, ⟨.inl rfl, ⟨.inl rfl, ⟨.inl rfl, trivial⟩⟩⟩⟩⟩⟩⟩⟩⟩ ⟨rfl, trivial⟩ ?_
  conv => whnf
  refine Br.f rfl ?_
  conv => whnf
  exact ⟨(k, x47, wrap64 (x49 + 1)), [some 240], ⟨H, lt_⟩, lt_, (fits_of ⟨rfl, ⟨.inl ⟨rfl, rfl⟩, trivial⟩⟩ ⟨rfl, trivial⟩ fi_ trivial rfl)⟩
  conv => whnf
  exact ⟨(k, wrap64 (x38 + 1)), [], ⟨H, lt_⟩, lt_, (fits_of ⟨.inl ⟨rfl, rfl⟩, trivial⟩ trivial fi_ trivial rfl)⟩
  conv => whnf
  injection H with H; subst H
  exact ret_fz [] (rtA_eq rfl)
end Go.Proofs.YteflhnpcgoijfaaDoor.RT
namespace Go.Proofs
open Go.Shelf Go.Sort Go.RowKit in
shelf_lay LaysM.n171 Nm 171 at Tryd as Tryd.gx171
end Go.Proofs
namespace Go.Proofs.YteflhnpcgoijfaaDoor.RT
open Go Go.Aw Go.RowKit Go.Proofs
set_option maxRecDepth 100000
set_option maxHeartbeats 40000000
variable {G : Nat → Option Obj}
attribute [local irreducible] callE Lp Sq Cut RetOk Fits
theorem strconv_Itoa.ac [GvOk G] {x0 : Int} {r : ByteArray} (H : strconv_Itoa.f x0 = some r) : ACalls Tryd.prog G 48 [] [.int .i64 x0] [] (.str r) := by
  exact itoaS_ac Tryd.gx171 ⟨_, Tryd.func48, by kernel_rfl, by kernel_rfl⟩ GvOk.t rfl (by kernel_rfl) H
theorem impl_RecPrint.j0_sq {F : (Exit → St → Prop) → St → Prop} {hv : List Tmp} {K : St → Prop} {Q : Exit → St → Prop} {σ : St} {r : ByteArray} {KK : Nat} {l0 : List S_impl_RecPhase} {x11 : Int}
    (h1 : F (fun e σ' => match e with | .normal => ∃ (y : Nat × ByteArray) (rn : List (Option Nat)), (impl_RecPrint.j0 y.1 l0 y.2 x11 = some r ∧ y.1 < KK) ∧ Fits σ σ' [] [(3, .str y.2)] [] [] rn | e => Q e σ') σ)
    (h2 : ∀ (k : Nat) (x3_1 : ByteArray), k < KK → impl_RecPrint.j0 k l0 x3_1 x11 = some r → headN σ hv [] [(3, .str x3_1)] [] [] K) : Sq F hv K Q σ := by
  unfold Sq
  refine ⟨Nat × ByteArray, fun x => impl_RecPrint.j0 x.1 l0 x.2 x11 = some r ∧ x.1 < KK, [], fun x => [(3, .str x.2)], fun x => [], fun x => [], h1, ?_⟩
  rintro ⟨k, x3_1⟩ ⟨H, hk⟩
  exact h2 k x3_1 hk H
theorem impl_RecPrint.j1_sq {F : (Exit → St → Prop) → St → Prop} {hv : List Tmp} {K : St → Prop} {Q : Exit → St → Prop} {σ : St} {r : ByteArray} {KK : Nat} {l0 : List S_impl_RecPhase} {x11 : Int}
    (h1 : F (fun e σ' => match e with | .normal => ∃ (y : Nat × ByteArray) (rn : List (Option Nat)), (impl_RecPrint.j1 y.1 l0 y.2 x11 = some r ∧ y.1 < KK) ∧ Fits σ σ' [] [(3, .str y.2)] [] [] rn | e => Q e σ') σ)
    (h2 : ∀ (k : Nat) (x3_3 : ByteArray), k < KK → impl_RecPrint.j1 k l0 x3_3 x11 = some r → headN σ hv [] [(3, .str x3_3)] [] [] K) : Sq F hv K Q σ := by
  unfold Sq
  refine ⟨Nat × ByteArray, fun x => impl_RecPrint.j1 x.1 l0 x.2 x11 = some r ∧ x.1 < KK, [], fun x => [(3, .str x.2)], fun x => [], fun x => [], h1, ?_⟩
  rintro ⟨k, x3_3⟩ ⟨H, hk⟩
  exact h2 k x3_3 hk H
theorem impl_RecPrint.j2_sq {F : (Exit → St → Prop) → St → Prop} {hv : List Tmp} {K : St → Prop} {Q : Exit → St → Prop} {σ : St} {r : ByteArray} {KK : Nat} {l0 : List S_impl_RecPhase} {x11 : Int}
    (h1 : F (fun e σ' => match e with | .normal => ∃ (y : Nat × ByteArray) (rn : List (Option Nat)), (impl_RecPrint.j2 y.1 l0 y.2 x11 = some r ∧ y.1 < KK) ∧ Fits σ σ' [] [(3, .str y.2)] [] [] rn | e => Q e σ') σ)
    (h2 : ∀ (k : Nat) (x3_2 : ByteArray), k < KK → impl_RecPrint.j2 k l0 x3_2 x11 = some r → headN σ hv [] [(3, .str x3_2)] [] [] K) : Sq F hv K Q σ := by
  unfold Sq
  refine ⟨Nat × ByteArray, fun x => impl_RecPrint.j2 x.1 l0 x.2 x11 = some r ∧ x.1 < KK, [], fun x => [(3, .str x.2)], fun x => [], fun x => [], h1, ?_⟩
  rintro ⟨k, x3_2⟩ ⟨H, hk⟩
  exact h2 k x3_2 hk H
theorem impl_RecPrint.l0_lp {F : (Exit → St → Prop) → St → Prop} {hv : List Tmp} {Q : Exit → St → Prop} {σ : St} {r : ByteArray} {k : Nat} {l0 : List S_impl_RecPhase} {x3 : ByteArray} {x11 : Int} (H : impl_RecPrint.l0 k l0 x3 x11 = some r) (rn : List (Option Nat)) (h1 : Fits σ σ [] [(3, .str x3), (11, .int .i64 x11)] [] [] rn)
    (h2 : ∀ (k0 : Nat) (x3 : ByteArray) (x11 : Int), k0 < k + 1 → impl_RecPrint.l0 k0 l0 x3 x11 = some r → headN σ hv [] [(3, .str x3), (11, .int .i64 x11)] [] [] (F (fun e σ' => match e with | .normal => ∃ (y : Nat × ByteArray × Int) (rn : List (Option Nat)), (impl_RecPrint.l0 y.1 l0 y.2.1 y.2.2 = some r ∧ y.1 < k + 1) ∧ y.1 < k0 ∧ Fits σ σ' [] [(3, .str y.2.1), (11, .int .i64 y.2.2)] [] [] rn | e => Q e σ'))) : Lp F hv Q σ := by
  unfold Lp
  refine ⟨Nat × ByteArray × Int, fun x => impl_RecPrint.l0 x.1 l0 x.2.1 x.2.2 = some r ∧ x.1 < k + 1, fun x => x.1, [], fun x => [(3, .str x.2.1), (11, .int .i64 x.2.2)], fun x => [], fun x => [], ⟨(k, x3, x11), rn, ⟨H, Nat.lt_succ_self _⟩, h1⟩, ?_⟩
  rintro ⟨k, x3, x11⟩ ⟨H, hk⟩
  exact h2 k x3 x11 hk H
theorem impl_RecPrint.ac [GvOk G] {k : Nat} {l0 : List S_impl_RecPhase} {r : ByteArray} (H : impl_RecPrint.f k l0 = some r) : ACalls Tryd.prog G 19 [] [(sv_S_impl_RecPhase l0)] [] (.str r) := by
  refine acalls_of tok hP Tryd.func19 rfl (by kernel_rfl) [.tmp 2] rfl (by kernel_rfl) (Nat.le_of_ble_eq_true rfl) (.l .n (.l .n (.l .n (.l (.l .n (.l .n (.l .n (.j (.c .n (.c .n (.j .n (.j .n .n)))) .n)))) (.c .n .n))))) rfl ?_
  unfold impl_RecPrint.f at H
  conv => whnf
  revert H; refine bind_elim (fun t1004 A H => ?_)
  refine call_mk (impl_RecOk.ac A) (avAL_cons (avA_shut' rfl) (avAL_nil)) (Or.inl rfl) rfl rfl (Nat.le_of_ble_eq_true rfl) ?_
  conv => whnf
  refine br_nt H (fun c H => ?_) (fun c H => ?_)
  conv => whnf
  refine impl_RecPrint.l0_lp (l0 := l0) (k := k) H [] (fits_of ⟨.inl ⟨rfl, rfl⟩, ⟨.inl ⟨rfl, rfl⟩, trivial⟩⟩ trivial fi_ trivial rfl) ?_
  intro k x3 x11 hk H; rcases k with _ | k; exact none_elim H; rw [impl_RecPrint.l0] at H; conv => whnf
  refine br_d H (fun c H => ?_) (fun c H => ?_)
  conv => whnf
  refine impl_RecPrint.j0_sq (l0 := l0) (x11 := x11) (KK := k + 1) (r := r) ?_ ?_
  conv => whnf
  refine nd_ H (fun c H => ?_)
  conv => whnf
  refine Nd.mk nf_ ?_
  conv => whnf
  refine El.mk (rdm_en_S_impl_RecPhase _ _ nf_ nf_) ?_
  conv => whnf
  refine cut_ 104 [(3, .str x3), (5, .bp 88 0), (9, (sv_S_impl_RecPhase l0)), (10, .int .i64 (l0.length : Int)), (11, .int .i64 x11)] [(88, .box [.str ((rd_impl_RecPhase l0 x11).f0), .int .i64 ((rd_impl_RecPhase l0 x11).f1), .str ((rd_impl_RecPhase l0 x11).f2), .str ((rd_impl_RecPhase l0 x11).f3), .int .i64 ((rd_impl_RecPhase l0 x11).f4), .int .i64 ((rd_impl_RecPhase l0 x11).f5), .str ((rd_impl_RecPhase l0 x11).f6), .str ((rd_impl_RecPhase l0 x11).f7)])] rfl ⟨.inl rfl, ⟨.inl rfl, ⟨.inl rfl, ⟨.inl rfl, ⟨.inl rfl, trivial⟩⟩⟩⟩⟩ ⟨rfl, trivial⟩ ?_
  conv => whnf
  refine nd_ H (fun c H => ?_)
  conv => whnf
  refine Or.inl ?_
  conv => whnf
  refine nd_ H (fun c H => ?_)
  conv => whnf
  refine nd_ H (fun c H => ?_)
  conv => whnf
  refine El.mk (el_of (ys := ([(⟨#[]⟩ : ByteArray), (⟨#[102, 105, 108, 108]⟩ : ByteArray), (⟨#[109, 111, 118, 101]⟩ : ByteArray), (⟨#[104, 111, 108, 100]⟩ : ByteArray), (⟨#[99, 108, 101, 97, 110]⟩ : ByteArray), (⟨#[116, 101, 115, 116]⟩ : ByteArray)] : List ByteArray).map en_str) lm_ (rdm_en_str _ _ nf_ nf_)) ?_
  conv => whnf
  refine nd_ H (fun c H => ?_)
  conv => whnf
  refine nd_ H (fun c H => ?_)
  conv => whnf
  refine nd_ H (fun c H => ?_)
  conv => whnf
  refine nd_ H (fun c H => ?_)
  conv => whnf
  refine cut_ 232 [(3, .str (x3 ++ ((((((rd_impl_RecPhase l0 x11).f0) ++ (⟨#[32]⟩ : ByteArray)) ++ (rdOf ByteArray.empty ([(⟨#[]⟩ : ByteArray), (⟨#[102, 105, 108, 108]⟩ : ByteArray), (⟨#[109, 111, 118, 101]⟩ : ByteArray), (⟨#[104, 111, 108, 100]⟩ : ByteArray), (⟨#[99, 108, 101, 97, 110]⟩ : ByteArray), (⟨#[116, 101, 115, 116]⟩ : ByteArray)] : List ByteArray) ((rd_impl_RecPhase l0 x11).f1))) ++ (⟨#[32]⟩ : ByteArray)) ++ ((rd_impl_RecPhase l0 x11).f2)))), (5, .bp 88 0), (9, (sv_S_impl_RecPhase l0)), (10, .int .i64 (l0.length : Int)), (11, .int .i64 x11)] [(88, .box [.str ((rd_impl_RecPhase l0 x11).f0), .int .i64 ((rd_impl_RecPhase l0 x11).f1), .str ((rd_impl_RecPhase l0 x11).f2), .str ((rd_impl_RecPhase l0 x11).f3), .int .i64 ((rd_impl_RecPhase l0 x11).f4), .int .i64 ((rd_impl_RecPhase l0 x11).f5), .str ((rd_impl_RecPhase l0 x11).f6), .str ((rd_impl_RecPhase l0 x11).f7)])] rfl ⟨.inl rfl, ⟨.inl rfl, ⟨.inl rfl, ⟨.inl rfl, ⟨.inl rfl, trivial⟩⟩⟩⟩⟩ ⟨rfl, trivial⟩ ?_
  conv => whnf
  refine impl_RecPrint.j2_sq (l0 := l0) (x11 := x11) (KK := k + 1) (r := r) ?_ ?_
  conv => whnf
  refine br_nd H (fun c H => ?_) (fun c H => ?_)
  conv => whnf
  exact ⟨(k, x3 ++ ((((((rd_impl_RecPhase l0 x11).f0) ++ (⟨#[32]⟩ : ByteArray)) ++ (rdOf ByteArray.empty ([(⟨#[]⟩ : ByteArray), (⟨#[102, 105, 108, 108]⟩ : ByteArray), (⟨#[109, 111, 118, 101]⟩ : ByteArray), (⟨#[104, 111, 108, 100]⟩ : ByteArray), (⟨#[99, 108, 101, 97, 110]⟩ : ByteArray), (⟨#[116, 101, 115, 116]⟩ : ByteArray)] : List ByteArray) ((rd_impl_RecPhase l0 x11).f1))) ++ (⟨#[32]⟩ : ByteArray)) ++ ((rd_impl_RecPhase l0 x11).f2))), [], ⟨H, lt_⟩, (fits_of ⟨.inl ⟨rfl, rfl⟩, trivial⟩ trivial fi_ trivial rfl)⟩
  conv => whnf
  refine nd_ H (fun c H => ?_)
  conv => whnf
  refine nd_ H (fun c H => ?_)
  conv => whnf
  exact ⟨(k, (x3 ++ ((((((rd_impl_RecPhase l0 x11).f0) ++ (⟨#[32]⟩ : ByteArray)) ++ (rdOf ByteArray.empty ([(⟨#[]⟩ : ByteArray), (⟨#[102, 105, 108, 108]⟩ : ByteArray), (⟨#[109, 111, 118, 101]⟩ : ByteArray), (⟨#[104, 111, 108, 100]⟩ : ByteArray), (⟨#[99, 108, 101, 97, 110]⟩ : ByteArray), (⟨#[116, 101, 115, 116]⟩ : ByteArray)] : List ByteArray) ((rd_impl_RecPhase l0 x11).f1))) ++ (⟨#[32]⟩ : ByteArray)) ++ ((rd_impl_RecPhase l0 x11).f2))) ++ ((⟨#[32]⟩ : ByteArray) ++ ((rd_impl_RecPhase l0 x11).f3))), [], ⟨H, lt_⟩, (fits_of ⟨.inl ⟨rfl, rfl⟩, trivial⟩ trivial fi_ trivial rfl)⟩
  intro k x3_2 hk H; rcases k with _ | k; exact none_elim H; rw [impl_RecPrint.j2] at H; conv => whnf
  refine impl_RecPrint.j1_sq (l0 := l0) (x11 := x11) (KK := k + 1) (r := r) ?_ ?_
  conv => whnf
  refine br_d H (fun c H => ?_) (fun c H => ?_)
  conv => whnf
  revert H; refine bind_elim (fun t1024 A H => ?_)
  refine call_mk (strconv_Itoa.ac A) (avAL_cons (avA_shut' rfl) (avAL_nil)) (Or.inl rfl) rfl rfl (Nat.le_of_ble_eq_true rfl) ?_
  conv => whnf
  refine nd_ H (fun c H => ?_)
  conv => whnf
  refine nd_ H (fun c H => ?_)
  conv => whnf
  exact ⟨(k, x3_2 ++ ((⟨#[32]⟩ : ByteArray) ++ t1024)), [], ⟨H, lt_⟩, (fits_of ⟨.inl ⟨rfl, rfl⟩, trivial⟩ trivial fi_ trivial rfl)⟩
  conv => whnf
  exact ⟨(k, x3_2), [], ⟨H, lt_⟩, (fits_of ⟨.inl ⟨rfl, rfl⟩, trivial⟩ trivial fi_ trivial rfl)⟩
  intro k x3_3 hk H; rcases k with _ | k; exact none_elim H; rw [impl_RecPrint.j1] at H; conv => whnf
  revert H; refine bind_elim (fun t1023 A H => ?_)
  refine call_mk (strconv_Itoa.ac A) (avAL_cons (avA_shut' rfl) (avAL_nil)) (Or.inl rfl) rfl rfl (Nat.le_of_ble_eq_true rfl) ?_
  conv => whnf
  refine nd_ H (fun c H => ?_)
  conv => whnf
  refine nd_ H (fun c H => ?_)
  conv => whnf
  refine nd_ H (fun c H => ?_)
  conv => whnf
  refine nd_ H (fun c H => ?_)
  conv => whnf
  refine nd_ H (fun c H => ?_)
  conv => whnf
  refine nd_ H (fun c H => ?_)
  conv => whnf
  refine nd_ H (fun c H => ?_)
  conv => whnf
  exact ⟨(k, x3_3 ++ (((((((⟨#[32, 119, 105, 116, 104, 105, 110, 32]⟩ : ByteArray) ++ t1023) ++ (⟨#[32, 116, 104, 101, 110, 32]⟩ : ByteArray)) ++ ((rd_impl_RecPhase l0 x11).f6)) ++ (⟨#[32, 101, 108, 115, 101, 32]⟩ : ByteArray)) ++ ((rd_impl_RecPhase l0 x11).f7)) ++ (⟨#[10]⟩ : ByteArray))), [], ⟨H, lt_⟩, (fits_of ⟨.inl ⟨rfl, rfl⟩, trivial⟩ trivial fi_ trivial rfl)⟩
  intro k x3_1 hk H; rcases k with _ | k; exact none_elim H; rw [impl_RecPrint.j0] at H; conv => whnf
  exact ⟨(k, x3_1, wrap64 (x11 + 1)), [], ⟨H, lt_⟩, lt_, (fits_of ⟨.inl ⟨rfl, rfl⟩, ⟨.inl ⟨rfl, rfl⟩, trivial⟩⟩ trivial fi_ trivial rfl)⟩
  conv => whnf
  refine cut_ 88 [(2, .str x3)] [] rfl ⟨.inl rfl, trivial⟩ trivial ?_
  conv => whnf
  injection H with H; subst H
  exact ret_fz [] (rtA_eq rfl)
  conv => whnf
  injection H with H; subst H
  exact ret_fz [] (rtA_eq rfl)
theorem spec_l45SpoilPhase.ac {a0_0 : List Int} {a0_1 : Int} {a1_0 : ByteArray} {a1_1 : Int} {a1_2 : ByteArray} {a1_3 : ByteArray} {a1_4 : Int} {a1_5 : Int} {a1_6 : ByteArray} {a1_7 : ByteArray} {r : ByteArray × Int × ByteArray × ByteArray × Int × Int × ByteArray × ByteArray × (List Int) × Int} (H : spec_l45SpoilPhase.f a0_0 a0_1 a1_0 a1_1 a1_2 a1_3 a1_4 a1_5 a1_6 a1_7 = some r) : ACalls Tryd.prog G 126 [.box [(sv_u8 a0_0), .int .i64 a0_1]] [.bp 0 0, .agg [.str a1_0, .int .i64 a1_1, .str a1_2, .str a1_3, .int .i64 a1_4, .int .i64 a1_5, .str a1_6, .str a1_7]] [.box [(sv_u8 r.2.2.2.2.2.2.2.2.1), .int .i64 r.2.2.2.2.2.2.2.2.2]] (.agg [.str r.1, .int .i64 r.2.1, .str r.2.2.1, .str r.2.2.2.1, .int .i64 r.2.2.2.2.1, .int .i64 r.2.2.2.2.2.1, .str r.2.2.2.2.2.2.1, .str r.2.2.2.2.2.2.2.1]) := by
  refine acalls_of tok hP Tryd.func126 rfl (by kernel_rfl) [.cell 4 73] rfl (by kernel_rfl) (Nat.le_of_ble_eq_true rfl) (.l .n (.c (.l .n (.l .n (.l .n (.l .n (.l .n (.c .n .n)))))) (.c .n .n))) rfl ?_
  unfold spec_l45SpoilPhase.f at H
  conv => whnf
  revert H; refine bind_elim (fun t1157 A H => ?_)
  refine call_mk2 [0] (spec_l41Rd_pick.ac A) ⟨rfl, trivial⟩ rfl rfl rfl rfl rfl rfl rfl rfl ?_
  conv => whnf
  refine br_d H (fun c H => ?_) (fun c H => ?_)
  conv => whnf
  refine Or.inr ?_
  conv => whnf
  revert H; refine bind_elim (fun t1158 A H => ?_)
  refine call_mk2 [0] (spec_l41Rd_of.ac A) ⟨rfl, trivial⟩ rfl rfl rfl rfl rfl (le_eq ⟨rfl, ⟨sl_e rfl lm_ lm_, trivial⟩⟩) rfl rfl ?_
  conv => whnf
  refine cut_ 89 [(3, .bp 1 0), (4, .bp 9 0)] [(0, .box [(sv_u8 t1158.2.1), .int .i64 t1158.2.2]), (1, .box [.str t1158.1, .int .i64 a1_1, .str a1_2, .str a1_3, .int .i64 a1_4, .int .i64 a1_5, .str a1_6, .str a1_7]), (9, .box [.str (⟨#[]⟩ : ByteArray), .int .i64 0, .str (⟨#[]⟩ : ByteArray), .str (⟨#[]⟩ : ByteArray), .int .i64 0, .int .i64 0, .str (⟨#[]⟩ : ByteArray), .str (⟨#[]⟩ : ByteArray)])] rfl ⟨.inl rfl, ⟨.inl rfl, trivial⟩⟩ ⟨rfl, ⟨rfl, ⟨rfl, trivial⟩⟩⟩ ?_
  conv => whnf
  refine cut_ 105 [(4, .bp 9 0)] [(0, .box [(sv_u8 t1158.2.1), .int .i64 t1158.2.2]), (9, .box [.str t1158.1, .int .i64 a1_1, .str a1_2, .str a1_3, .int .i64 a1_4, .int .i64 a1_5, .str a1_6, .str a1_7])] rfl ⟨.inl rfl, trivial⟩ ⟨rfl, ⟨rfl, trivial⟩⟩ ?_
  conv => whnf
  injection H with H; subst H
  exact ret_gen [some 0] [] ((rtA_agg (rtL_cons (rt_eq rfl) (rtL_cons (rt_eq rfl) (rtL_cons (rt_eq rfl) (rtL_cons (rt_eq rfl) (rtL_cons (rt_eq rfl) (rtL_cons (rt_eq rfl) (rtL_cons (rt_eq rfl) (rtL_cons (rt_eq rfl) (rtL_nil))))))))))) ⟨rfl, trivial⟩ rfl
  conv => whnf
  refine br_d H (fun c H => ?_) (fun c H => ?_)
  conv => whnf
  revert H; refine bind_elim (fun t1159 A H => ?_)
  refine call_mk2 [0] (spec_l41Rd_pick.ac A) ⟨rfl, trivial⟩ rfl rfl rfl rfl rfl rfl rfl rfl ?_
  conv => whnf
  refine cut_ 105 [(3, .bp 1 0), (4, .bp 9 0)] [(0, .box [(sv_u8 t1159.2.1), .int .i64 t1159.2.2]), (1, .box [.str a1_0, .int .i64 (wrap64 (t1159.1 - 1)), .str a1_2, .str a1_3, .int .i64 a1_4, .int .i64 a1_5, .str a1_6, .str a1_7]), (9, .box [.str (⟨#[]⟩ : ByteArray), .int .i64 0, .str (⟨#[]⟩ : ByteArray), .str (⟨#[]⟩ : ByteArray), .int .i64 0, .int .i64 0, .str (⟨#[]⟩ : ByteArray), .str (⟨#[]⟩ : ByteArray)])] rfl ⟨.inl rfl, ⟨.inl rfl, trivial⟩⟩ ⟨rfl, ⟨rfl, ⟨rfl, trivial⟩⟩⟩ ?_
  conv => whnf
  refine cut_ 121 [(4, .bp 9 0)] [(0, .box [(sv_u8 t1159.2.1), .int .i64 t1159.2.2]), (9, .box [.str a1_0, .int .i64 (wrap64 (t1159.1 - 1)), .str a1_2, .str a1_3, .int .i64 a1_4, .int .i64 a1_5, .str a1_6, .str a1_7])] rfl ⟨.inl rfl, trivial⟩ ⟨rfl, ⟨rfl, trivial⟩⟩ ?_
  conv => whnf
  injection H with H; subst H
  exact ret_gen [some 0] [] ((rtA_agg (rtL_cons (rt_eq rfl) (rtL_cons (rt_eq rfl) (rtL_cons (rt_eq rfl) (rtL_cons (rt_eq rfl) (rtL_cons (rt_eq rfl) (rtL_cons (rt_eq rfl) (rtL_cons (rt_eq rfl) (rtL_cons (rt_eq rfl) (rtL_nil))))))))))) ⟨rfl, trivial⟩ rfl
  conv => whnf
  refine cut_ 81 [(0, .bp 0 0), (3, .bp 1 0), (4, .bp 9 0), (6, .int .i64 t1157.1), (23, .bool (decide (t1157.1 = 2)))] [(0, .box [(sv_u8 t1157.2.1), .int .i64 t1157.2.2]), (1, .box [.str a1_0, .int .i64 a1_1, .str a1_2, .str a1_3, .int .i64 a1_4, .int .i64 a1_5, .str a1_6, .str a1_7]), (9, .box [.str (⟨#[]⟩ : ByteArray), .int .i64 0, .str (⟨#[]⟩ : ByteArray), .str (⟨#[]⟩ : ByteArray), .int .i64 0, .int .i64 0, .str (⟨#[]⟩ : ByteArray), .str (⟨#[]⟩ : ByteArray)])] rfl ⟨.inl rfl, ⟨.inl rfl, ⟨.inl rfl, ⟨.inl rfl, ⟨.inl rfl, trivial⟩⟩⟩⟩⟩ ⟨rfl, ⟨rfl, ⟨rfl, trivial⟩⟩⟩ ?_
  conv => whnf
  refine br_d H (fun c H => ?_) (fun c H => ?_)
  conv => whnf
  refine Or.inr ?_
  conv => whnf
  revert H; refine bind_elim (fun t1160 A H => ?_)
  refine call_mk2 [0] (spec_l41Rd_of.ac A) ⟨rfl, trivial⟩ rfl rfl rfl rfl rfl (le_eq ⟨rfl, ⟨sl_e rfl lm_ lm_, trivial⟩⟩) rfl rfl ?_
  conv => whnf
  refine cut_ 137 [(3, .bp 1 0), (4, .bp 9 0)] [(0, .box [(sv_u8 t1160.2.1), .int .i64 t1160.2.2]), (1, .box [.str a1_0, .int .i64 a1_1, .str t1160.1, .str a1_3, .int .i64 a1_4, .int .i64 a1_5, .str a1_6, .str a1_7]), (9, .box [.str (⟨#[]⟩ : ByteArray), .int .i64 0, .str (⟨#[]⟩ : ByteArray), .str (⟨#[]⟩ : ByteArray), .int .i64 0, .int .i64 0, .str (⟨#[]⟩ : ByteArray), .str (⟨#[]⟩ : ByteArray)])] rfl ⟨.inl rfl, ⟨.inl rfl, trivial⟩⟩ ⟨rfl, ⟨rfl, ⟨rfl, trivial⟩⟩⟩ ?_
  conv => whnf
  refine cut_ 153 [(4, .bp 9 0)] [(0, .box [(sv_u8 t1160.2.1), .int .i64 t1160.2.2]), (9, .box [.str a1_0, .int .i64 a1_1, .str t1160.1, .str a1_3, .int .i64 a1_4, .int .i64 a1_5, .str a1_6, .str a1_7])] rfl ⟨.inl rfl, trivial⟩ ⟨rfl, ⟨rfl, trivial⟩⟩ ?_
  conv => whnf
  injection H with H; subst H
  exact ret_gen [some 0] [] ((rtA_agg (rtL_cons (rt_eq rfl) (rtL_cons (rt_eq rfl) (rtL_cons (rt_eq rfl) (rtL_cons (rt_eq rfl) (rtL_cons (rt_eq rfl) (rtL_cons (rt_eq rfl) (rtL_cons (rt_eq rfl) (rtL_cons (rt_eq rfl) (rtL_nil))))))))))) ⟨rfl, trivial⟩ rfl
  conv => whnf
  refine br_d H (fun c H => ?_) (fun c H => ?_)
  conv => whnf
  refine Or.inr ?_
  conv => whnf
  revert H; refine bind_elim (fun t1161 A H => ?_)
  refine call_mk2 [0] (spec_l41Rd_of.ac A) ⟨rfl, trivial⟩ rfl rfl rfl rfl rfl (le_eq ⟨rfl, ⟨sl_e rfl lm_ lm_, trivial⟩⟩) rfl rfl ?_
  conv => whnf
  refine cut_ 153 [(3, .bp 1 0), (4, .bp 9 0)] [(0, .box [(sv_u8 t1161.2.1), .int .i64 t1161.2.2]), (1, .box [.str a1_0, .int .i64 a1_1, .str a1_2, .str t1161.1, .int .i64 a1_4, .int .i64 a1_5, .str a1_6, .str a1_7]), (9, .box [.str (⟨#[]⟩ : ByteArray), .int .i64 0, .str (⟨#[]⟩ : ByteArray), .str (⟨#[]⟩ : ByteArray), .int .i64 0, .int .i64 0, .str (⟨#[]⟩ : ByteArray), .str (⟨#[]⟩ : ByteArray)])] rfl ⟨.inl rfl, ⟨.inl rfl, trivial⟩⟩ ⟨rfl, ⟨rfl, ⟨rfl, trivial⟩⟩⟩ ?_
  conv => whnf
  refine cut_ 169 [(4, .bp 9 0)] [(0, .box [(sv_u8 t1161.2.1), .int .i64 t1161.2.2]), (9, .box [.str a1_0, .int .i64 a1_1, .str a1_2, .str t1161.1, .int .i64 a1_4, .int .i64 a1_5, .str a1_6, .str a1_7])] rfl ⟨.inl rfl, trivial⟩ ⟨rfl, ⟨rfl, trivial⟩⟩ ?_
  conv => whnf
  injection H with H; subst H
  exact ret_gen [some 0] [] ((rtA_agg (rtL_cons (rt_eq rfl) (rtL_cons (rt_eq rfl) (rtL_cons (rt_eq rfl) (rtL_cons (rt_eq rfl) (rtL_cons (rt_eq rfl) (rtL_cons (rt_eq rfl) (rtL_cons (rt_eq rfl) (rtL_cons (rt_eq rfl) (rtL_nil))))))))))) ⟨rfl, trivial⟩ rfl
  conv => whnf
  refine br_d H (fun c H => ?_) (fun c H => ?_)
  conv => whnf
  refine Or.inl ?_
  conv => whnf
  revert H; refine bind_elim (fun t1162 A H => ?_)
  refine call_mk2 [0] (spec_l41Rd_pick.ac A) ⟨rfl, trivial⟩ rfl rfl rfl rfl rfl rfl rfl rfl ?_
  conv => whnf
  refine nd_ H (fun c H => ?_)
  conv => whnf
  refine nd_ H (fun c H => ?_)
  conv => whnf
  refine El.mk (el_of (ys := ([(-1), 0, 1, a1_5, wrap64 (a1_5 + 1), 1000, 1001] : List Int).map en_i64) lm_ (rdm_en_i64 _ _ nf_ nf_)) ?_
  conv => whnf
  refine cut_ 209 [(3, .bp 1 0), (4, .bp 9 0)] [(0, .box [(sv_u8 t1162.2.1), .int .i64 t1162.2.2]), (1, .box [.str a1_0, .int .i64 a1_1, .str a1_2, .str a1_3, .int .i64 (rd ([(-1), 0, 1, a1_5, wrap64 (a1_5 + 1), 1000, 1001] : List Int) t1162.1), .int .i64 a1_5, .str a1_6, .str a1_7]), (9, .box [.str (⟨#[]⟩ : ByteArray), .int .i64 0, .str (⟨#[]⟩ : ByteArray), .str (⟨#[]⟩ : ByteArray), .int .i64 0, .int .i64 0, .str (⟨#[]⟩ : ByteArray), .str (⟨#[]⟩ : ByteArray)])] rfl ⟨.inl rfl, ⟨.inl rfl, trivial⟩⟩ ⟨rfl, ⟨rfl, ⟨rfl, trivial⟩⟩⟩ ?_
  conv => whnf
  refine cut_ 225 [(4, .bp 9 0)] [(0, .box [(sv_u8 t1162.2.1), .int .i64 t1162.2.2]), (9, .box [.str a1_0, .int .i64 a1_1, .str a1_2, .str a1_3, .int .i64 (rd ([(-1), 0, 1, a1_5, wrap64 (a1_5 + 1), 1000, 1001] : List Int) t1162.1), .int .i64 a1_5, .str a1_6, .str a1_7])] rfl ⟨.inl rfl, trivial⟩ ⟨rfl, ⟨rfl, trivial⟩⟩ ?_
  conv => whnf
  injection H with H; subst H
  exact ret_gen [some 0] [] ((rtA_agg (rtL_cons (rt_eq rfl) (rtL_cons (rt_eq rfl) (rtL_cons (rt_eq rfl) (rtL_cons (rt_eq rfl) (rtL_cons (rt_eq rfl) (rtL_cons (rt_eq rfl) (rtL_cons (rt_eq rfl) (rtL_cons (rt_eq rfl) (rtL_nil))))))))))) ⟨rfl, trivial⟩ rfl
  conv => whnf
  refine br_d H (fun c H => ?_) (fun c H => ?_)
  conv => whnf
  refine Or.inl ?_
  conv => whnf
  revert H; refine bind_elim (fun t1163 A H => ?_)
  refine call_mk2 [0] (spec_l41Rd_pick.ac A) ⟨rfl, trivial⟩ rfl rfl rfl rfl rfl rfl rfl rfl ?_
  conv => whnf
  refine nd_ H (fun c H => ?_)
  conv => whnf
  refine nd_ H (fun c H => ?_)
  conv => whnf
  refine El.mk (el_of (ys := ([(-1), 0, 1, 1000, 1001] : List Int).map en_i64) lm_ (rdm_en_i64 _ _ nf_ nf_)) ?_
  conv => whnf
  refine cut_ 185 [(3, .bp 1 0), (4, .bp 9 0)] [(0, .box [(sv_u8 t1163.2.1), .int .i64 t1163.2.2]), (1, .box [.str a1_0, .int .i64 a1_1, .str a1_2, .str a1_3, .int .i64 a1_4, .int .i64 (rd ([(-1), 0, 1, 1000, 1001] : List Int) t1163.1), .str a1_6, .str a1_7]), (9, .box [.str (⟨#[]⟩ : ByteArray), .int .i64 0, .str (⟨#[]⟩ : ByteArray), .str (⟨#[]⟩ : ByteArray), .int .i64 0, .int .i64 0, .str (⟨#[]⟩ : ByteArray), .str (⟨#[]⟩ : ByteArray)])] rfl ⟨.inl rfl, ⟨.inl rfl, trivial⟩⟩ ⟨rfl, ⟨rfl, ⟨rfl, trivial⟩⟩⟩ ?_
  conv => whnf
  refine cut_ 201 [(4, .bp 9 0)] [(0, .box [(sv_u8 t1163.2.1), .int .i64 t1163.2.2]), (9, .box [.str a1_0, .int .i64 a1_1, .str a1_2, .str a1_3, .int .i64 a1_4, .int .i64 (rd ([(-1), 0, 1, 1000, 1001] : List Int) t1163.1), .str a1_6, .str a1_7])] rfl ⟨.inl rfl, trivial⟩ ⟨rfl, ⟨rfl, trivial⟩⟩ ?_
  conv => whnf
  injection H with H; subst H
  exact ret_gen [some 0] [] ((rtA_agg (rtL_cons (rt_eq rfl) (rtL_cons (rt_eq rfl) (rtL_cons (rt_eq rfl) (rtL_cons (rt_eq rfl) (rtL_cons (rt_eq rfl) (rtL_cons (rt_eq rfl) (rtL_cons (rt_eq rfl) (rtL_cons (rt_eq rfl) (rtL_nil))))))))))) ⟨rfl, trivial⟩ rfl
  conv => whnf
  refine br_d H (fun c H => ?_) (fun c H => ?_)
  conv => whnf
  refine Or.inr ?_
  conv => whnf
  revert H; refine bind_elim (fun t1164 A H => ?_)
  refine call_mk2 [0] (spec_l41Rd_of.ac A) ⟨rfl, trivial⟩ rfl rfl rfl rfl rfl (le_eq ⟨rfl, ⟨sl_e rfl lm_ lm_, trivial⟩⟩) rfl rfl ?_
  conv => whnf
  refine cut_ 185 [(3, .bp 1 0), (4, .bp 9 0)] [(0, .box [(sv_u8 t1164.2.1), .int .i64 t1164.2.2]), (1, .box [.str a1_0, .int .i64 a1_1, .str a1_2, .str a1_3, .int .i64 a1_4, .int .i64 a1_5, .str t1164.1, .str a1_7]), (9, .box [.str (⟨#[]⟩ : ByteArray), .int .i64 0, .str (⟨#[]⟩ : ByteArray), .str (⟨#[]⟩ : ByteArray), .int .i64 0, .int .i64 0, .str (⟨#[]⟩ : ByteArray), .str (⟨#[]⟩ : ByteArray)])] rfl ⟨.inl rfl, ⟨.inl rfl, trivial⟩⟩ ⟨rfl, ⟨rfl, ⟨rfl, trivial⟩⟩⟩ ?_
  conv => whnf
  refine cut_ 201 [(4, .bp 9 0)] [(0, .box [(sv_u8 t1164.2.1), .int .i64 t1164.2.2]), (9, .box [.str a1_0, .int .i64 a1_1, .str a1_2, .str a1_3, .int .i64 a1_4, .int .i64 a1_5, .str t1164.1, .str a1_7])] rfl ⟨.inl rfl, trivial⟩ ⟨rfl, ⟨rfl, trivial⟩⟩ ?_
  conv => whnf
  injection H with H; subst H
  exact ret_gen [some 0] [] ((rtA_agg (rtL_cons (rt_eq rfl) (rtL_cons (rt_eq rfl) (rtL_cons (rt_eq rfl) (rtL_cons (rt_eq rfl) (rtL_cons (rt_eq rfl) (rtL_cons (rt_eq rfl) (rtL_cons (rt_eq rfl) (rtL_cons (rt_eq rfl) (rtL_nil))))))))))) ⟨rfl, trivial⟩ rfl
  conv => whnf
  refine Or.inr ?_
  conv => whnf
  revert H; refine bind_elim (fun t1165 A H => ?_)
  refine call_mk2 [0] (spec_l41Rd_of.ac A) ⟨rfl, trivial⟩ rfl rfl rfl rfl rfl (le_eq ⟨rfl, ⟨sl_e rfl lm_ lm_, trivial⟩⟩) rfl rfl ?_
  conv => whnf
  refine cut_ 185 [(3, .bp 1 0), (4, .bp 9 0)] [(0, .box [(sv_u8 t1165.2.1), .int .i64 t1165.2.2]), (1, .box [.str a1_0, .int .i64 a1_1, .str a1_2, .str a1_3, .int .i64 a1_4, .int .i64 a1_5, .str a1_6, .str t1165.1]), (9, .box [.str (⟨#[]⟩ : ByteArray), .int .i64 0, .str (⟨#[]⟩ : ByteArray), .str (⟨#[]⟩ : ByteArray), .int .i64 0, .int .i64 0, .str (⟨#[]⟩ : ByteArray), .str (⟨#[]⟩ : ByteArray)])] rfl ⟨.inl rfl, ⟨.inl rfl, trivial⟩⟩ ⟨rfl, ⟨rfl, ⟨rfl, trivial⟩⟩⟩ ?_
  conv => whnf
  refine cut_ 201 [(4, .bp 9 0)] [(0, .box [(sv_u8 t1165.2.1), .int .i64 t1165.2.2]), (9, .box [.str a1_0, .int .i64 a1_1, .str a1_2, .str a1_3, .int .i64 a1_4, .int .i64 a1_5, .str a1_6, .str t1165.1])] rfl ⟨.inl rfl, trivial⟩ ⟨rfl, ⟨rfl, trivial⟩⟩ ?_
  conv => whnf
  injection H with H; subst H
  exact ret_gen [some 0] [] ((rtA_agg (rtL_cons (rt_eq rfl) (rtL_cons (rt_eq rfl) (rtL_cons (rt_eq rfl) (rtL_cons (rt_eq rfl) (rtL_cons (rt_eq rfl) (rtL_cons (rt_eq rfl) (rtL_cons (rt_eq rfl) (rtL_cons (rt_eq rfl) (rtL_nil))))))))))) ⟨rfl, trivial⟩ rfl
theorem spec_l45Spoil.j0_sq {F : (Exit → St → Prop) → St → Prop} {hv : List Tmp} {K : St → Prop} {Q : Exit → St → Prop} {σ : St} {r : (List S_impl_RecPhase) × (List Int) × Int} {KK : Nat}
    (h1 : F (fun e σ' => match e with | .normal => ∃ (y : Nat × (List Int) × Int × (List S_impl_RecPhase)) (rn : List (Option Nat)), (spec_l45Spoil.j0 y.1 y.2.2.2 y.2.1 y.2.2.1 = some r ∧ y.1 < KK) ∧ Fits σ σ' [0, 25] [(5, .own 0 y.2.2.2.length)] [(0, .box [(sv_u8 y.2.1), .int .i64 y.2.2.1])] [.arr 73 8 (y.2.2.2.map en_S_impl_RecPhase)] rn | e => Q e σ') σ)
    (h2 : ∀ (k : Nat) (x1000000 : List Int) (x1000001 : Int) (x5 : List S_impl_RecPhase), k < KK → spec_l45Spoil.j0 k x5 x1000000 x1000001 = some r → headN σ hv [0, 25] [(5, .own 0 x5.length)] [(0, .box [(sv_u8 x1000000), .int .i64 x1000001])] [.arr 73 8 (x5.map en_S_impl_RecPhase)] K) : Sq F hv K Q σ := by
  unfold Sq
  refine ⟨Nat × (List Int) × Int × (List S_impl_RecPhase), fun x => spec_l45Spoil.j0 x.1 x.2.2.2 x.2.1 x.2.2.1 = some r ∧ x.1 < KK, [0, 25], fun x => [(5, .own 0 x.2.2.2.length)], fun x => [(0, .box [(sv_u8 x.2.1), .int .i64 x.2.2.1])], fun x => [.arr 73 8 (x.2.2.2.map en_S_impl_RecPhase)], h1, ?_⟩
  rintro ⟨k, x1000000, x1000001, x5⟩ ⟨H, hk⟩
  exact h2 k x1000000 x1000001 x5 hk H
theorem spec_l45Spoil.l0_lp {F : (Exit → St → Prop) → St → Prop} {hv : List Tmp} {Q : Exit → St → Prop} {σ : St} {r : (List S_impl_RecPhase) × (List Int) × Int} {k : Nat} {t1194 : Int × (List Int) × Int} {x5_1 : List S_impl_RecPhase} {x8 : Int} {x1000000_1 : List Int} {x1000001_1 : Int} (H : spec_l45Spoil.l0 k x5_1 x8 t1194 x1000000_1 x1000001_1 = some r) (rn : List (Option Nat)) (h1 : Fits σ σ [0, 25] [(5, .own 0 x5_1.length), (8, .int .i64 x8)] [(0, .box [(sv_u8 x1000000_1), .int .i64 x1000001_1])] [.arr 73 8 (x5_1.map en_S_impl_RecPhase)] rn)
    (h2 : ∀ (k0 : Nat) (x5_1 : List S_impl_RecPhase) (x8 : Int) (x1000000_1 : List Int) (x1000001_1 : Int), k0 < k + 1 → spec_l45Spoil.l0 k0 x5_1 x8 t1194 x1000000_1 x1000001_1 = some r → headN σ hv [0, 25] [(5, .own 0 x5_1.length), (8, .int .i64 x8)] [(0, .box [(sv_u8 x1000000_1), .int .i64 x1000001_1])] [.arr 73 8 (x5_1.map en_S_impl_RecPhase)] (F (fun e σ' => match e with | .normal => ∃ (y : Nat × (List S_impl_RecPhase) × Int × (List Int) × Int) (rn : List (Option Nat)), (spec_l45Spoil.l0 y.1 y.2.1 y.2.2.1 t1194 y.2.2.2.1 y.2.2.2.2 = some r ∧ y.1 < k + 1) ∧ y.1 < k0 ∧ Fits σ σ' [0, 25] [(5, .own 0 y.2.1.length), (8, .int .i64 y.2.2.1)] [(0, .box [(sv_u8 y.2.2.2.1), .int .i64 y.2.2.2.2])] [.arr 73 8 (y.2.1.map en_S_impl_RecPhase)] rn | e => Q e σ'))) : Lp F hv Q σ := by
  unfold Lp
  refine ⟨Nat × (List S_impl_RecPhase) × Int × (List Int) × Int, fun x => spec_l45Spoil.l0 x.1 x.2.1 x.2.2.1 t1194 x.2.2.2.1 x.2.2.2.2 = some r ∧ x.1 < k + 1, fun x => x.1, [0, 25], fun x => [(5, .own 0 x.2.1.length), (8, .int .i64 x.2.2.1)], fun x => [(0, .box [(sv_u8 x.2.2.2.1), .int .i64 x.2.2.2.2])], fun x => [.arr 73 8 (x.2.1.map en_S_impl_RecPhase)], ⟨(k, x5_1, x8, x1000000_1, x1000001_1), rn, ⟨H, Nat.lt_succ_self _⟩, h1⟩, ?_⟩
  rintro ⟨k, x5_1, x8, x1000000_1, x1000001_1⟩ ⟨H, hk⟩
  exact h2 k x5_1 x8 x1000000_1 x1000001_1 hk H
theorem spec_l45Spoil.ac {k : Nat} {a0_0 : List Int} {a0_1 : Int} {l1 : List S_impl_RecPhase} {r : (List S_impl_RecPhase) × (List Int) × Int} (H : spec_l45Spoil.f k a0_0 a0_1 l1 = some r) : ACalls Tryd.prog G 111 [.box [(sv_u8 a0_0), .int .i64 a0_1]] [.bp 0 0, (sv_S_impl_RecPhase l1)] [.box [(sv_u8 r.2.1), .int .i64 r.2.2]] ((sv_S_impl_RecPhase r.1)) := by
  refine acalls_of tok hP Tryd.func111 rfl (by kernel_rfl) [.tmp 4] rfl (by kernel_rfl) (Nat.le_of_ble_eq_true rfl) (.l .n (.l .n (.c .n (.j (.l .n (.l .n (.l .n (.l .n (.l .n (.l .n (.l (.c .n (.l .n (.l .n (.c .n .n)))) .n))))))) (.c .n .n))))) rfl ?_
  unfold spec_l45Spoil.f at H
  conv => whnf
  refine Or.inl ?_
  conv => whnf
  refine nd_ H (fun c H => ?_)
  conv => whnf
  revert H; refine bind_elim (fun t1174 A H => ?_)
  refine call_mk2 [0] (spec_l41Rd_pick.ac A) ⟨rfl, trivial⟩ rfl rfl rfl rfl rfl rfl rfl rfl ?_
  conv => whnf
  refine cut_ 81 [(0, .bp 0 0), (5, .own 25 (0 + l1.length)), (6, .int .i64 t1174.1)] [(0, .box [(sv_u8 t1174.2.1), .int .i64 t1174.2.2]), (25, .arr 73 8 ((([] : List S_impl_RecPhase) ++ l1).map en_S_impl_RecPhase))] rfl ⟨.inl rfl, ⟨.inl rfl, ⟨.inl rfl, trivial⟩⟩⟩ ⟨rfl, ⟨fm_, trivial⟩⟩ ?_
  conv => whnf
  refine spec_l45Spoil.j0_sq (KK := k + 1) (r := r) ?_ ?_
  conv => whnf
  revert H; refine bind_elim (fun t1193 A H => ?_)
  refine call_mk2 [0] (spec_l41Rd_pick.ac A) ⟨rfl, trivial⟩ rfl rfl rfl rfl rfl rfl rfl rfl ?_
  conv => whnf
  refine br_d H (fun c H => ?_) (fun c H => ?_)
  conv => whnf
  refine nd_ H (fun c H => ?_)
  conv => whnf
  refine nd_ H (fun c H => ?_)
  conv => whnf
  refine El.mk (rdm_en_S_impl_RecPhase _ _ nf_ nf_) ?_
  conv => whnf
  refine Or.inl ?_
  conv => whnf
  refine nd_ H (fun c H => ?_)
  conv => whnf
  exact ⟨(k, t1193.2.1, t1193.2.2, ((([] : List S_impl_RecPhase) ++ l1) ++ ([(⟨(rd_impl_RecPhase (([] : List S_impl_RecPhase) ++ l1) t1174.1).f0, (rd_impl_RecPhase (([] : List S_impl_RecPhase) ++ l1) t1174.1).f1, (rd_impl_RecPhase (([] : List S_impl_RecPhase) ++ l1) t1174.1).f2, (rd_impl_RecPhase (([] : List S_impl_RecPhase) ++ l1) t1174.1).f3, (rd_impl_RecPhase (([] : List S_impl_RecPhase) ++ l1) t1174.1).f4, (rd_impl_RecPhase (([] : List S_impl_RecPhase) ++ l1) t1174.1).f5, (rd_impl_RecPhase (([] : List S_impl_RecPhase) ++ l1) t1174.1).f6, (rd_impl_RecPhase (([] : List S_impl_RecPhase) ++ l1) t1174.1).f7⟩ : S_impl_RecPhase)] : List S_impl_RecPhase))), [some 161], ⟨H, lt_⟩, (fits_of ⟨mt_own lm_, trivial⟩ ⟨fm_, trivial⟩ fi_ ⟨⟨_, rfl⟩, ⟨_, rfl, ⟨.inl ⟨rfl, rfl⟩, ⟨.inl ⟨rfl, rfl⟩, trivial⟩⟩⟩, trivial⟩ rfl)⟩
  conv => whnf
  refine br_d H (fun c H => ?_) (fun c H => ?_)
  conv => whnf
  refine nd_ H (fun c H => ?_)
  conv => whnf
  refine nd_ H (fun c H => ?_)
  conv => whnf
  refine El.mk (rdm_en_S_impl_RecPhase _ _ nf_ nf_) ?_
  conv => whnf
  refine Nd.mk (by decide) ?_
  conv => whnf
  refine nd_ H (fun c H => ?_)
  conv => whnf
  refine El.mk (rdm_en_S_impl_RecPhase _ _ nf_ nf_) ?_
  conv => whnf
  exact ⟨(k, t1193.2.1, t1193.2.2, ((([] : List S_impl_RecPhase) ++ l1).set (0 : Int).toNat (⟨(rd_impl_RecPhase (([] : List S_impl_RecPhase) ++ l1) t1174.1).f0, (rd_impl_RecPhase (([] : List S_impl_RecPhase) ++ l1) t1174.1).f1, (rd_impl_RecPhase (([] : List S_impl_RecPhase) ++ l1) t1174.1).f2, (rd_impl_RecPhase (([] : List S_impl_RecPhase) ++ l1) t1174.1).f3, (rd_impl_RecPhase (([] : List S_impl_RecPhase) ++ l1) t1174.1).f4, (rd_impl_RecPhase (([] : List S_impl_RecPhase) ++ l1) t1174.1).f5, (rd_impl_RecPhase (([] : List S_impl_RecPhase) ++ l1) t1174.1).f6, (rd_impl_RecPhase (([] : List S_impl_RecPhase) ++ l1) t1174.1).f7⟩ : S_impl_RecPhase))), [some 25], ⟨H, lt_⟩, (fits_of ⟨mt_own lm_, trivial⟩ ⟨fm_, trivial⟩ fi_ ⟨⟨_, rfl⟩, ⟨_, rfl, ⟨.inl ⟨rfl, rfl⟩, ⟨.inl ⟨rfl, rfl⟩, trivial⟩⟩⟩, trivial⟩ rfl)⟩
  conv => whnf
  refine br_d H (fun c H => ?_) (fun c H => ?_)
  conv => whnf
  revert H; refine bind_elim (fun t1194 A H => ?_)
  refine call_mk2 [0] (spec_l41Rd_pick.ac A) ⟨rfl, trivial⟩ rfl rfl rfl rfl rfl rfl rfl rfl ?_
  conv => whnf
  refine cut_ 177 [(0, .bp 0 0), (5, .own 25 (0 + l1.length)), (7, .int .i64 (wrap64 (12 + t1194.1)))] [(0, .box [(sv_u8 t1194.2.1), .int .i64 t1194.2.2]), (25, .arr 73 8 ((([] : List S_impl_RecPhase) ++ l1).map en_S_impl_RecPhase))] rfl ⟨.inl rfl, ⟨.inl rfl, ⟨.inl rfl, trivial⟩⟩⟩ ⟨rfl, ⟨rfl, trivial⟩⟩ ?_
  conv => whnf
  refine spec_l45Spoil.l0_lp (t1194 := t1194) (k := k) H [some 25] (fits_of ⟨mt_own lm_, ⟨.inl ⟨rfl, rfl⟩, trivial⟩⟩ ⟨rfl, trivial⟩ fi_ ⟨⟨_, rfl⟩, ⟨_, rfl, ⟨.inl ⟨rfl, rfl⟩, ⟨.inl ⟨rfl, rfl⟩, trivial⟩⟩⟩, trivial⟩ rfl) ?_
  intro k x5_1 x8 x1000000_1 x1000001_1 hk H; rcases k with _ | k; exact none_elim H; rw [spec_l45Spoil.l0] at H; conv => whnf
  refine br_d H (fun c H => ?_) (fun c H => ?_)
  conv => whnf
  revert H; refine bind_elim (fun t1197 A H => ?_)
  refine call_mk (spec_l43Dec.ac A) (avAL_cons (avA_shut' rfl) (avAL_nil)) (Or.inl rfl) rfl rfl (Nat.le_of_ble_eq_true rfl) ?_
  conv => whnf
  refine nd_ H (fun c H => ?_)
  conv => whnf
  refine Or.inr ?_
  conv => whnf
  revert H; refine bind_elim (fun t1198 A H => ?_)
  refine call_mk2 [0] (spec_l45Phase.ac A) ⟨rfl, trivial⟩ rfl rfl rfl rfl rfl (le_eq ⟨rfl, ⟨rfl, ⟨sl_e rfl lm_ lm_, trivial⟩⟩⟩) rfl rfl ?_
  conv => whnf
  refine Or.inl ?_
  conv => whnf
  refine nd_ H (fun c H => ?_)
  conv => whnf
  refine cut_ 298 [(0, .bp 0 0), (5, .own 282 (x5_1.length + 1)), (7, .int .i64 (wrap64 (12 + t1194.1))), (8, .int .i64 x8)] [(0, .box [(sv_u8 t1198.2.2.2.2.2.2.2.2.1), .int .i64 t1198.2.2.2.2.2.2.2.2.2]), (282, .arr 73 8 ((x5_1 ++ ([(⟨t1198.1, t1198.2.1, t1198.2.2.1, t1198.2.2.2.1, t1198.2.2.2.2.1, t1198.2.2.2.2.2.1, t1198.2.2.2.2.2.2.1, t1198.2.2.2.2.2.2.2.1⟩ : S_impl_RecPhase)] : List S_impl_RecPhase)).map en_S_impl_RecPhase))] rfl ⟨.inl rfl, ⟨.inl rfl, ⟨.inl rfl, ⟨.inl rfl, trivial⟩⟩⟩⟩ ⟨rfl, ⟨fm_, trivial⟩⟩ ?_
  conv => whnf
  exact ⟨(k, (x5_1 ++ ([(⟨t1198.1, t1198.2.1, t1198.2.2.1, t1198.2.2.2.1, t1198.2.2.2.2.1, t1198.2.2.2.2.2.1, t1198.2.2.2.2.2.2.1, t1198.2.2.2.2.2.2.2.1⟩ : S_impl_RecPhase)] : List S_impl_RecPhase)), wrap64 (x8 + 1), t1198.2.2.2.2.2.2.2.2.1, t1198.2.2.2.2.2.2.2.2.2), [some 282], ⟨H, lt_⟩, lt_, (fits_of ⟨mt_own lm_, ⟨.inl ⟨rfl, rfl⟩, trivial⟩⟩ ⟨rfl, trivial⟩ fi_ ⟨⟨_, rfl⟩, ⟨_, rfl, ⟨.inl ⟨rfl, rfl⟩, ⟨.inl ⟨rfl, rfl⟩, trivial⟩⟩⟩, trivial⟩ rfl)⟩
  conv => whnf
  exact ⟨(k, x1000000_1, x1000001_1, x5_1), [some 185], ⟨H, lt_⟩, (fits_of ⟨rfl, trivial⟩ ⟨rfl, trivial⟩ fi_ ⟨⟨_, rfl⟩, ⟨_, rfl, ⟨.inl ⟨rfl, rfl⟩, ⟨.inl ⟨rfl, rfl⟩, trivial⟩⟩⟩, trivial⟩ rfl)⟩
  conv => whnf
  refine nd_ H (fun c H => ?_)
  conv => whnf
  refine nd_ H (fun c H => ?_)
  conv => whnf
  refine El.mk (rdm_en_S_impl_RecPhase _ _ nf_ nf_) ?_
  conv => whnf
  revert H; refine bind_elim (fun t1199 A H => ?_)
  refine call_mk2 [0] (spec_l45SpoilPhase.ac A) ⟨rfl, trivial⟩ rfl rfl rfl rfl rfl rfl rfl rfl ?_
  conv => whnf
  refine Nd.mk nf_ ?_
  conv => whnf
  refine Nd.mk nf_ ?_
  conv => whnf
  refine El.mk (rdm_en_S_impl_RecPhase _ _ nf_ nf_) ?_
  conv => whnf
  exact ⟨(k, t1199.2.2.2.2.2.2.2.2.1, t1199.2.2.2.2.2.2.2.2.2, ((([] : List S_impl_RecPhase) ++ l1).set (t1174.1).toNat (⟨t1199.1, t1199.2.1, t1199.2.2.1, t1199.2.2.2.1, t1199.2.2.2.2.1, t1199.2.2.2.2.2.1, t1199.2.2.2.2.2.2.1, t1199.2.2.2.2.2.2.2.1⟩ : S_impl_RecPhase))), [some 25], ⟨H, lt_⟩, (fits_of ⟨mt_own lm_, trivial⟩ ⟨fm_, trivial⟩ fi_ ⟨⟨_, rfl⟩, ⟨_, rfl, ⟨.inl ⟨rfl, rfl⟩, ⟨.inl ⟨rfl, rfl⟩, trivial⟩⟩⟩, trivial⟩ rfl)⟩
  intro k x1000000 x1000001 x5 hk H; rcases k with _ | k; exact none_elim H; rw [spec_l45Spoil.j0] at H; conv => whnf
  refine cut_ 98 [(4, .own 81 x5.length)] [(0, .box [(sv_u8 x1000000), .int .i64 x1000001]), (81, .arr 73 8 (x5.map en_S_impl_RecPhase))] rfl ⟨.inl rfl, trivial⟩ ⟨rfl, ⟨rfl, trivial⟩⟩ ?_
  conv => whnf
  injection H with H; subst H
  exact ret_gen [some 0] [81] ((rtA_fz' rfl rfl)) ⟨rfl, trivial⟩ rfl
theorem spec_l45Any.ac {k : Nat} {a0_0 : List Int} {a0_1 : Int} {r : (List S_impl_RecPhase) × (List Int) × Int} (H : spec_l45Any.f k a0_0 a0_1 = some r) : ACalls Tryd.prog G 80 [.box [(sv_u8 a0_0), .int .i64 a0_1]] [.bp 0 0] [.box [(sv_u8 r.2.1), .int .i64 r.2.2]] ((sv_S_impl_RecPhase r.1)) := by
  refine acalls_of tok hP Tryd.func80 rfl (by kernel_rfl) [.tmp 2] rfl (by kernel_rfl) (Nat.le_of_ble_eq_true rfl) (.l .n (.l .n (.l (.l .n (.l .n (.l (.c .n .n) (.c .n .n)))) .n))) rfl ?_
  unfold spec_l45Any.f at H
  conv => whnf
  revert H; refine bind_elim (fun t1201 A H => ?_)
  refine call_mk2 [0] (spec_l45Recipe.ac A) ⟨rfl, trivial⟩ rfl rfl rfl rfl rfl rfl rfl rfl ?_
  conv => whnf
  revert H; refine bind_elim (fun t1206 A H => ?_)
  refine call_mk2 [0] (spec_l41Rd_pick.ac A) ⟨rfl, trivial⟩ rfl rfl rfl rfl rfl rfl rfl rfl ?_
  conv => whnf
  refine br_d H (fun c H => ?_) (fun c H => ?_)
  conv => whnf
  revert H; refine bind_elim (fun t1207 A H => ?_)
  refine call_mk2 [0] (spec_l45Spoil.ac A) ⟨rfl, trivial⟩ rfl rfl rfl rfl rfl rfl rfl rfl ?_
  conv => whnf
  refine cut_ 97 [(2, (sv_S_impl_RecPhase t1207.1))] [(0, .box [(sv_u8 t1207.2.1), .int .i64 t1207.2.2])] rfl ⟨.inl rfl, trivial⟩ ⟨rfl, trivial⟩ ?_
  conv => whnf
  injection H with H; subst H
  exact ret_gen [some 0] [] ((rtA_eq rfl)) ⟨rfl, trivial⟩ rfl
  conv => whnf
  refine cut_ 81 [(3, (sv_S_impl_RecPhase t1201.1)), (13, .bool (decide (t1206.1 = 1)))] [(0, .box [(sv_u8 t1206.2.1), .int .i64 t1206.2.2])] rfl ⟨.inl rfl, ⟨.inl rfl, trivial⟩⟩ ⟨rfl, trivial⟩ ?_
  conv => whnf
  refine br_d H (fun c H => ?_) (fun c H => ?_)
  conv => whnf
  refine Or.inl ?_
  conv => whnf
  injection H with H; subst H
  exact ret_gen [some 0] [81] ((rtA_fzD rfl lm_ lm_ rfl)) ⟨rfl, trivial⟩ rfl
  conv => whnf
  injection H with H; subst H
  exact ret_gen [some 0] [] ((rtA_eq rfl)) ⟨rfl, trivial⟩ rfl
theorem spec_DrawRecPrint.ac {k : Nat} {l0 : List Int} {r : List S_impl_RecPhase} (H : spec_DrawRecPrint.f k l0 = some r) : ACalls Tryd.prog G 34 [] [(sv_u8 l0)] [] ((sv_S_impl_RecPhase r)) := by
  refine acalls_of tok hP Tryd.func34 rfl (by kernel_rfl) [.tmp 2] rfl (by kernel_rfl) (Nat.le_of_ble_eq_true rfl) .n rfl ?_
  unfold spec_DrawRecPrint.f at H
  conv => whnf
  revert H; refine bind_elim (fun t1210 A H => ?_)
  refine call_mk (spec_l41Open.ac A) (avAL_cons (avA_shut' rfl) (avAL_nil)) (Or.inl rfl) rfl rfl (Nat.le_of_ble_eq_true rfl) ?_
  conv => whnf
  revert H; refine bind_elim (fun t1211 A H => ?_)
  refine call_mk2 [16] (spec_l45Any.ac A) ⟨rfl, trivial⟩ rfl rfl rfl rfl rfl rfl rfl rfl ?_
  conv => whnf
  injection H with H; subst H
  exact ret_fz [] (rtA_eq rfl)
theorem laws_FnRecText.j0_sq {F : (Exit → St → Prop) → St → Prop} {hv : List Tmp} {K : St → Prop} {Q : Exit → St → Prop} {σ : St} {r : Bool} {KK : Nat} {l1 : List Int}
    (h1 : F (fun e σ' => match e with | .normal => ∃ (y : Nat) (rn : List (Option Nat)), (laws_FnRecText.j0 y l1 = some r ∧ y < KK) ∧ Fits σ σ' [136] [] [] [] rn | e => Q e σ') σ)
    (h2 : ∀ (k : Nat), k < KK → laws_FnRecText.j0 k l1 = some r → headN σ hv [136] [] [] [] K) : Sq F hv K Q σ := by
  unfold Sq
  refine ⟨Nat, fun x => laws_FnRecText.j0 x l1 = some r ∧ x < KK, [136], fun x => [], fun x => [], fun x => [], h1, ?_⟩
  rintro k ⟨H, hk⟩
  exact h2 k hk H
theorem laws_FnRecText.ac [GvOk G] {k : Nat} {l0 : List Int} {l1 : List Int} {r : Bool} (H : laws_FnRecText.f k l0 l1 = some r) : ACalls Tryd.prog G 8 [] [(sv_u8 l0), (sv_u8 l1)] [] (.bool r) := by
  refine acalls_of tok hP Tryd.func8 rfl (by kernel_rfl) [.tmp 4] rfl (by kernel_rfl) (Nat.le_of_ble_eq_true rfl) (.l .n (.l (.l .n (.l (.c .n .n) .n)) (.c .n (.l .n (.c .n (.l (.c .n (.l (.c .n .n) .n)) (.j (.c .n (.l (.l .n (.c .n (.l (.c .n .n) .n))) .n)) (.c .n (.l .n (.c .n (.l (.c .n (.l (.c .n .n) .n)) (.c .n .n)))))))))))) rfl ?_
  unfold laws_FnRecText.f at H
  conv => whnf
  refine br_d H (fun c H => ?_) (fun c H => ?_)
  conv => whnf
  refine Br.t ft_ ?_
  conv => whnf
  refine Br.t ft_ ?_
  conv => whnf
  refine Br.t ft_ ?_
  conv => whnf
  refine Br.t rfl ?_
  conv => whnf
  refine cut_ 80 [(4, .bool true)] [] rfl ⟨.inl rfl, trivial⟩ trivial ?_
  conv => whnf
  injection H with H; subst H
  exact ret_fz [] (rtA_eq rfl)
  conv => whnf
  refine Br.f ff_ ?_
  conv => whnf
  refine Br.f ff_ ?_
  conv => whnf
  refine Br.f ff_ ?_
  conv => whnf
  refine br_d H (fun c H => ?_) (fun c H => ?_)
  conv => whnf
  refine cut_ 80 [(4, .bool true)] [] rfl ⟨.inl rfl, trivial⟩ trivial ?_
  conv => whnf
  injection H with H; subst H
  exact ret_fz [] (rtA_eq rfl)
  conv => whnf
  revert H; refine bind_elim (fun t1213 A H => ?_)
  refine call_mk (spec_DrawRecParse.ac A) (avAL_cons (avA_shut' rfl) (avAL_nil)) (Or.inl rfl) rfl rfl (Nat.le_of_ble_eq_true rfl) ?_
  conv => whnf
  refine cut_ 96 [(1, (sv_u8 l1)), (5, .str t1213)] [] rfl ⟨.inl rfl, ⟨.inl rfl, trivial⟩⟩ trivial ?_
  conv => whnf
  revert H; refine bind_elim (fun t1215 A H => ?_)
  refine call_mk (impl_RecParse.ac A) (avAL_cons (avA_shut' rfl) (avAL_nil)) (Or.inl rfl) rfl rfl (Nat.le_of_ble_eq_true rfl) ?_
  conv => whnf
  revert H; refine bind_elim (fun t1217 A H => ?_)
  refine call_mk (spec_RecParse.ac A) (avAL_cons (avA_shut' rfl) (avAL_nil)) (Or.inl rfl) rfl rfl (Nat.le_of_ble_eq_true rfl) ?_
  conv => whnf
  refine cut_ 224 [(1, (sv_u8 l1)), (6, (sv_S_impl_RecPhase t1215.1)), (7, .bp 136 0), (8, (sv_S_impl_RecPhase t1217.1)), (9, .bp 200 0)] [(136, .box [.int .i64 t1215.2.1, .int .i64 t1215.2.2]), (200, .box [.int .i64 t1217.2.1, .int .i64 t1217.2.2])] rfl ⟨.inl rfl, ⟨.inl rfl, ⟨.inl rfl, ⟨.inl rfl, ⟨.inl rfl, trivial⟩⟩⟩⟩⟩ ⟨rfl, ⟨rfl, trivial⟩⟩ ?_
  conv => whnf
  refine br_nt H (fun c H => ?_) (fun c H => ?_)
  conv => whnf
  refine Br.f ff_ ?_
  conv => whnf
  refine Br.f ff_ ?_
  conv => whnf
  revert H; refine bind_elim (fun t1263 A H => ?_)
  refine call_mk (laws_wrPhases.ac A) (avAL_cons (avA_shut' rfl) (avAL_cons (avA_shut' rfl) (avAL_nil))) (Or.inl rfl) rfl rfl (Nat.le_of_ble_eq_true rfl) ?_
  conv => whnf
  refine Br.f ff_ ?_
  conv => whnf
  refine Br.f ff_ ?_
  conv => whnf
  refine br_nt H (fun c H => ?_) (fun c H => ?_)
  conv => whnf
  refine Br.f ff_ ?_
  conv => whnf
  refine Br.f ff_ ?_
  conv => whnf
  refine Br.f ff_ ?_
  conv => whnf
  refine Br.f ff_ ?_
  conv => whnf
  revert H; refine bind_elim (fun t1264 A H => ?_)
  refine call_mk (impl_RecOk.ac A) (avAL_cons (avA_shut' rfl) (avAL_nil)) (Or.inl rfl) rfl rfl (Nat.le_of_ble_eq_true rfl) ?_
  conv => whnf
  refine Br.f ff_ ?_
  conv => whnf
  refine Br.f ff_ ?_
  conv => whnf
  refine cut_ 360 [(1, (sv_u8 l1)), (6, (sv_S_impl_RecPhase t1215.1)), (7, .bp 136 0), (52, .bool ((decide (t1215.2.2 = 0)) != t1264))] [(136, .box [.int .i64 t1215.2.1, .int .i64 t1215.2.2])] rfl ⟨.inl rfl, ⟨.inl rfl, ⟨.inl rfl, ⟨.inl rfl, trivial⟩⟩⟩⟩ ⟨rfl, trivial⟩ ?_
  conv => whnf
  refine br_t H (fun c H => ?_) (fun c H => ?_)
  conv => whnf
  refine cut_ 368 [(4, .bool false)] [] rfl ⟨.inl rfl, trivial⟩ trivial ?_
  conv => whnf
  injection H with H; subst H
  exact ret_fz [] (rtA_eq rfl)
  conv => whnf
  refine laws_FnRecText.j0_sq (l1 := l1) (KK := k + 1) (r := r) ?_ ?_
  conv => whnf
  refine cut_ 384 [(1, (sv_u8 l1)), (6, (sv_S_impl_RecPhase t1215.1)), (55, .bool (decide (t1215.2.2 = 0)))] [] rfl ⟨.inl rfl, ⟨.inl rfl, ⟨.inl rfl, trivial⟩⟩⟩ trivial ?_
  conv => whnf
  refine br_d H (fun c H => ?_) (fun c H => ?_)
  conv => whnf
  revert H; refine bind_elim (fun t1276 A H => ?_)
  refine call_mk (impl_RecPrint.ac A) (avAL_cons (avA_shut' rfl) (avAL_nil)) (Or.inl rfl) rfl rfl (Nat.le_of_ble_eq_true rfl) ?_
  conv => whnf
  revert H; refine bind_elim (fun t1277 A H => ?_)
  refine call_mk (impl_RecParse.ac A) (avAL_cons (avA_shut' rfl) (avAL_nil)) (Or.inl rfl) rfl rfl (Nat.le_of_ble_eq_true rfl) ?_
  conv => whnf
  refine br_nd H (fun c H => ?_) (fun c H => ?_)
  conv => whnf
  refine Br.f ff_ ?_
  conv => whnf
  refine Br.f ff_ ?_
  conv => whnf
  revert H; refine bind_elim (fun t1278 A H => ?_)
  refine call_mk (laws_wrPhases.ac A) (avAL_cons (avA_shut' rfl) (avAL_cons (avA_shut' rfl) (avAL_nil))) (Or.inl rfl) rfl rfl (Nat.le_of_ble_eq_true rfl) ?_
  conv => whnf
  refine Br.f ff_ ?_
  conv => whnf
  refine Br.f ff_ ?_
  conv => whnf
  refine cut_ 528 [(1, (sv_u8 l1)), (70, .bool (!t1278))] [] rfl ⟨.inl rfl, ⟨.inl rfl, trivial⟩⟩ trivial ?_
  conv => whnf
  refine br_nt H (fun c H => ?_) (fun c H => ?_)
  conv => whnf
  exact ⟨k, [], ⟨H, lt_⟩, (fits_of trivial trivial fi_ trivial rfl)⟩
  conv => whnf
  refine cut_ 536 [(4, .bool false)] [] rfl ⟨.inl rfl, trivial⟩ trivial ?_
  conv => whnf
  injection H with H; subst H
  exact ret_fz [] (rtA_eq rfl)
  conv => whnf
  refine Br.t ft_ ?_
  conv => whnf
  refine Br.t ft_ ?_
  conv => whnf
  refine Br.t ft_ ?_
  conv => whnf
  refine Br.t ft_ ?_
  conv => whnf
  refine cut_ 528 [(1, (sv_u8 l1)), (70, .bool true)] [] rfl ⟨.inl rfl, ⟨.inl rfl, trivial⟩⟩ trivial ?_
  conv => whnf
  refine Br.t rfl ?_
  conv => whnf
  refine cut_ 536 [(4, .bool false)] [] rfl ⟨.inl rfl, trivial⟩ trivial ?_
  conv => whnf
  injection H with H; subst H
  exact ret_fz [] (rtA_eq rfl)
  conv => whnf
  exact ⟨k, [], ⟨H, lt_⟩, (fits_of trivial trivial fi_ trivial rfl)⟩
  intro k hk H; rcases k with _ | k; exact none_elim H; rw [laws_FnRecText.j0] at H; conv => whnf
  revert H; refine bind_elim (fun t1268 A H => ?_)
  refine call_mk (spec_DrawRecPrint.ac A) (avAL_cons (avA_shut' rfl) (avAL_nil)) (Or.inl rfl) rfl rfl (Nat.le_of_ble_eq_true rfl) ?_
  conv => whnf
  refine cut_ 384 [(12, (sv_S_impl_RecPhase t1268))] [] rfl ⟨.inl rfl, trivial⟩ trivial ?_
  conv => whnf
  revert H; refine bind_elim (fun t1269 A H => ?_)
  refine call_mk (impl_RecPrint.ac A) (avAL_cons (avA_shut' rfl) (avAL_nil)) (Or.inl rfl) rfl rfl (Nat.le_of_ble_eq_true rfl) ?_
  conv => whnf
  revert H; refine bind_elim (fun t1270 A H => ?_)
  refine call_mk (impl_RecParse.ac A) (avAL_cons (avA_shut' rfl) (avAL_nil)) (Or.inl rfl) rfl rfl (Nat.le_of_ble_eq_true rfl) ?_
  conv => whnf
  refine cut_ 472 [(12, (sv_S_impl_RecPhase t1268)), (13, .str t1269), (14, (sv_S_impl_RecPhase t1270.1)), (15, .bp 448 0)] [(448, .box [.int .i64 t1270.2.1, .int .i64 t1270.2.2])] rfl ⟨.inl rfl, ⟨.inl rfl, ⟨.inl rfl, ⟨.inl rfl, trivial⟩⟩⟩⟩ ⟨rfl, trivial⟩ ?_
  conv => whnf
  revert H; refine bind_elim (fun t1271 A H => ?_)
  refine call_mk (spec_RecPrint.ac A) (avAL_cons (avA_shut' rfl) (avAL_nil)) (Or.inl rfl) rfl rfl (Nat.le_of_ble_eq_true rfl) ?_
  conv => whnf
  refine br_nd H (fun c H => ?_) (fun c H => ?_)
  conv => whnf
  refine Br.f ff_ ?_
  conv => whnf
  revert H; refine bind_elim (fun t1272 A H => ?_)
  refine call_mk (impl_RecOk.ac A) (avAL_cons (avA_shut' rfl) (avAL_nil)) (Or.inl rfl) rfl rfl (Nat.le_of_ble_eq_true rfl) ?_
  conv => whnf
  refine Br.f ff_ ?_
  conv => whnf
  refine Br.f ff_ ?_
  conv => whnf
  revert H; refine bind_elim (fun t1273 A H => ?_)
  refine call_mk (spec_RecOk.ac A) (avAL_cons (avA_shut' rfl) (avAL_nil)) (Or.inl rfl) rfl rfl (Nat.le_of_ble_eq_true rfl) ?_
  conv => whnf
  refine Br.f ff_ ?_
  conv => whnf
  refine Br.f ff_ ?_
  conv => whnf
  refine cut_ 560 [(12, (sv_S_impl_RecPhase t1268)), (14, (sv_S_impl_RecPhase t1270.1)), (15, .bp 448 0), (90, .bool (t1272 != t1273))] [(448, .box [.int .i64 t1270.2.1, .int .i64 t1270.2.2])] rfl ⟨.inl rfl, ⟨.inl rfl, ⟨.inl rfl, ⟨.inl rfl, trivial⟩⟩⟩⟩ ⟨rfl, trivial⟩ ?_
  conv => whnf
  refine br_t H (fun c H => ?_) (fun c H => ?_)
  conv => whnf
  refine cut_ 568 [(4, .bool false)] [] rfl ⟨.inl rfl, trivial⟩ trivial ?_
  conv => whnf
  injection H with H; subst H
  exact ret_fz [] (rtA_eq rfl)
  conv => whnf
  revert H; refine bind_elim (fun t1274 A H => ?_)
  refine call_mk (spec_RecOk.ac A) (avAL_cons (avA_shut' rfl) (avAL_nil)) (Or.inl rfl) rfl rfl (Nat.le_of_ble_eq_true rfl) ?_
  conv => whnf
  refine br_nt H (fun c H => ?_) (fun c H => ?_)
  conv => whnf
  refine Br.f ff_ ?_
  conv => whnf
  refine Br.f ff_ ?_
  conv => whnf
  refine Br.f ff_ ?_
  conv => whnf
  refine br_d H (fun c H => ?_) (fun c H => ?_)
  conv => whnf
  refine Br.t ft_ ?_
  conv => whnf
  refine Br.t ft_ ?_
  conv => whnf
  revert H; refine bind_elim (fun t1275 A H => ?_)
  refine call_mk (laws_wrPhases.ac A) (avAL_cons (avA_shut' rfl) (avAL_cons (avA_shut' rfl) (avAL_nil))) (Or.inl rfl) rfl rfl (Nat.le_of_ble_eq_true rfl) ?_
  conv => whnf
  refine Br.f ff_ ?_
  conv => whnf
  refine Br.t ft_ ?_
  conv => whnf
  refine Br.f ff_ ?_
  conv => whnf
  refine cut_ 672 [(4, .bool t1275)] [] rfl ⟨.inl rfl, trivial⟩ trivial ?_
  conv => whnf
  injection H with H; subst H
  exact ret_fz [] (rtA_eq rfl)
  conv => whnf
  refine Br.f ff_ ?_
  conv => whnf
  refine Br.f ff_ ?_
  conv => whnf
  refine Br.f ff_ ?_
  conv => whnf
  refine Br.f ff_ ?_
  conv => whnf
  refine Br.f ff_ ?_
  conv => whnf
  refine cut_ 672 [(4, .bool false)] [] rfl ⟨.inl rfl, trivial⟩ trivial ?_
  conv => whnf
  injection H with H; subst H
  exact ret_fz [] (rtA_eq rfl)
  conv => whnf
  refine Br.t ft_ ?_
  conv => whnf
  refine Br.t ft_ ?_
  conv => whnf
  refine Br.t ft_ ?_
  conv => whnf
  refine Br.t ft_ ?_
  conv => whnf
  refine Br.t ft_ ?_
  conv => whnf
  refine cut_ 672 [(4, .bool true)] [] rfl ⟨.inl rfl, trivial⟩ trivial ?_
  conv => whnf
  injection H with H; subst H
  exact ret_fz [] (rtA_eq rfl)
  conv => whnf
  refine Br.t ft_ ?_
  conv => whnf
  refine Br.t ft_ ?_
  conv => whnf
  refine Br.t ft_ ?_
  conv => whnf
  refine Br.t ft_ ?_
  conv => whnf
  refine Br.t ft_ ?_
  conv => whnf
  refine cut_ 560 [(12, (sv_S_impl_RecPhase t1268)), (14, (sv_S_impl_RecPhase t1270.1)), (15, .bp 448 0), (90, .bool true)] [(448, .box [.int .i64 t1270.2.1, .int .i64 t1270.2.2])] rfl ⟨.inl rfl, ⟨.inl rfl, ⟨.inl rfl, ⟨.inl rfl, trivial⟩⟩⟩⟩ ⟨rfl, trivial⟩ ?_
  conv => whnf
  refine Br.t rfl ?_
  conv => whnf
  refine cut_ 568 [(4, .bool false)] [] rfl ⟨.inl rfl, trivial⟩ trivial ?_
  conv => whnf
  injection H with H; subst H
  exact ret_fz [] (rtA_eq rfl)
  conv => whnf
  refine Br.t ft_ ?_
  conv => whnf
  refine Br.t ft_ ?_
  conv => whnf
  refine Br.t ft_ ?_
  conv => whnf
  refine Br.t ft_ ?_
  conv => whnf
  refine Br.t ft_ ?_
  conv => whnf
  refine Br.t ft_ ?_
  conv => whnf
  refine cut_ 360 [(1, (sv_u8 l1)), (6, (sv_S_impl_RecPhase t1215.1)), (7, .bp 136 0), (52, .bool true)] [(136, .box [.int .i64 t1215.2.1, .int .i64 t1215.2.2])] rfl ⟨.inl rfl, ⟨.inl rfl, ⟨.inl rfl, ⟨.inl rfl, trivial⟩⟩⟩⟩ ⟨rfl, trivial⟩ ?_
  conv => whnf
  refine Br.t rfl ?_
  conv => whnf
  refine cut_ 368 [(4, .bool false)] [] rfl ⟨.inl rfl, trivial⟩ trivial ?_
  conv => whnf
  injection H with H; subst H
  exact ret_fz [] (rtA_eq rfl)
  conv => whnf
  refine Br.t ft_ ?_
  conv => whnf
  refine Br.t ft_ ?_
  conv => whnf
  refine Br.t ft_ ?_
  conv => whnf
  refine Br.t ft_ ?_
  conv => whnf
  refine Br.t rfl ?_
  conv => whnf
  refine Br.t rfl ?_
  conv => whnf
  refine Br.t rfl ?_
  conv => whnf
  refine Br.t rfl ?_
  conv => whnf
  refine Br.t rfl ?_
  conv => whnf
  refine Br.t rfl ?_
  conv => whnf
  refine Br.t rfl ?_
  conv => whnf
  refine cut_ 360 [(1, (sv_u8 l1)), (6, (sv_S_impl_RecPhase t1215.1)), (7, .bp 136 0), (52, .bool true)] [(136, .box [.int .i64 t1215.2.1, .int .i64 t1215.2.2])] rfl ⟨.inl rfl, ⟨.inl rfl, ⟨.inl rfl, ⟨.inl rfl, trivial⟩⟩⟩⟩ ⟨rfl, trivial⟩ ?_
  conv => whnf
  refine Br.t rfl ?_
  conv => whnf
  refine cut_ 368 [(4, .bool false)] [] rfl ⟨.inl rfl, trivial⟩ trivial ?_
  conv => whnf
  injection H with H; subst H
  exact ret_fz [] (rtA_eq rfl)

end Go.Proofs.YteflhnpcgoijfaaDoor.RT

