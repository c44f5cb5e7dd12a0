import Derived.Test.YtnobkcplpbkigaaGreatDoorZFnPlantText3
import Derived.Shelf.Lay
import Derived.Shelf.Sort.AssemblyIn
import Derived.Ground.SoProg
import Derived.Ground.GgsProg
import Derived.Deep.QuietTactic
import Derived.BigQuiet
import Derived.Test.YtnobkcplpbkigaaGreatDoorProg
import Derived.KernelRfl
set_option linter.unusedVariables false
set_option linter.unusedSimpArgs false
namespace Go.Proofs.YtnobkcplpbkigaaGreatDoor.PT
open Go Go.Aw Go.RowKit Go.Proofs
set_option maxRecDepth 100000
set_option maxHeartbeats 40000000
variable {G : Nat → Option Obj}
attribute [local irreducible] jW Lp Sq Cut lH lA cG
theorem bI.ac {k : Nat} {b8 : List ByteArray} {a8 : List aD} {a9 : List aB} {a7 : List aA} {r : Bool} (H : bI.f k b8 a8 a9 a7 = some r) : cI Tryz.prog G 27 [] [.agg [(aM b8), (aF a8), (aC a9), (aE a7)]] [] (.bool r) := by
  refine bO tok hP Tryz.func27 rfl (by kernel_rfl) [.tmp 2] rfl (by kernel_rfl) (Nat.le_of_ble_eq_true rfl) (.l .n (.l (.c .n (.l (.c .n .n) .n)) (.l (.l .n (.l .n (.l (.c .n (.l (.c .n .n) .n)) .n))) (.l (.l .n (.l (.c .n .n) (.l (.l .n (.c .n (.l (.c .n .n) .n))) .n))) .n)))) rfl ?_
  unfold bI.f at H
  refine bJ H (fun c H => ?_) (fun c H => ?_)
  refine Br.t ft_ (Br.t ft_ (Br.t ft_ (Br.t ft_ (cu 96 [(1, .bp 0 0), (15, .bool true)] [(0, .box [(aM b8), (aF a8), (aC a9), (aE a7)])] rfl rfl rfl (Br.t rfl (cu 104 [(2, .bool false)] [] rfl rfl rfl ?_))))))
  cases H
  exact rz rfl
  refine Br.f ff_ (Br.f ff_ (Br.f ff_ (Br.f ff_ (cu 96 [(1, .bp 0 0), (15, .bool (decide ((a8.length : Int) > 12)))] [(0, .box [(aM b8), (aF a8), (aC a9), (aE a7)])] rfl rfl rfl (bJ H (fun c H => ?_) (fun c H => ?_))))))
  refine cu 104 [(2, .bool false)] [] rfl rfl rfl ?_
  cases H
  exact rz rfl
  refine bI.l0_lp (b8 := b8) (a8 := a8) (k := k) H [] (fq rfl rfl fi_ rfl) ?_
  intro k x3 hk H; rcases k with _ | k; exact bC H; rw [bI.l0] at H
  refine bJ H (fun c H => ?_) (fun c H => ?_)
  refine nd_ H (fun c H => (Nd.mk nf_ (El.mk (aV _ _ nf_ nf_) ?_)))
  revert H; refine aN (fun U6 A H => (cmk (aZ.ac A) rfl rfl (dU H (fun c H => ?_) (fun c H => ?_))))
  refine Br.f ff_ (Br.f ff_ (bJ H (fun c H => ?_) (fun c H => ?_)))
  refine Br.t ft_ (Br.t ft_ (Br.t ft_ (Br.t ft_ (nd_ H (fun c H => (nd_ H (fun c H => (El.mk (aV _ _ nf_ nf_) (Br.t ft_ (Br.t ft_ (Br.t ft_ (Br.t ft_ (Br.t ft_ (Nd.mk nf_ (Nd.mk nf_ (El.mk (aV _ _ nf_ nf_) (Br.t ft_ (Br.t ft_ (Br.f ff_ (Br.t ft_ (Br.f ff_ (cu 344 [(1, .bp 0 0), (3, .int .i64 x3), (47, .bool (!(Op.bytesLess (aP ByteArray.empty b8 (wrap64 (x3 - 1))).toList (aP ByteArray.empty b8 x3).toList)))] [(0, .box [(aM b8), (aF a8), (aC a9), (aE a7)])] rfl rfl rfl (dU H (fun c H => ?_) (fun c H => ?_))))))))))))))))))))))))
  exact ⟨(k, wrap64 (x3 + 1)), [], ⟨H, lt_⟩, lt_, (fq rfl rfl fi_ rfl)⟩
  refine cu 352 [(2, .bool false)] [] rfl rfl rfl ?_
  cases H
  exact rz rfl
  refine Br.f ff_ (Br.f ff_ (Br.f ff_ (Br.f ff_ (Br.f ff_ (Br.f ff_ (Br.f ff_ (Br.f ff_ (Br.f ff_ (Br.f ff_ (Br.f ff_ (Br.f ff_ (Br.f ff_ (Br.f ff_ (cu 344 [(1, .bp 0 0), (3, .int .i64 x3), (47, .bool false)] [(0, .box [(aM b8), (aF a8), (aC a9), (aE a7)])] rfl rfl rfl (Br.f rfl (⟨(k, wrap64 (x3 + 1)), [], ⟨H, lt_⟩, lt_, (fq rfl rfl fi_ rfl)⟩))))))))))))))))
  refine Br.t ft_ (Br.t ft_ (Br.t ft_ (Br.t ft_ (cu 344 [(1, .bp 0 0), (3, .int .i64 x3), (47, .bool true)] [(0, .box [(aM b8), (aF a8), (aC a9), (aE a7)])] rfl rfl rfl (Br.t rfl (cu 352 [(2, .bool false)] [] rfl rfl rfl ?_))))))
  cases H
  exact rz rfl
  refine bI.l1_lp (b8 := b8) (a8 := a8) (k := k) H [] (fq rfl rfl fi_ rfl) ?_
  intro k x4 hk H; rcases k with _ | k; exact bC H; rw [bI.l1] at H
  refine cu 192 [(1, .bp 0 0), (4, .int .i64 x4), (52, .bool (decide (x4 < (a8.length : Int))))] [(0, .box [(aM b8), (aF a8), (aC a9), (aE a7)])] rfl rfl rfl (bJ H (fun c H => ?_) (fun c H => ?_))
  refine nd_ H (fun c H => (Nd.mk nf_ (El.mk (cA _ _ nf_ nf_) (dU H (fun c H => ?_) (fun c H => ?_)))))
  refine Br.f ff_ (Br.f ff_ (Br.f ff_ (Br.f ff_ ?_)))
  revert H; refine aN (fun U4 A H => (cmk (dR.ac A) rfl rfl (Br.f ff_ (Br.f ff_ (dU H (fun c H => ?_) (fun c H => ?_))))))
  refine Br.f ff_ (Br.f ff_ (Br.f ff_ (Br.f ff_ ?_)))
  revert H; refine aN (fun U5 A H => (cmk (dR.ac A) rfl rfl (Br.f ff_ (Br.f ff_ (dU H (fun c H => ?_) (fun c H => ?_))))))
  refine Br.f ff_ (Br.f ff_ (bJ H (fun c H => ?_) (fun c H => ?_)))
  refine Br.t ft_ (Br.t ft_ (Br.t ft_ (Br.t ft_ (nd_ H (fun c H => (nd_ H (fun c H => (El.mk (cA _ _ nf_ nf_) (Br.t ft_ (Br.t ft_ (Br.t ft_ ?_)))))))))))
  revert H; refine aN (fun R8 A H => (cmk (fK.ac A) rfl rfl (Br.t ft_ (Br.f ff_ (Br.t ft_ (Br.f ff_ (cu 536 [(1, .bp 0 0), (4, .int .i64 x4), (95, .bool (!R8))] [(0, .box [(aM b8), (aF a8), (aC a9), (aE a7)])] rfl rfl rfl (dU H (fun c H => ?_) (fun c H => ?_)))))))))
  exact ⟨(k, wrap64 (x4 + 1)), [], ⟨H, lt_⟩, lt_, (fq rfl rfl fi_ rfl)⟩
  refine cu 544 [(2, .bool false)] [] rfl rfl rfl ?_
  cases H
  exact rz rfl
  refine Br.f ff_ (Br.f ff_ (Br.f ff_ (Br.f ff_ (Br.f ff_ (Br.f ff_ (Br.f ff_ (Br.f ff_ (Br.f ff_ (Br.f ff_ (Br.f ff_ (cu 536 [(1, .bp 0 0), (4, .int .i64 x4), (95, .bool false)] [(0, .box [(aM b8), (aF a8), (aC a9), (aE a7)])] rfl rfl rfl (Br.f rfl (⟨(k, wrap64 (x4 + 1)), [], ⟨H, lt_⟩, lt_, (fq rfl rfl fi_ rfl)⟩)))))))))))))
  refine Br.t ft_ (Br.t ft_ (Br.t ft_ (Br.t ft_ (cu 536 [(1, .bp 0 0), (4, .int .i64 x4), (95, .bool true)] [(0, .box [(aM b8), (aF a8), (aC a9), (aE a7)])] rfl rfl rfl (Br.t rfl (cu 544 [(2, .bool false)] [] rfl rfl rfl ?_))))))
  cases H
  exact rz rfl
  refine Br.t ft_ (Br.t ft_ (Br.t ft_ (Br.t ft_ (Br.t ft_ (Br.t ft_ (Br.t rfl (Br.t rfl (Br.t rfl (Br.t rfl (Br.t rfl (cu 536 [(1, .bp 0 0), (4, .int .i64 x4), (95, .bool true)] [(0, .box [(aM b8), (aF a8), (aC a9), (aE a7)])] rfl rfl rfl (Br.t rfl (cu 544 [(2, .bool false)] [] rfl rfl rfl ?_)))))))))))))
  cases H
  exact rz rfl
  refine Br.t ft_ (Br.t ft_ (Br.t ft_ (Br.t ft_ (Br.t ft_ (Br.t ft_ (Br.t rfl (Br.t rfl (Br.t rfl (Br.t rfl (Br.t rfl (Br.t rfl (Br.t rfl (Br.t rfl (Br.t rfl (Br.t rfl (Br.t rfl (Br.t rfl (cu 536 [(1, .bp 0 0), (4, .int .i64 x4), (95, .bool true)] [(0, .box [(aM b8), (aF a8), (aC a9), (aE a7)])] rfl rfl rfl (Br.t rfl (cu 544 [(2, .bool false)] [] rfl rfl rfl ?_))))))))))))))))))))
  cases H
  exact rz rfl
  cases H
  exact rz rfl
theorem cZ.l0_lp {F : (Exit → St → Prop) → St → Prop} {hv : List Tmp} {Q : Exit → St → Prop} {σ : St} {r : Bool} {k : Nat} {a9 : List aB} {x3 : Int} (H : cZ.l0 k a9 x3 = some r) (rn : List (Option Nat)) (h1 : cG σ σ [] [(3, .int .i64 x3)] [] [] rn)
    (h2 : ∀ (k0 : Nat) (x3 : Int), k0 < k + 1 → cZ.l0 k0 a9 x3 = some r → dL σ hv [] [(3, .int .i64 x3)] [] [] (F (fun e σ' => match e with | .normal => ∃ (y : Nat × Int) (rn : List (Option Nat)), (cZ.l0 y.1 a9 y.2 = some r ∧ y.1 < k + 1) ∧ y.1 < k0 ∧ cG σ σ' [] [(3, .int .i64 y.2)] [] [] rn | e => Q e σ'))) : Lp F hv Q σ := by
  unfold Lp
  refine ⟨Nat × Int, fun x => cZ.l0 x.1 a9 x.2 = some r ∧ x.1 < k + 1, fun x => x.1, [], fun x => [(3, .int .i64 x.2)], fun x => [], fun x => [], ⟨(k, x3), rn, ⟨H, Nat.lt_succ_self _⟩, h1⟩, ?_⟩
  rintro ⟨k, x3⟩ ⟨H, hk⟩
  exact h2 k x3 hk H
theorem cZ.ac {k : Nat} {b8 : List ByteArray} {a8 : List aD} {a9 : List aB} {a7 : List aA} {r : Bool} (H : cZ.f k b8 a8 a9 a7 = some r) : cI Tryz.prog G 28 [] [.agg [(aM b8), (aF a8), (aC a9), (aE a7)]] [] (.bool r) := by
  refine bO tok hP Tryz.func28 rfl (by kernel_rfl) [.tmp 2] rfl (by kernel_rfl) (Nat.le_of_ble_eq_true rfl) (.l .n (.l .n (.l (.l .n (.l (.c .n .n) (.l (.l .n (.c .n (.l (.c .n .n) .n))) .n))) .n))) rfl ?_
  unfold cZ.f at H
  refine bJ H (fun c H => ?_) (fun c H => ?_)
  cases H
  exact rz rfl
  refine cZ.l0_lp (a9 := a9) (k := k) H [] (fq rfl rfl fi_ rfl) ?_
  intro k x3 hk H; rcases k with _ | k; exact bC H; rw [cZ.l0] at H
  refine cu 96 [(1, .bp 0 0), (3, .int .i64 x3), (13, .bool (decide (x3 < (a9.length : Int))))] [(0, .box [(aM b8), (aF a8), (aC a9), (aE a7)])] rfl rfl rfl (bJ H (fun c H => ?_) (fun c H => ?_))
  refine nd_ H (fun c H => (Nd.mk nf_ (El.mk (cF _ _ nf_ nf_) ?_)))
  revert H; refine aN (fun U7 A H => (cmk (aZ.ac A) rfl rfl (dU H (fun c H => ?_) (fun c H => ?_))))
  refine Br.f ff_ (Br.f ff_ (bJ H (fun c H => ?_) (fun c H => ?_)))
  refine Br.t ft_ (Br.t ft_ (Br.t ft_ (Br.t ft_ (nd_ H (fun c H => (nd_ H (fun c H => (El.mk (cF _ _ nf_ nf_) (Br.t ft_ (Br.t ft_ (Br.t ft_ (Br.t ft_ (Br.t ft_ (Br.f ff_ (Br.t ft_ (Br.f ff_ (dU H (fun c H => ?_) (fun c H => ?_))))))))))))))))))
  refine Br.f ff_ (Br.f ff_ ?_)
  revert H; refine aN (fun U8 A H => (cmk (fO.ac A) rfl rfl (Br.f ff_ (Br.f ff_ (dU H (fun c H => ?_) (fun c H => ?_))))))
  refine Br.f ff_ (Br.f ff_ ?_)
  revert H; refine aN (fun R9 A H => (cmk (aZ.ac A) rfl rfl (Br.f ff_ (Br.f ff_ (cu 408 [(1, .bp 0 0), (3, .int .i64 x3), (52, .bool (!R9))] [(0, .box [(aM b8), (aF a8), (aC a9), (aE a7)])] rfl rfl rfl (dU H (fun c H => ?_) (fun c H => ?_)))))))
  exact ⟨(k, wrap64 (x3 + 1)), [], ⟨H, lt_⟩, lt_, (fq rfl rfl fi_ rfl)⟩
  refine cu 416 [(2, .bool false)] [] rfl rfl rfl ?_
  cases H
  exact rz rfl
  refine Br.t ft_ (Br.t ft_ (Br.t ft_ (Br.t ft_ (cu 408 [(1, .bp 0 0), (3, .int .i64 x3), (52, .bool true)] [(0, .box [(aM b8), (aF a8), (aC a9), (aE a7)])] rfl rfl rfl (Br.t rfl (cu 416 [(2, .bool false)] [] rfl rfl rfl ?_))))))
  cases H
  exact rz rfl
  refine Br.t ft_ (Br.t ft_ (Br.t ft_ (Br.t ft_ (Br.t rfl (Br.t rfl (Br.t rfl (Br.t rfl (Br.t rfl (cu 408 [(1, .bp 0 0), (3, .int .i64 x3), (52, .bool true)] [(0, .box [(aM b8), (aF a8), (aC a9), (aE a7)])] rfl rfl rfl (Br.t rfl (cu 416 [(2, .bool false)] [] rfl rfl rfl ?_)))))))))))
  cases H
  exact rz rfl
  refine Br.f ff_ (Br.f ff_ (Br.f ff_ (Br.f ff_ (Br.f ff_ (Br.f ff_ (Br.f ff_ (Br.f ff_ (Br.f ff_ (Br.f ff_ (Br.f ff_ (Br.f ff_ (Br.f rfl (Br.f rfl (Br.f rfl ?_))))))))))))))
  revert H; refine aN (fun U9 A H => (cmk (fO.ac A) rfl rfl (Br.f rfl (Br.f rfl (dU H (fun c H => ?_) (fun c H => ?_))))))
  refine Br.f ff_ (Br.f ff_ ?_)
  revert H; refine aN (fun S0 A H => (cmk (aZ.ac A) rfl rfl (Br.f ff_ (Br.f ff_ (cu 408 [(1, .bp 0 0), (3, .int .i64 x3), (52, .bool (!S0))] [(0, .box [(aM b8), (aF a8), (aC a9), (aE a7)])] rfl rfl rfl (dU H (fun c H => ?_) (fun c H => ?_)))))))
  exact ⟨(k, wrap64 (x3 + 1)), [], ⟨H, lt_⟩, lt_, (fq rfl rfl fi_ rfl)⟩
  refine cu 416 [(2, .bool false)] [] rfl rfl rfl ?_
  cases H
  exact rz rfl
  refine Br.t ft_ (Br.t ft_ (Br.t ft_ (Br.t ft_ (cu 408 [(1, .bp 0 0), (3, .int .i64 x3), (52, .bool true)] [(0, .box [(aM b8), (aF a8), (aC a9), (aE a7)])] rfl rfl rfl (Br.t rfl (cu 416 [(2, .bool false)] [] rfl rfl rfl ?_))))))
  cases H
  exact rz rfl
  refine Br.t ft_ (Br.t ft_ (Br.t ft_ (Br.t ft_ (Br.t rfl (Br.t rfl (Br.t rfl (Br.t rfl (Br.t rfl (Br.t rfl (Br.t rfl (Br.t rfl (Br.t rfl (Br.t rfl (cu 408 [(1, .bp 0 0), (3, .int .i64 x3), (52, .bool true)] [(0, .box [(aM b8), (aF a8), (aC a9), (aE a7)])] rfl rfl rfl (Br.t rfl (cu 416 [(2, .bool false)] [] rfl rfl rfl ?_))))))))))))))))
  cases H
  exact rz rfl
  cases H
  exact rz rfl
theorem cY.l0_lp {F : (Exit → St → Prop) → St → Prop} {hv : List Tmp} {Q : Exit → St → Prop} {σ : St} {r : Bool} {k : Nat} {b8 : List ByteArray} {a8 : List aD} {a9 : List aB} {a7 : List aA} {x3 : Int} (H : cY.l0 k b8 a8 a9 a7 x3 = some r) (rn : List (Option Nat)) (h1 : cG σ σ [] [(3, .int .i64 x3)] [] [] rn)
    (h2 : ∀ (k0 : Nat) (x3 : Int), k0 < k + 1 → cY.l0 k0 b8 a8 a9 a7 x3 = some r → dL σ hv [] [(3, .int .i64 x3)] [] [] (F (fun e σ' => match e with | .normal => ∃ (y : Nat × Int) (rn : List (Option Nat)), (cY.l0 y.1 b8 a8 a9 a7 y.2 = some r ∧ y.1 < k + 1) ∧ y.1 < k0 ∧ cG σ σ' [] [(3, .int .i64 y.2)] [] [] rn | e => Q e σ'))) : Lp F hv Q σ := by
  unfold Lp
  refine ⟨Nat × Int, fun x => cY.l0 x.1 b8 a8 a9 a7 x.2 = some r ∧ x.1 < k + 1, fun x => x.1, [], fun x => [(3, .int .i64 x.2)], fun x => [], fun x => [], ⟨(k, x3), rn, ⟨H, Nat.lt_succ_self _⟩, h1⟩, ?_⟩
  rintro ⟨k, x3⟩ ⟨H, hk⟩
  exact h2 k x3 hk H
theorem cY.ac {k : Nat} {b8 : List ByteArray} {a8 : List aD} {a9 : List aB} {a7 : List aA} {r : Bool} (H : cY.f k b8 a8 a9 a7 = some r) : cI Tryz.prog G 29 [] [.agg [(aM b8), (aF a8), (aC a9), (aE a7)]] [] (.bool r) := by
  refine bO tok hP Tryz.func29 rfl (by kernel_rfl) [.tmp 2] rfl (by kernel_rfl) (Nat.le_of_ble_eq_true rfl) (.l .n (.l .n (.l (.l .n (.l (.c .n .n) (.l (.l .n (.c .n (.l (.c .n .n) .n))) .n))) .n))) rfl ?_
  unfold cY.f at H
  refine bJ H (fun c H => ?_) (fun c H => ?_)
  cases H
  exact rz rfl
  refine cY.l0_lp (b8 := b8) (a8 := a8) (a9 := a9) (a7 := a7) (k := k) H [] (fq rfl rfl fi_ rfl) ?_
  intro k x3 hk H; rcases k with _ | k; exact bC H; rw [cY.l0] at H
  refine cu 96 [(1, .bp 0 0), (3, .int .i64 x3), (13, .bool (decide (x3 < (a7.length : Int))))] [(0, .box [(aM b8), (aF a8), (aC a9), (aE a7)])] rfl rfl rfl (bJ H (fun c H => ?_) (fun c H => ?_))
  refine nd_ H (fun c H => (Nd.mk nf_ (El.mk (dA _ _ nf_ nf_) ?_)))
  revert H; refine aN (fun V0 A H => (cmk (aZ.ac A) rfl rfl (dU H (fun c H => ?_) (fun c H => ?_))))
  refine Br.f ff_ (Br.f ff_ (bJ H (fun c H => ?_) (fun c H => ?_)))
  refine Br.t ft_ (Br.t ft_ (Br.t ft_ (Br.t ft_ (nd_ H (fun c H => (nd_ H (fun c H => (El.mk (dA _ _ nf_ nf_) (Br.t ft_ (Br.t ft_ (Br.t ft_ (Br.t ft_ (Br.t ft_ (Br.f ff_ (Br.t ft_ (Br.f ff_ (dU H (fun c H => ?_) (fun c H => ?_))))))))))))))))))
  refine Br.f ff_ (Br.f ff_ (Br.f ff_ (Br.f ff_ (Br.f ff_ (dU H (fun c H => ?_) (fun c H => ?_))))))
  refine Br.f ff_ (Br.f ff_ (Br.f ff_ ?_))
  revert H; refine aN (fun V1 A H => (cmk (cK.ac A) rfl rfl (Br.f ff_ (Br.f ff_ (bJ H (fun c H => ?_) (fun c H => ?_))))))
  refine Br.t ft_ (Br.t ft_ (Br.t ft_ (Br.t ft_ (Br.t ft_ (Br.t rfl (Br.t rfl (Br.t rfl (Br.t rfl (Br.t rfl (cu 528 [(1, .bp 0 0), (3, .int .i64 x3), (67, .bool true)] [(0, .box [(aM b8), (aF a8), (aC a9), (aE a7)])] rfl rfl rfl (Br.t rfl (cu 536 [(2, .bool false)] [] rfl rfl rfl ?_))))))))))))
  cases H
  exact rz rfl
  refine Br.f ff_ (Br.f ff_ (Br.f ff_ ?_))
  revert H; refine aN (fun V2 A H => (cmk (cK.ac A) rfl rfl (Br.f ff_ (Br.f ff_ (bJ H (fun c H => ?_) (fun c H => ?_))))))
  refine Br.t ft_ (Br.t ft_ (Br.t ft_ (Br.t ft_ (cu 528 [(1, .bp 0 0), (3, .int .i64 x3), (67, .bool true)] [(0, .box [(aM b8), (aF a8), (aC a9), (aE a7)])] rfl rfl rfl (Br.t rfl (cu 536 [(2, .bool false)] [] rfl rfl rfl ?_))))))
  cases H
  exact rz rfl
  refine Br.f ff_ (Br.f ff_ ?_)
  revert H; refine aN (fun S1 A H => (cmk (aZ.ac A) rfl rfl (Br.f ff_ (Br.f ff_ (cu 528 [(1, .bp 0 0), (3, .int .i64 x3), (67, .bool (!S1))] [(0, .box [(aM b8), (aF a8), (aC a9), (aE a7)])] rfl rfl rfl (dU H (fun c H => ?_) (fun c H => ?_)))))))
  exact ⟨(k, wrap64 (x3 + 1)), [], ⟨H, lt_⟩, lt_, (fq rfl rfl fi_ rfl)⟩
  refine cu 536 [(2, .bool false)] [] rfl rfl rfl ?_
  cases H
  exact rz rfl
  refine Br.t ft_ (Br.t ft_ (Br.t ft_ (Br.t ft_ (Br.t ft_ (Br.t rfl (Br.t rfl (Br.t rfl (Br.t rfl (Br.t rfl (Br.t rfl (Br.t rfl (Br.t rfl (Br.t rfl (Br.t rfl (Br.t rfl (cu 528 [(1, .bp 0 0), (3, .int .i64 x3), (67, .bool true)] [(0, .box [(aM b8), (aF a8), (aC a9), (aE a7)])] rfl rfl rfl (Br.t rfl (cu 536 [(2, .bool false)] [] rfl rfl rfl ?_))))))))))))))))))
  cases H
  exact rz rfl
  refine Br.t ft_ (Br.t ft_ (Br.t ft_ (Br.t ft_ (Br.t ft_ (Br.t rfl (Br.t rfl (Br.t rfl (Br.t rfl (Br.t rfl (Br.t rfl (Br.t rfl (Br.t rfl (Br.t rfl (Br.t rfl (Br.t rfl (Br.t rfl (Br.t rfl (Br.t rfl (Br.t rfl (Br.t rfl (Br.t rfl (cu 528 [(1, .bp 0 0), (3, .int .i64 x3), (67, .bool true)] [(0, .box [(aM b8), (aF a8), (aC a9), (aE a7)])] rfl rfl rfl (Br.t rfl ?_)))))))))))))))))))))))
  refine cu 536 [(2, .bool false)] [] rfl rfl rfl ?_
  cases H
  exact rz rfl
  refine Br.f ff_ (Br.f ff_ (Br.f ff_ (Br.f ff_ (Br.f ff_ (Br.f ff_ (Br.f ff_ (Br.f ff_ (Br.f ff_ (Br.f ff_ (Br.f ff_ (Br.f ff_ (Br.f rfl (Br.f rfl (Br.f rfl (Br.f rfl (Br.f rfl (Br.f rfl (dU H (fun c H => ?_) (fun c H => ?_)))))))))))))))))))
  refine Br.f ff_ (Br.f ff_ (Br.f ff_ ?_))
  revert H; refine aN (fun V3 A H => (cmk (cK.ac A) rfl rfl (Br.f ff_ (Br.f ff_ (bJ H (fun c H => ?_) (fun c H => ?_))))))
  refine Br.t ft_ (Br.t ft_ (Br.t ft_ (Br.t ft_ (Br.t ft_ (Br.t rfl (Br.t rfl (Br.t rfl (Br.t rfl (Br.t rfl (cu 528 [(1, .bp 0 0), (3, .int .i64 x3), (67, .bool true)] [(0, .box [(aM b8), (aF a8), (aC a9), (aE a7)])] rfl rfl rfl (Br.t rfl (cu 536 [(2, .bool false)] [] rfl rfl rfl ?_))))))))))))
  cases H
  exact rz rfl
  refine Br.f ff_ (Br.f ff_ (Br.f ff_ ?_))
  revert H; refine aN (fun V4 A H => (cmk (cK.ac A) rfl rfl (Br.f ff_ (Br.f ff_ (bJ H (fun c H => ?_) (fun c H => ?_))))))
  refine Br.t ft_ (Br.t ft_ (Br.t ft_ (Br.t ft_ (cu 528 [(1, .bp 0 0), (3, .int .i64 x3), (67, .bool true)] [(0, .box [(aM b8), (aF a8), (aC a9), (aE a7)])] rfl rfl rfl (Br.t rfl (cu 536 [(2, .bool false)] [] rfl rfl rfl ?_))))))
  cases H
  exact rz rfl
  refine Br.f ff_ (Br.f ff_ ?_)
  revert H; refine aN (fun S2 A H => (cmk (aZ.ac A) rfl rfl (Br.f ff_ (Br.f ff_ (cu 528 [(1, .bp 0 0), (3, .int .i64 x3), (67, .bool (!S2))] [(0, .box [(aM b8), (aF a8), (aC a9), (aE a7)])] rfl rfl rfl (dU H (fun c H => ?_) (fun c H => ?_)))))))
  exact ⟨(k, wrap64 (x3 + 1)), [], ⟨H, lt_⟩, lt_, (fq rfl rfl fi_ rfl)⟩
  refine cu 536 [(2, .bool false)] [] rfl rfl rfl ?_
  cases H
  exact rz rfl
  refine Br.t ft_ (Br.t ft_ (Br.t ft_ (Br.t ft_ (Br.t ft_ (Br.t rfl (Br.t rfl (Br.t rfl (Br.t rfl (Br.t rfl (Br.t rfl (Br.t rfl (Br.t rfl (Br.t rfl (Br.t rfl (Br.t rfl (cu 528 [(1, .bp 0 0), (3, .int .i64 x3), (67, .bool true)] [(0, .box [(aM b8), (aF a8), (aC a9), (aE a7)])] rfl rfl rfl (Br.t rfl (cu 536 [(2, .bool false)] [] rfl rfl rfl ?_))))))))))))))))))
  cases H
  exact rz rfl
  refine Br.t ft_ (Br.t ft_ (Br.t ft_ (Br.t ft_ (Br.t rfl (Br.t rfl (Br.t rfl (Br.t rfl (Br.t rfl (Br.t rfl (Br.t rfl (Br.t rfl (Br.t rfl (Br.t rfl (Br.t rfl (Br.t rfl (Br.t rfl (Br.t rfl (Br.t rfl (Br.t rfl (Br.t rfl (Br.t rfl (Br.t rfl (Br.t rfl ?_)))))))))))))))))))))))
  refine Br.t rfl (Br.t rfl (Br.t rfl (cu 528 [(1, .bp 0 0), (3, .int .i64 x3), (67, .bool true)] [(0, .box [(aM b8), (aF a8), (aC a9), (aE a7)])] rfl rfl rfl (Br.t rfl (cu 536 [(2, .bool false)] [] rfl rfl rfl ?_)))))
  cases H
  exact rz rfl
  cases H
  exact rz rfl
theorem gK.ac {k : Nat} {b8 : List ByteArray} {a8 : List aD} {a9 : List aB} {a7 : List aA} {r : Bool} (H : gK.f k b8 a8 a9 a7 = some r) : cI Tryz.prog G 9 [] [.agg [(aM b8), (aF a8), (aC a9), (aE a7)]] [] (.bool r) := by
  refine bO tok hP Tryz.func9 rfl (by kernel_rfl) [.tmp 2] rfl (by kernel_rfl) (Nat.le_of_ble_eq_true rfl) (.l .n (.c .n .n)) rfl ?_
  unfold gK.f at H
  revert H; refine aN (fun V5 A H => (cmk (bI.ac A) rfl rfl (kN H (fun c H => ?_) (fun c H => ?_))))
  refine Br.t ft_ ?_
  revert H; refine aN (fun V6 A H => (cmk (cZ.ac A) rfl rfl (Br.t ft_ (kN H (fun c H => ?_) (fun c H => ?_)))))
  refine Br.t ft_ ?_
  revert H; refine aN (fun S3 A H => (cmk (cY.ac A) rfl rfl (Br.t ft_ (cu 104 [(2, .bool S3)] [] rfl rfl rfl ?_))))
  cases H
  exact rz rfl
  refine Br.f ff_ (Br.f ff_ (cu 104 [(2, .bool false)] [] rfl rfl rfl ?_))
  cases H
  exact rz rfl
  refine Br.f ff_ (Br.f ff_ (Br.f rfl (Br.f rfl (Br.f rfl (cu 104 [(2, .bool false)] [] rfl rfl rfl ?_)))))
  cases H
  exact rz rfl
theorem aS.l3_lp {F : (Exit → St → Prop) → St → Prop} {hv : List Tmp} {Q : Exit → St → Prop} {σ : St} {r : ByteArray} {k : Nat} {a7 : List aA} {D9 : ByteArray} {x8 : Int} (H : aS.l3 k a7 D9 x8 = some r) (rn : List (Option Nat)) (h1 : cG σ σ [] [(3, .str D9), (8, .int .i64 x8)] [] [] rn)
    (h2 : ∀ (k0 : Nat) (D9 : ByteArray) (x8 : Int), k0 < k + 1 → aS.l3 k0 a7 D9 x8 = some r → dL σ hv [] [(3, .str D9), (8, .int .i64 x8)] [] [] (F (fun e σ' => match e with | .normal => ∃ (y : Nat × ByteArray × Int) (rn : List (Option Nat)), (aS.l3 y.1 a7 y.2.1 y.2.2 = some r ∧ y.1 < k + 1) ∧ y.1 < k0 ∧ cG σ σ' [] [(3, .str y.2.1), (8, .int .i64 y.2.2)] [] [] rn | e => Q e σ'))) : Lp F hv Q σ := by
  unfold Lp
  refine ⟨Nat × ByteArray × Int, fun x => aS.l3 x.1 a7 x.2.1 x.2.2 = some r ∧ x.1 < k + 1, fun x => x.1, [], fun x => [(3, .str x.2.1), (8, .int .i64 x.2.2)], fun x => [], fun x => [], ⟨(k, D9, x8), rn, ⟨H, Nat.lt_succ_self _⟩, h1⟩, ?_⟩
  rintro ⟨k, D9, x8⟩ ⟨H, hk⟩
  exact h2 k D9 x8 hk H
theorem aS.l2_lp {F : (Exit → St → Prop) → St → Prop} {hv : List Tmp} {Q : Exit → St → Prop} {σ : St} {r : ByteArray} {k : Nat} {a9 : List aB} {a7 : List aA} {D1 : ByteArray} {x6 : Int} (H : aS.l2 k a9 a7 D1 x6 = some r) (rn : List (Option Nat)) (h1 : cG σ σ [] [(3, .str D1), (6, .int .i64 x6)] [] [] rn)
    (h2 : ∀ (k0 : Nat) (D1 : ByteArray) (x6 : Int), k0 < k + 1 → aS.l2 k0 a9 a7 D1 x6 = some r → dL σ hv [] [(3, .str D1), (6, .int .i64 x6)] [] [] (F (fun e σ' => match e with | .normal => ∃ (y : Nat × ByteArray × Int) (rn : List (Option Nat)), (aS.l2 y.1 a9 a7 y.2.1 y.2.2 = some r ∧ y.1 < k + 1) ∧ y.1 < k0 ∧ cG σ σ' [] [(3, .str y.2.1), (6, .int .i64 y.2.2)] [] [] rn | e => Q e σ'))) : Lp F hv Q σ := by
  unfold Lp
  refine ⟨Nat × ByteArray × Int, fun x => aS.l2 x.1 a9 a7 x.2.1 x.2.2 = some r ∧ x.1 < k + 1, fun x => x.1, [], fun x => [(3, .str x.2.1), (6, .int .i64 x.2.2)], fun x => [], fun x => [], ⟨(k, D1, x6), rn, ⟨H, Nat.lt_succ_self _⟩, h1⟩, ?_⟩
  rintro ⟨k, D1, x6⟩ ⟨H, hk⟩
  exact h2 k D1 x6 hk H
theorem aS.l1_lp {F : (Exit → St → Prop) → St → Prop} {hv : List Tmp} {Q : Exit → St → Prop} {σ : St} {r : ByteArray} {k : Nat} {a8 : List aD} {a9 : List aB} {a7 : List aA} {d7 : ByteArray} {x5 : Int} (H : aS.l1 k a8 a9 a7 d7 x5 = some r) (rn : List (Option Nat)) (h1 : cG σ σ [] [(3, .str d7), (5, .int .i64 x5)] [] [] rn)
    (h2 : ∀ (k0 : Nat) (d7 : ByteArray) (x5 : Int), k0 < k + 1 → aS.l1 k0 a8 a9 a7 d7 x5 = some r → dL σ hv [] [(3, .str d7), (5, .int .i64 x5)] [] [] (F (fun e σ' => match e with | .normal => ∃ (y : Nat × ByteArray × Int) (rn : List (Option Nat)), (aS.l1 y.1 a8 a9 a7 y.2.1 y.2.2 = some r ∧ y.1 < k + 1) ∧ y.1 < k0 ∧ cG σ σ' [] [(3, .str y.2.1), (5, .int .i64 y.2.2)] [] [] rn | e => Q e σ'))) : Lp F hv Q σ := by
  unfold Lp
  refine ⟨Nat × ByteArray × Int, fun x => aS.l1 x.1 a8 a9 a7 x.2.1 x.2.2 = some r ∧ x.1 < k + 1, fun x => x.1, [], fun x => [(3, .str x.2.1), (5, .int .i64 x.2.2)], fun x => [], fun x => [], ⟨(k, d7, x5), rn, ⟨H, Nat.lt_succ_self _⟩, h1⟩, ?_⟩
  rintro ⟨k, d7, x5⟩ ⟨H, hk⟩
  exact h2 k d7 x5 hk H
theorem aS.l0_lp {F : (Exit → St → Prop) → St → Prop} {hv : List Tmp} {Q : Exit → St → Prop} {σ : St} {r : ByteArray} {k : Nat} {b8 : List ByteArray} {a8 : List aD} {a9 : List aB} {a7 : List aA} {x3 : ByteArray} {x4 : Int} (H : aS.l0 k b8 a8 a9 a7 x3 x4 = some r) (rn : List (Option Nat)) (h1 : cG σ σ [] [(3, .str x3), (4, .int .i64 x4)] [] [] rn)
    (h2 : ∀ (k0 : Nat) (x3 : ByteArray) (x4 : Int), k0 < k + 1 → aS.l0 k0 b8 a8 a9 a7 x3 x4 = some r → dL σ hv [] [(3, .str x3), (4, .int .i64 x4)] [] [] (F (fun e σ' => match e with | .normal => ∃ (y : Nat × ByteArray × Int) (rn : List (Option Nat)), (aS.l0 y.1 b8 a8 a9 a7 y.2.1 y.2.2 = some r ∧ y.1 < k + 1) ∧ y.1 < k0 ∧ cG σ σ' [] [(3, .str y.2.1), (4, .int .i64 y.2.2)] [] [] rn | e => Q e σ'))) : Lp F hv Q σ := by
  unfold Lp
  refine ⟨Nat × ByteArray × Int, fun x => aS.l0 x.1 b8 a8 a9 a7 x.2.1 x.2.2 = some r ∧ x.1 < k + 1, fun x => x.1, [], fun x => [(3, .str x.2.1), (4, .int .i64 x.2.2)], fun x => [], fun x => [], ⟨(k, x3, x4), rn, ⟨H, Nat.lt_succ_self _⟩, h1⟩, ?_⟩
  rintro ⟨k, x3, x4⟩ ⟨H, hk⟩
  exact h2 k x3 x4 hk H
theorem aS.ac {k : Nat} {b8 : List ByteArray} {a8 : List aD} {a9 : List aB} {a7 : List aA} {r : ByteArray} (H : aS.f k b8 a8 a9 a7 = some r) : cI Tryz.prog G 7 [] [.agg [(aM b8), (aF a8), (aC a9), (aE a7)]] [] (.str r) := by
  refine bO tok hP Tryz.func7 rfl (by kernel_rfl) [.tmp 2] rfl (by kernel_rfl) (Nat.le_of_ble_eq_true rfl) (.l .n (.l .n (.l .n (.l (.l .n (.l (.c .n .n) (.c .n .n))) (.l (.l .n (.l .n (.c .n .n))) (.l (.l .n (.l (.c .n .n) (.c .n .n))) (.l (.l .n (.l .n (.c (.c .n .n) .n))) .n))))))) rfl ?_
  unfold aS.f at H
  revert H; refine aN (fun V7 A H => (cmk (gK.ac A) rfl rfl (dU H (fun c H => ?_) (fun c H => ?_))))
  refine aS.l0_lp (b8 := b8) (a8 := a8) (a9 := a9) (a7 := a7) (k := k) H [] (fq rfl rfl fi_ rfl) ?_
  intro k x3 x4 hk H; rcases k with _ | k; exact bC H; rw [aS.l0] at H
  refine cu 96 [(1, .bp 0 0), (3, .str x3), (4, .int .i64 x4), (18, .bool (decide (x4 < (b8.length : Int))))] [(0, .box [(aM b8), (aF a8), (aC a9), (aE a7)])] rfl rfl rfl (bJ H (fun c H => ?_) (fun c H => ?_))
  refine nd_ H (fun c H => (nd_ H (fun c H => (Nd.mk nf_ (El.mk (aV _ _ nf_ nf_) (nd_ H (fun c H => (nd_ H (fun c H => (cu 176 [(1, .bp 0 0), (3, .str (((x3 ++ (⟨#[115, 116, 117, 102, 102, 32]⟩ : ByteArray)) ++ (aP ByteArray.empty b8 x4)) ++ (⟨#[10]⟩ : ByteArray))), (4, .int .i64 x4)] [(0, .box [(aM b8), (aF a8), (aC a9), (aE a7)])] rfl rfl rfl (⟨(k, ((x3 ++ (⟨#[115, 116, 117, 102, 102, 32]⟩ : ByteArray)) ++ (aP ByteArray.empty b8 x4)) ++ (⟨#[10]⟩ : ByteArray), wrap64 (x4 + 1)), [], ⟨H, lt_⟩, lt_, (fq rfl rfl fi_ rfl)⟩)))))))))))
  refine aS.l1_lp (a8 := a8) (a9 := a9) (a7 := a7) (k := k) H [] (fq rfl rfl fi_ rfl) ?_
  intro k d7 x5 hk H; rcases k with _ | k; exact bC H; rw [aS.l1] at H
  refine bJ H (fun c H => ?_) (fun c H => ?_)
  refine nd_ H (fun c H => (nd_ H (fun c H => (Nd.mk nf_ (El.mk (cA _ _ nf_ nf_) (nd_ H (fun c H => (nd_ H (fun c H => (Nd.mk nf_ (Nd.mk nf_ (El.mk (cA _ _ nf_ nf_) (nd_ H (fun c H => (nd_ H (fun c H => (cu 296 [(1, .bp 0 0), (3, .str (((((d7 ++ (⟨#[102, 111, 101, 32]⟩ : ByteArray)) ++ ((aQ a8 x5).f0)) ++ (⟨#[32]⟩ : ByteArray)) ++ ((aQ a8 x5).f1)) ++ (⟨#[10]⟩ : ByteArray))), (5, .int .i64 x5)] [(0, .box [(aM b8), (aF a8), (aC a9), (aE a7)])] rfl rfl rfl (⟨(k, ((((d7 ++ (⟨#[102, 111, 101, 32]⟩ : ByteArray)) ++ ((aQ a8 x5).f0)) ++ (⟨#[32]⟩ : ByteArray)) ++ ((aQ a8 x5).f1)) ++ (⟨#[10]⟩ : ByteArray), wrap64 (x5 + 1)), [], ⟨H, lt_⟩, lt_, (fq rfl rfl fi_ rfl)⟩))))))))))))))))))
  refine aS.l2_lp (a9 := a9) (a7 := a7) (k := k) H [] (fq rfl rfl fi_ rfl) ?_
  intro k D1 x6 hk H; rcases k with _ | k; exact bC H; rw [aS.l2] at H
  refine cu 192 [(1, .bp 0 0), (3, .str D1), (6, .int .i64 x6), (59, .bool (decide (x6 < (a9.length : Int))))] [(0, .box [(aM b8), (aF a8), (aC a9), (aE a7)])] rfl rfl rfl (bJ H (fun c H => ?_) (fun c H => ?_))
  refine nd_ H (fun c H => (Nd.mk nf_ (El.mk (cF _ _ nf_ nf_) (bJ H (fun c H => ?_) (fun c H => ?_)))))
  refine nd_ H (fun c H => (nd_ H (fun c H => (nd_ H (fun c H => ?_)))))
  revert H; refine aN (fun M0 A H => (cmk (cN.ac A) rfl rfl (nd_ H (fun c H => (nd_ H (fun c H => (nd_ H (fun c H => (nd_ H (fun c H => (cu 400 [(1, .bp 0 0), (3, .str (((((((D1 ++ (⟨#[118, 101, 115, 115, 101, 108, 32]⟩ : ByteArray)) ++ ((aL a9 x6).f0)) ++ (⟨#[32]⟩ : ByteArray)) ++ M0) ++ (⟨#[32]⟩ : ByteArray)) ++ ((aL a9 x6).f2)) ++ (⟨#[10]⟩ : ByteArray))), (6, .int .i64 x6)] [(0, .box [(aM b8), (aF a8), (aC a9), (aE a7)])] rfl rfl rfl (⟨(k, ((((((D1 ++ (⟨#[118, 101, 115, 115, 101, 108, 32]⟩ : ByteArray)) ++ ((aL a9 x6).f0)) ++ (⟨#[32]⟩ : ByteArray)) ++ M0) ++ (⟨#[32]⟩ : ByteArray)) ++ ((aL a9 x6).f2)) ++ (⟨#[10]⟩ : ByteArray), wrap64 (x6 + 1)), [], ⟨H, lt_⟩, lt_, (fq rfl rfl fi_ rfl)⟩))))))))))))
  refine nd_ H (fun c H => (nd_ H (fun c H => (nd_ H (fun c H => (nd_ H (fun c H => (nd_ H (fun c H => (cu 360 [(1, .bp 0 0), (3, .str (((((D1 ++ (⟨#[106, 111, 105, 110, 116, 32]⟩ : ByteArray)) ++ ((aL a9 x6).f0)) ++ (⟨#[32]⟩ : ByteArray)) ++ ((aL a9 x6).f2)) ++ (⟨#[10]⟩ : ByteArray))), (6, .int .i64 x6)] [(0, .box [(aM b8), (aF a8), (aC a9), (aE a7)])] rfl rfl rfl (⟨(k, ((((D1 ++ (⟨#[106, 111, 105, 110, 116, 32]⟩ : ByteArray)) ++ ((aL a9 x6).f0)) ++ (⟨#[32]⟩ : ByteArray)) ++ ((aL a9 x6).f2)) ++ (⟨#[10]⟩ : ByteArray), wrap64 (x6 + 1)), [], ⟨H, lt_⟩, lt_, (fq rfl rfl fi_ rfl)⟩)))))))))))
  refine aS.l3_lp (a7 := a7) (k := k) H [] (fq rfl rfl fi_ rfl) ?_
  intro k D9 x8 hk H; rcases k with _ | k; exact bC H; rw [aS.l3] at H
  refine bJ H (fun c H => ?_) (fun c H => ?_)
  refine nd_ H (fun c H => (Nd.mk nf_ (El.mk (dA _ _ nf_ nf_) (cu 296 [(1, .bp 0 0), (3, .str D9), (8, .int .i64 x8), (9, .bp 280 0)] [(0, .box [(aM b8), (aF a8), (aC a9), (aE a7)]), (280, .box [.str ((aG a7 x8).f0), .str ((aG a7 x8).f1), .str ((aG a7 x8).f2), .str ((aG a7 x8).f3)])] rfl rfl rfl (nd_ H (fun c H => (nd_ H (fun c H => (nd_ H (fun c H => (nd_ H (fun c H => (nd_ H (fun c H => (nd_ H (fun c H => (nd_ H (fun c H => (nd_ H (fun c H => (nd_ H (fun c H => (cu 448 [(1, .bp 0 0), (3, .str (((((((((D9 ++ (⟨#[118, 97, 108, 118, 101, 32]⟩ : ByteArray)) ++ ((aG a7 x8).f0)) ++ (⟨#[32]⟩ : ByteArray)) ++ ((aG a7 x8).f1)) ++ (⟨#[32]⟩ : ByteArray)) ++ ((aG a7 x8).f2)) ++ (⟨#[32]⟩ : ByteArray)) ++ ((aG a7 x8).f3)) ++ (⟨#[10]⟩ : ByteArray))), (8, .int .i64 x8)] [(0, .box [(aM b8), (aF a8), (aC a9), (aE a7)])] rfl rfl rfl (⟨(k, ((((((((D9 ++ (⟨#[118, 97, 108, 118, 101, 32]⟩ : ByteArray)) ++ ((aG a7 x8).f0)) ++ (⟨#[32]⟩ : ByteArray)) ++ ((aG a7 x8).f1)) ++ (⟨#[32]⟩ : ByteArray)) ++ ((aG a7 x8).f2)) ++ (⟨#[32]⟩ : ByteArray)) ++ ((aG a7 x8).f3)) ++ (⟨#[10]⟩ : ByteArray), wrap64 (x8 + 1)), [], ⟨H, lt_⟩, lt_, (fq rfl rfl fi_ rfl)⟩))))))))))))))))))))))))
  cases H
  exact rz rfl
  cases H
  exact rz rfl
theorem cH.l0_lp {F : (Exit → St → Prop) → St → Prop} {hv : List Tmp} {Q : Exit → St → Prop} {σ : St} {r : List ByteArray} {k : Nat} {a0 : ByteArray} {x3 : List ByteArray} {x4 : Int} {x5 : Int} (H : cH.l0 k a0 x3 x4 x5 = some r) (rn : List (Option Nat)) (h1 : cG σ σ [8] [(3, .own 0 x3.length), (4, .int .i64 x4), (5, .int .i64 x5)] [] [.arr 9 1 (x3.map aR)] rn)
    (h2 : ∀ (k0 : Nat) (x3 : List ByteArray) (x4 : Int) (x5 : Int), k0 < k + 1 → cH.l0 k0 a0 x3 x4 x5 = some r → dL σ hv [8] [(3, .own 0 x3.length), (4, .int .i64 x4), (5, .int .i64 x5)] [] [.arr 9 1 (x3.map aR)] (F (fun e σ' => match e with | .normal => ∃ (y : Nat × (List ByteArray) × Int × Int) (rn : List (Option Nat)), (cH.l0 y.1 a0 y.2.1 y.2.2.1 y.2.2.2 = some r ∧ y.1 < k + 1) ∧ y.1 < k0 ∧ cG σ σ' [8] [(3, .own 0 y.2.1.length), (4, .int .i64 y.2.2.1), (5, .int .i64 y.2.2.2)] [] [.arr 9 1 (y.2.1.map aR)] rn | e => Q e σ'))) : Lp F hv Q σ := by
  unfold Lp
  refine ⟨Nat × (List ByteArray) × Int × Int, fun x => cH.l0 x.1 a0 x.2.1 x.2.2.1 x.2.2.2 = some r ∧ x.1 < k + 1, fun x => x.1, [8], fun x => [(3, .own 0 x.2.1.length), (4, .int .i64 x.2.2.1), (5, .int .i64 x.2.2.2)], fun x => [], fun x => [.arr 9 1 (x.2.1.map aR)], ⟨(k, x3, x4, x5), rn, ⟨H, Nat.lt_succ_self _⟩, h1⟩, ?_⟩
  rintro ⟨k, x3, x4, x5⟩ ⟨H, hk⟩
  exact h2 k x3 x4 x5 hk H
theorem cH.ac {k : Nat} {a0 : ByteArray} {r : List ByteArray} (H : cH.f k a0 = some r) : cI Tryz.prog G 42 [] [.str a0] [] ((aM r)) := by
  refine bO tok hP Tryz.func42 rfl (by kernel_rfl) [.tmp 2] rfl (by kernel_rfl) (Nat.le_of_ble_eq_true rfl) (.l .n (.l .n (.l .n (.l (.l .n (.l .n (.c (.c .n .n) .n))) (.l (.c .n .n) .n))))) rfl ?_
  unfold cH.f at H
  refine Or.inl (cH.l0_lp (a0 := a0) (k := k) H [some 8] (bR ⟨fY lm_, ⟨.inl ⟨rfl, rfl⟩, ⟨.inl ⟨rfl, rfl⟩, trivial⟩⟩⟩ ⟨fm_, trivial⟩ fi_ trivial rfl) ?_)
  intro k x3 x4 x5 hk H; rcases k with _ | k; exact bC H; rw [cH.l0] at H
  refine bJ H (fun c H => ?_) (fun c H => ?_)
  refine nd_ H (fun c H => (Nd.mk nf_ (cu 105 [(0, .str a0), (3, .own 40 x3.length), (4, .int .i64 x4), (5, .int .i64 x5), (16, .bool (decide ((bt a0 x5) = 10)))] [(40, .arr 9 1 (x3.map aR))] rfl rfl rfl (bJ H (fun c H => ?_) (fun c H => ?_)))))
  refine nd_ H (fun c H => (nd_ H (fun c H => (nd_ H (fun c H => (Or.inl (nd_ H (fun c H => (jD 193 [(0, .str a0), (3, .own 153 (x3.length + 1)), (4, .int .i64 (wrap64 (x5 + 1))), (5, .int .i64 x5)] [(153, .arr 9 1 ((x3 ++ ([(a0.extract (x4).toNat (x5).toNat)] : List ByteArray)).map aR))] rfl ⟨.inl rfl, ⟨.inl rfl, ⟨.inl rfl, ⟨.inl rfl, trivial⟩⟩⟩⟩ ⟨fm_, trivial⟩ (⟨(k, (x3 ++ ([(a0.extract (x4).toNat (x5).toNat)] : List ByteArray)), wrap64 (x5 + 1), wrap64 (x5 + 1)), [some 153], ⟨H, lt_⟩, lt_, (bR ⟨fY lm_, ⟨.inl ⟨rfl, rfl⟩, ⟨.inl ⟨rfl, rfl⟩, trivial⟩⟩⟩ ⟨rfl, trivial⟩ fi_ trivial rfl)⟩))))))))))
  refine cu 105 [(0, .str a0), (3, .own 40 x3.length), (4, .int .i64 x4), (5, .int .i64 x5)] [(40, .arr 9 1 (x3.map aR))] rfl rfl rfl (⟨(k, x3, _, wrap64 (x5 + 1)), [some 40], ⟨H, lt_⟩, lt_, (bR ⟨rfl, ⟨.inl ⟨rfl, rfl⟩, ⟨.inl ⟨rfl, rfl⟩, trivial⟩⟩⟩ ⟨rfl, trivial⟩ fi_ trivial rfl)⟩)
  refine cu 105 [(0, .str a0), (3, .own 40 x3.length), (4, .int .i64 x4), (29, .bool (decide (x4 < (a0.size : Int))))] [(40, .arr 9 1 (x3.map aR))] rfl rfl rfl (bJ H (fun c H => ?_) (fun c H => ?_))
  refine nd_ H (fun c H => (nd_ H (fun c H => (Or.inl (nd_ H (fun c H => ?_))))))
  cases H
  exact oD [145] (qO rfl lm_ lm_ rfl)
  cases H
  exact oD [40] (nD rfl rfl)
theorem cH.l0_lpO {F : (Exit → St → Prop) → St → Prop} {hv : List Tmp} {Q : Exit → St → Prop} {σ : St} {r : List ByteArray} {k : Nat} {a0 : ByteArray} {x3 : List ByteArray} {x4 : Int} {x5 : Int} (H : cH.l0 k a0 x3 x4 x5 = some r) (rn : List (Option Nat)) (h1 : cG σ σ [8] [(3, .own 0 x3.length), (4, .int .i64 x4), (5, .int .i64 x5)] [] [.arr 9 1 (x3.map aR)] rn)
    (h2 : ∀ (k0 : Nat) (x3 : List ByteArray) (x4 : Int) (x5 : Int), k0 < k + 1 → cH.l0 k0 a0 x3 x4 x5 = some r → dL σ hv [8] [(3, .own 0 x3.length), (4, .int .i64 x4), (5, .int .i64 x5)] [] [.arr 9 1 (x3.map aR)] (F (fun e σ' => match e with | .normal => ∃ (y : Nat × (List ByteArray) × Int × Int) (rn : List (Option Nat)), (cH.l0 y.1 a0 y.2.1 y.2.2.1 y.2.2.2 = some r ∧ y.1 < k + 1) ∧ y.1 < k0 ∧ cG σ σ' [8] [(3, .own 0 y.2.1.length), (4, .int .i64 y.2.2.1), (5, .int .i64 y.2.2.2)] [] [.arr 9 1 (y.2.1.map aR)] rn | e => Q e σ'))) : Lp F hv Q σ := by
  unfold Lp
  refine ⟨Nat × (List ByteArray) × Int × Int, fun x => cH.l0 x.1 a0 x.2.1 x.2.2.1 x.2.2.2 = some r ∧ x.1 < k + 1, fun x => x.1, [8], fun x => [(3, .own 0 x.2.1.length), (4, .int .i64 x.2.2.1), (5, .int .i64 x.2.2.2)], fun x => [], fun x => [.arr 9 1 (x.2.1.map aR)], ⟨(k, x3, x4, x5), rn, ⟨H, Nat.lt_succ_self _⟩, h1⟩, ?_⟩
  rintro ⟨k, x3, x4, x5⟩ ⟨H, hk⟩
  exact h2 k x3 x4 x5 hk H
theorem cH.acO {k : Nat} {a0 : ByteArray} {r : List ByteArray} (H : cH.f k a0 = some r) : cI Tryz.prog G 42 [] [.str a0] [.arr 9 1 (r.map aR)] (.own 0 r.length) := by
  refine bO tok hP Tryz.func42 rfl (by kernel_rfl) [.tmp 2] rfl (by kernel_rfl) (Nat.le_of_ble_eq_true rfl) (.l .n (.l .n (.l .n (.l (.l .n (.l .n (.c (.c .n .n) .n))) (.l (.c .n .n) .n))))) rfl ?_
  unfold cH.f at H
  refine Or.inl (cH.l0_lpO (a0 := a0) (k := k) H [some 8] (bR ⟨fY lm_, ⟨.inl ⟨rfl, rfl⟩, ⟨.inl ⟨rfl, rfl⟩, trivial⟩⟩⟩ ⟨fm_, trivial⟩ fi_ trivial rfl) ?_)
  intro k x3 x4 x5 hk H; rcases k with _ | k; exact bC H; rw [cH.l0] at H
  refine bJ H (fun c H => ?_) (fun c H => ?_)
  refine nd_ H (fun c H => (Nd.mk nf_ (cu 105 [(0, .str a0), (3, .own 40 x3.length), (4, .int .i64 x4), (5, .int .i64 x5), (16, .bool (decide ((bt a0 x5) = 10)))] [(40, .arr 9 1 (x3.map aR))] rfl rfl rfl (bJ H (fun c H => ?_) (fun c H => ?_)))))
  refine nd_ H (fun c H => (nd_ H (fun c H => (nd_ H (fun c H => (Or.inl (nd_ H (fun c H => (jD 193 [(0, .str a0), (3, .own 153 (x3.length + 1)), (4, .int .i64 (wrap64 (x5 + 1))), (5, .int .i64 x5)] [(153, .arr 9 1 ((x3 ++ ([(a0.extract (x4).toNat (x5).toNat)] : List ByteArray)).map aR))] rfl ⟨.inl rfl, ⟨.inl rfl, ⟨.inl rfl, ⟨.inl rfl, trivial⟩⟩⟩⟩ ⟨fm_, trivial⟩ (⟨(k, (x3 ++ ([(a0.extract (x4).toNat (x5).toNat)] : List ByteArray)), wrap64 (x5 + 1), wrap64 (x5 + 1)), [some 153], ⟨H, lt_⟩, lt_, (bR ⟨fY lm_, ⟨.inl ⟨rfl, rfl⟩, ⟨.inl ⟨rfl, rfl⟩, trivial⟩⟩⟩ ⟨rfl, trivial⟩ fi_ trivial rfl)⟩))))))))))
  refine cu 105 [(0, .str a0), (3, .own 40 x3.length), (4, .int .i64 x4), (5, .int .i64 x5)] [(40, .arr 9 1 (x3.map aR))] rfl rfl rfl (⟨(k, x3, _, wrap64 (x5 + 1)), [some 40], ⟨H, lt_⟩, lt_, (bR ⟨rfl, ⟨.inl ⟨rfl, rfl⟩, ⟨.inl ⟨rfl, rfl⟩, trivial⟩⟩⟩ ⟨rfl, trivial⟩ fi_ trivial rfl)⟩)
  refine cu 105 [(0, .str a0), (3, .own 40 x3.length), (4, .int .i64 x4), (29, .bool (decide (x4 < (a0.size : Int))))] [(40, .arr 9 1 (x3.map aR))] rfl rfl rfl (bJ H (fun c H => ?_) (fun c H => ?_))
  refine nd_ H (fun c H => (nd_ H (fun c H => (Or.inl (nd_ H (fun c H => ?_))))))
  cases H
  exact fT [some 145] [] ((fY lm_)) ⟨fm_, trivial⟩ rfl
  cases H
  exact fT [some 40] [] ((rfl)) ⟨rfl, trivial⟩ rfl
theorem cC.l1_lp {F : (Exit → St → Prop) → St → Prop} {hv : List Tmp} {Q : Exit → St → Prop} {σ : St} {r : (List ByteArray) × (List Int) × Int} {k : Nat} {d7 : List ByteArray} {x6 : Int} {c9 : List Int} {d6 : Int} (H : cC.l1 k d7 x6 c9 d6 = some r) (rn : List (Option Nat)) (h1 : cG σ σ [0, 73] [(3, .own 0 d7.length), (6, .int .i64 x6)] [(0, .box [(bV c9), .int .i64 d6])] [.arr 9 1 (d7.map aR)] rn)
    (h2 : ∀ (k0 : Nat) (d7 : List ByteArray) (x6 : Int) (c9 : List Int) (d6 : Int), k0 < k + 1 → cC.l1 k0 d7 x6 c9 d6 = some r → dL σ hv [0, 73] [(3, .own 0 d7.length), (6, .int .i64 x6)] [(0, .box [(bV c9), .int .i64 d6])] [.arr 9 1 (d7.map aR)] (F (fun e σ' => match e with | .normal => ∃ (y : Nat × (List ByteArray) × Int × (List Int) × Int) (rn : List (Option Nat)), (cC.l1 y.1 y.2.1 y.2.2.1 y.2.2.2.1 y.2.2.2.2 = some r ∧ y.1 < k + 1) ∧ y.1 < k0 ∧ cG σ σ' [0, 73] [(3, .own 0 y.2.1.length), (6, .int .i64 y.2.2.1)] [(0, .box [(bV y.2.2.2.1), .int .i64 y.2.2.2.2])] [.arr 9 1 (y.2.1.map aR)] rn | e => Q e σ'))) : Lp F hv Q σ := by
  unfold Lp
  refine ⟨Nat × (List ByteArray) × Int × (List Int) × Int, fun x => cC.l1 x.1 x.2.1 x.2.2.1 x.2.2.2.1 x.2.2.2.2 = some r ∧ x.1 < k + 1, fun x => x.1, [0, 73], fun x => [(3, .own 0 x.2.1.length), (6, .int .i64 x.2.2.1)], fun x => [(0, .box [(bV x.2.2.2.1), .int .i64 x.2.2.2.2])], fun x => [.arr 9 1 (x.2.1.map aR)], ⟨(k, d7, x6, c9, d6), rn, ⟨H, Nat.lt_succ_self _⟩, h1⟩, ?_⟩
  rintro ⟨k, d7, x6, c9, d6⟩ ⟨H, hk⟩
  exact h2 k d7 x6 c9 d6 hk H
theorem cC.l0_lp {F : (Exit → St → Prop) → St → Prop} {hv : List Tmp} {Q : Exit → St → Prop} {σ : St} {r : (List ByteArray) × (List Int) × Int} {k : Nat} {x3 : List ByteArray} {x4 : Int} {d8 : List Int} {d9 : Int} (H : cC.l0 k x3 x4 d8 d9 = some r) (rn : List (Option Nat)) (h1 : cG σ σ [0, 33] [(3, .own 0 x3.length), (4, .int .i64 x4)] [(0, .box [(bV d8), .int .i64 d9])] [.arr 9 1 (x3.map aR)] rn)
    (h2 : ∀ (k0 : Nat) (x3 : List ByteArray) (x4 : Int) (d8 : List Int) (d9 : Int), k0 < k + 1 → cC.l0 k0 x3 x4 d8 d9 = some r → dL σ hv [0, 33] [(3, .own 0 x3.length), (4, .int .i64 x4)] [(0, .box [(bV d8), .int .i64 d9])] [.arr 9 1 (x3.map aR)] (F (fun e σ' => match e with | .normal => ∃ (y : Nat × (List ByteArray) × Int × (List Int) × Int) (rn : List (Option Nat)), (cC.l0 y.1 y.2.1 y.2.2.1 y.2.2.2.1 y.2.2.2.2 = some r ∧ y.1 < k + 1) ∧ y.1 < k0 ∧ cG σ σ' [0, 33] [(3, .own 0 y.2.1.length), (4, .int .i64 y.2.2.1)] [(0, .box [(bV y.2.2.2.1), .int .i64 y.2.2.2.2])] [.arr 9 1 (y.2.1.map aR)] rn | e => Q e σ'))) : Lp F hv Q σ := by
  unfold Lp
  refine ⟨Nat × (List ByteArray) × Int × (List Int) × Int, fun x => cC.l0 x.1 x.2.1 x.2.2.1 x.2.2.2.1 x.2.2.2.2 = some r ∧ x.1 < k + 1, fun x => x.1, [0, 33], fun x => [(3, .own 0 x.2.1.length), (4, .int .i64 x.2.2.1)], fun x => [(0, .box [(bV x.2.2.2.1), .int .i64 x.2.2.2.2])], fun x => [.arr 9 1 (x.2.1.map aR)], ⟨(k, x3, x4, d8, d9), rn, ⟨H, Nat.lt_succ_self _⟩, h1⟩, ?_⟩
  rintro ⟨k, x3, x4, d8, d9⟩ ⟨H, hk⟩
  exact h2 k x3 x4 d8 d9 hk H
theorem cC.ac {k : Nat} {b8 : List Int} {a8 : Int} {r : (List ByteArray) × (List Int) × Int} (H : cC.f k b8 a8 = some r) : cI Tryz.prog G 38 [.box [(bV b8), .int .i64 a8]] [.bp 0 0] [.box [(bV r.2.1), .int .i64 r.2.2]] ((aM r.1)) := by
  refine bO tok hP Tryz.func38 rfl (by kernel_rfl) [.tmp 2] rfl (by kernel_rfl) (Nat.le_of_ble_eq_true rfl) (.l .n (.l .n (.l (.l .n (.l (.c .n .n) (.c (.f 1 .n .n) .n))) (.l (.l .n (.l (.c .n .n) (.c (.c .n (.c .n (.l (.c .n .n) .n))) .n))) .n)))) rfl ?_
  unfold cC.f at H
  revert H; refine aN (fun N2 A H => (cM [0] (aJ.ac A) ⟨rfl, trivial⟩ rfl rfl rfl rfl rfl rfl rfl rfl ?_))
  revert H; refine aN (fun V8 A H => (cmk (aS.ac A) rfl rfl ?_))
  revert H; refine aN (fun V9 A H => (cmk (cH.acO A) rfl rfl ?_))
  revert H; refine aN (fun Q3 A H => (cM [0] (aW.ac A) ⟨rfl, trivial⟩ rfl rfl rfl rfl rfl rfl rfl rfl (cC.l0_lp (k := k) H [some 33] (bR ⟨rfl, ⟨.inl ⟨rfl, rfl⟩, trivial⟩⟩ ⟨rfl, trivial⟩ fi_ ⟨⟨_, rfl⟩, ⟨_, rfl, ⟨.inl ⟨rfl, rfl⟩, ⟨.inl ⟨rfl, rfl⟩, trivial⟩⟩⟩, trivial⟩ rfl) ?_)))
  intro k x3 x4 d8 d9 hk H; rcases k with _ | k; exact bC H; rw [cC.l0] at H
  refine cu 90 [(0, .bp 0 0), (3, .own 73 x3.length), (4, .int .i64 x4), (16, .bool (decide (x4 > 0)))] [(0, .box [(bV d8), .int .i64 d9]), (73, .arr 9 1 (x3.map aR))] rfl rfl rfl (bJ H (fun c H => ?_) (fun c H => ?_))
  revert H; refine aN (fun F4 A H => (cM [0] (aW.ac A) ⟨rfl, trivial⟩ rfl rfl rfl rfl rfl rfl rfl rfl (vD 138 [73] [(0, .bp 0 0), (3, (aM x3)), (4, .int .i64 x4), (5, .int .i64 F4.1)] [(0, .box [(bV F4.2.1), .int .i64 F4.2.2])] rfl rfl ⟨.inl (.inl rfl), ⟨.inl (rG rfl rfl (.inr lm_) lm_), ⟨.inl (.inl rfl), ⟨.inl (.inl rfl), trivial⟩⟩⟩⟩ ⟨.inl (rfl), trivial⟩ (Or.inl (nd_ H (fun c H => (nd_ H (fun c H => (nd_ H (fun c H => (Or.inr (Or.inl ?_))))))))))))
  revert H; refine aN (fun I8 A H => (cM [0] (bS.ac A) ⟨rfl, trivial⟩ rfl rfl rfl rfl rfl (jH ⟨rfl, ⟨nJ rfl lm_ lm_, trivial⟩⟩) rfl rfl (Or.inl (nd_ H (fun c H => (Nd.mk nf_ (Nd.mk nf_ (nd_ H (fun c H => (jD 258 [(0, .bp 0 0), (3, .own 242 (0 + (F4.1).toNat + 1 + (x3.length - (F4.1).toNat))), (4, .int .i64 x4)] [(0, .box [(bV I8.2.1), .int .i64 I8.2.2]), (242, .arr 9 1 ((((([] : List ByteArray) ++ (x3.take (F4.1).toNat)) ++ ([I8.1] : List ByteArray)) ++ (x3.drop (F4.1).toNat)).map aR))] rfl ⟨.inl rfl, ⟨.inl rfl, ⟨.inl rfl, trivial⟩⟩⟩ ⟨rfl, ⟨fm_, trivial⟩⟩ (⟨(k, (((([] : List ByteArray) ++ (x3.take (F4.1).toNat)) ++ ([I8.1] : List ByteArray)) ++ (x3.drop (F4.1).toNat)), wrap64 (x4 - 1), I8.2.1, I8.2.2), [some 242], ⟨H, lt_⟩, lt_, (bR ⟨fY lm_, ⟨.inl ⟨rfl, rfl⟩, trivial⟩⟩ ⟨rfl, trivial⟩ fi_ ⟨⟨_, rfl⟩, ⟨_, rfl, ⟨.inl ⟨rfl, rfl⟩, ⟨.inl ⟨rfl, rfl⟩, trivial⟩⟩⟩, trivial⟩ rfl)⟩)))))))))))
  revert H; refine aN (fun Q0 A H => (cM [0] (aW.ac A) ⟨rfl, trivial⟩ rfl rfl rfl rfl rfl rfl rfl rfl (cC.l1_lp (k := k) H [some 73] (bR ⟨rfl, ⟨.inl ⟨rfl, rfl⟩, trivial⟩⟩ ⟨rfl, trivial⟩ fi_ ⟨⟨_, rfl⟩, ⟨_, rfl, ⟨.inl ⟨rfl, rfl⟩, ⟨.inl ⟨rfl, rfl⟩, trivial⟩⟩⟩, trivial⟩ rfl) ?_)))
  intro k d7 x6 c9 d6 hk H; rcases k with _ | k; exact bC H; rw [cC.l1] at H
  refine bJ H (fun c H => ?_) (fun c H => ?_)
  refine Br.t ft_ (Br.t ft_ (Br.t ft_ (cu 171 [(0, .bp 0 0), (3, .own 114 d7.length), (6, .int .i64 x6), (46, .bool (decide ((d7.length : Int) > 1)))] [(0, .box [(bV c9), .int .i64 d6]), (114, .arr 9 1 (d7.map aR))] rfl rfl rfl (bJ H (fun c H => ?_) (fun c H => ?_)))))
  revert H; refine aN (fun g8 A H => (cM [0] (aW.ac A) ⟨rfl, trivial⟩ rfl rfl rfl rfl rfl rfl rfl rfl (cu 219 [(0, .bp 0 0), (3, .own 114 d7.length), (6, .int .i64 x6), (7, .int .i64 g8.1)] [(0, .box [(bV g8.2.1), .int .i64 g8.2.2]), (114, .arr 9 1 (d7.map aR))] rfl rfl rfl (nd_ H (fun c H => (nd_ H (fun c H => (El.mk (aV _ _ nf_ nf_) (bJ H (fun c H => ?_) (fun c H => ?_))))))))))
  refine Br.t ft_ (Br.t ft_ (Br.t ft_ (nd_ H (fun c H => (nd_ H (fun c H => (Br.t ft_ (El.mk (aV _ _ nf_ nf_) (Br.t ft_ (Br.t ft_ (Br.t ft_ (bJ H (fun c H => ?_) (fun c H => ?_)))))))))))))
  refine Br.t ft_ (Br.t ft_ (Nd.mk nf_ (Nd.mk nf_ (Br.t ft_ (El.mk (aV _ _ nf_ nf_) (Br.t ft_ (Nd.mk (by decide) (nd_ H (fun c H => (Br.t ft_ (Br.t ft_ (Br.t ft_ (Br.t ft_ (Nd.mk nf_ (Nd.mk nf_ (Br.t ft_ (El.mk (aV _ _ nf_ nf_) (Br.t ft_ (Nd.mk (by decide) (nd_ H (fun c H => (Br.t ft_ (Br.t ft_ (cu 451 [(0, .bp 0 0), (3, .own 114 d7.length), (6, .int .i64 x6), (7, .int .i64 g8.1), (82, .bool (decide ((bt (aP ByteArray.empty d7 g8.1) 0) = (bt (aP ByteArray.empty d7 (wrap64 (g8.1 + 1))) 0))))] [(0, .box [(bV g8.2.1), .int .i64 g8.2.2]), (114, .arr 9 1 (d7.map aR))] rfl rfl rfl (bJ H (fun c H => ?_) (fun c H => ?_))))))))))))))))))))))))))
  refine Nd.mk nf_ (Nd.mk nf_ (El.mk (aV _ _ nf_ nf_) (cu 491 [(0, .bp 0 0), (3, .own 114 d7.length), (6, .int .i64 x6), (7, .int .i64 g8.1), (8, .str (aP ByteArray.empty d7 g8.1))] [(0, .box [(bV g8.2.1), .int .i64 g8.2.2]), (114, .arr 9 1 (d7.map aR))] rfl rfl rfl (Nd.mk nf_ (Nd.mk nf_ (El.mk (aV _ _ nf_ nf_) (Nd.mk nf_ (Nd.mk nf_ (El.mk (aV _ _ nf_ nf_) (Nd.mk nf_ (Nd.mk nf_ (El.mk (aMW (ys := (d7.set (g8.1).toNat (aP ByteArray.empty d7 (wrap64 (g8.1 + 1)))).map aR) lm_ (aV _ _ nf_ nf_)) (jD 611 [(0, .bp 0 0), (3, .own 114 d7.length), (6, .int .i64 x6)] [(0, .box [(bV g8.2.1), .int .i64 g8.2.2]), (114, .arr 9 1 (((d7.set (g8.1).toNat (aP ByteArray.empty d7 (wrap64 (g8.1 + 1)))).set (wrap64 (g8.1 + 1)).toNat (aP ByteArray.empty d7 g8.1)).map aR))] rfl ⟨.inl rfl, ⟨.inl rfl, ⟨.inl rfl, trivial⟩⟩⟩ ⟨rfl, ⟨fm_, trivial⟩⟩ (⟨(k, ((d7.set (g8.1).toNat (aP ByteArray.empty d7 (wrap64 (g8.1 + 1)))).set (wrap64 (g8.1 + 1)).toNat (aP ByteArray.empty d7 g8.1)), wrap64 (x6 - 1), g8.2.1, g8.2.2), [some 114], ⟨H, lt_⟩, lt_, (bR ⟨fY lm_, ⟨.inl ⟨rfl, rfl⟩, trivial⟩⟩ ⟨rfl, trivial⟩ fi_ ⟨⟨_, rfl⟩, ⟨_, rfl, ⟨.inl ⟨rfl, rfl⟩, ⟨.inl ⟨rfl, rfl⟩, trivial⟩⟩⟩, trivial⟩ rfl)⟩))))))))))))))
  refine cu 451 [(0, .bp 0 0), (3, .own 114 d7.length), (6, .int .i64 x6)] [(0, .box [(bV g8.2.1), .int .i64 g8.2.2]), (114, .arr 9 1 (d7.map aR))] rfl rfl rfl (⟨(k, d7, wrap64 (x6 - 1), g8.2.1, g8.2.2), [some 114], ⟨H, lt_⟩, lt_, (bR ⟨rfl, ⟨.inl ⟨rfl, rfl⟩, trivial⟩⟩ ⟨rfl, trivial⟩ fi_ ⟨⟨_, rfl⟩, ⟨_, rfl, ⟨.inl ⟨rfl, rfl⟩, ⟨.inl ⟨rfl, rfl⟩, trivial⟩⟩⟩, trivial⟩ rfl)⟩)
  refine Br.f ff_ (Br.f ff_ (Br.f ff_ (Br.f ff_ (Br.f ff_ (Br.f ff_ (Br.f ff_ (Br.f ff_ (Br.f ff_ (Br.f ff_ (Br.f ff_ (Br.f ff_ (cu 451 [(0, .bp 0 0), (3, .own 114 d7.length), (6, .int .i64 x6), (7, .int .i64 g8.1), (82, .bool false)] [(0, .box [(bV g8.2.1), .int .i64 g8.2.2]), (114, .arr 9 1 (d7.map aR))] rfl rfl rfl (Br.f rfl (cu 451 [(0, .bp 0 0), (3, .own 114 d7.length), (6, .int .i64 x6)] [(0, .box [(bV g8.2.1), .int .i64 g8.2.2]), (114, .arr 9 1 (d7.map aR))] rfl rfl rfl (⟨(k, d7, wrap64 (x6 - 1), g8.2.1, g8.2.2), [some 114], ⟨H, lt_⟩, lt_, (bR ⟨rfl, ⟨.inl ⟨rfl, rfl⟩, trivial⟩⟩ ⟨rfl, trivial⟩ fi_ ⟨⟨_, rfl⟩, ⟨_, rfl, ⟨.inl ⟨rfl, rfl⟩, ⟨.inl ⟨rfl, rfl⟩, trivial⟩⟩⟩, trivial⟩ rfl)⟩)))))))))))))))
  refine Br.f ff_ (Br.f ff_ (Br.f ff_ (Br.f ff_ (Br.f ff_ (Br.f ff_ (Br.f ff_ (Br.f rfl (Br.f rfl (Br.f rfl (Br.f rfl (Br.f rfl (Br.f rfl (Br.f rfl (Br.f rfl (Br.f rfl (Br.f rfl (Br.f rfl (Br.f rfl (Br.f rfl (cu 451 [(0, .bp 0 0), (3, .own 114 d7.length), (6, .int .i64 x6), (7, .int .i64 g8.1), (82, .bool false)] [(0, .box [(bV g8.2.1), .int .i64 g8.2.2]), (114, .arr 9 1 (d7.map aR))] rfl rfl rfl (Br.f rfl (cu 451 [(0, .bp 0 0), (3, .own 114 d7.length), (6, .int .i64 x6)] [(0, .box [(bV g8.2.1), .int .i64 g8.2.2]), (114, .arr 9 1 (d7.map aR))] rfl rfl rfl (⟨(k, d7, wrap64 (x6 - 1), g8.2.1, g8.2.2), [some 114], ⟨H, lt_⟩, lt_, (bR ⟨rfl, ⟨.inl ⟨rfl, rfl⟩, trivial⟩⟩ ⟨rfl, trivial⟩ fi_ ⟨⟨_, rfl⟩, ⟨_, rfl, ⟨.inl ⟨rfl, rfl⟩, ⟨.inl ⟨rfl, rfl⟩, trivial⟩⟩⟩, trivial⟩ rfl)⟩)))))))))))))))))))))))
  cases H
  exact fT [some 0] [114] ((nD rfl rfl)) ⟨rfl, trivial⟩ rfl
  refine Br.f ff_ (Br.f ff_ (Br.f ff_ (cu 171 [(0, .bp 0 0), (3, .own 114 d7.length), (6, .int .i64 x6), (46, .bool false)] [(0, .box [(bV c9), .int .i64 d6]), (114, .arr 9 1 (d7.map aR))] rfl rfl rfl (Br.f rfl ?_))))
  cases H
  exact fT [some 0] [114] ((nD rfl rfl)) ⟨rfl, trivial⟩ rfl
theorem bD.j0_sq {F : (Exit → St → Prop) → St → Prop} {hv : List Tmp} {K : St → Prop} {Q : Exit → St → Prop} {σ : St} {r : (List ByteArray) × (List Int) × Int} {KK : Nat}
    (h1 : F (fun e σ' => match e with | .normal => ∃ (y : Nat × (List Int) × Int × (List ByteArray)) (rn : List (Option Nat)), (bD.j0 y.1 y.2.2.2 y.2.1 y.2.2.1 = some r ∧ y.1 < KK) ∧ cG σ σ' [0, 25] [(5, .own 0 y.2.2.2.length)] [(0, .box [(bV y.2.1), .int .i64 y.2.2.1])] [.arr 9 1 (y.2.2.2.map aR)] rn | e => Q e σ') σ)
    (h2 : ∀ (k : Nat) (d8 : List Int) (d9 : Int) (x5 : List ByteArray), k < KK → bD.j0 k x5 d8 d9 = some r → dL σ hv [0, 25] [(5, .own 0 x5.length)] [(0, .box [(bV d8), .int .i64 d9])] [.arr 9 1 (x5.map aR)] K) : Sq F hv K Q σ := by
  unfold Sq
  refine ⟨Nat × (List Int) × Int × (List ByteArray), fun x => bD.j0 x.1 x.2.2.2 x.2.1 x.2.2.1 = some r ∧ x.1 < KK, [0, 25], fun x => [(5, .own 0 x.2.2.2.length)], fun x => [(0, .box [(bV x.2.1), .int .i64 x.2.2.1])], fun x => [.arr 9 1 (x.2.2.2.map aR)], h1, ?_⟩
  rintro ⟨k, d8, d9, x5⟩ ⟨H, hk⟩
  exact h2 k d8 d9 x5 hk H
theorem bD.l0_lp {F : (Exit → St → Prop) → St → Prop} {hv : List Tmp} {Q : Exit → St → Prop} {σ : St} {r : (List ByteArray) × (List Int) × Int} {k : Nat} {j8 : Int × (List Int) × Int} {I0 : List ByteArray} {x7 : Int} (H : bD.l0 k I0 x7 j8 = some r) (rn : List (Option Nat)) (h1 : cG σ σ [25] [(5, .own 0 I0.length), (7, .int .i64 x7)] [] [.arr 9 1 (I0.map aR)] rn)
    (h2 : ∀ (k0 : Nat) (I0 : List ByteArray) (x7 : Int), k0 < k + 1 → bD.l0 k0 I0 x7 j8 = some r → dL σ hv [25] [(5, .own 0 I0.length), (7, .int .i64 x7)] [] [.arr 9 1 (I0.map aR)] (F (fun e σ' => match e with | .normal => ∃ (y : Nat × (List ByteArray) × Int) (rn : List (Option Nat)), (bD.l0 y.1 y.2.1 y.2.2 j8 = some r ∧ y.1 < k + 1) ∧ y.1 < k0 ∧ cG σ σ' [25] [(5, .own 0 y.2.1.length), (7, .int .i64 y.2.2)] [] [.arr 9 1 (y.2.1.map aR)] rn | e => Q e σ'))) : Lp F hv Q σ := by
  unfold Lp
  refine ⟨Nat × (List ByteArray) × Int, fun x => bD.l0 x.1 x.2.1 x.2.2 j8 = some r ∧ x.1 < k + 1, fun x => x.1, [25], fun x => [(5, .own 0 x.2.1.length), (7, .int .i64 x.2.2)], fun x => [], fun x => [.arr 9 1 (x.2.1.map aR)], ⟨(k, I0, x7), rn, ⟨H, Nat.lt_succ_self _⟩, h1⟩, ?_⟩
  rintro ⟨k, I0, x7⟩ ⟨H, hk⟩
  exact h2 k I0 x7 hk H
theorem bD.l1_lp {F : (Exit → St → Prop) → St → Prop} {hv : List Tmp} {Q : Exit → St → Prop} {σ : St} {r : (List ByteArray) × (List Int) × Int} {k : Nat} {l1 : List ByteArray} {j8 : Int × (List Int) × Int} {I1 : List ByteArray} {x8 : Int} (H : bD.l1 k l1 I1 x8 j8 = some r) (rn : List (Option Nat)) (h1 : cG σ σ [25] [(5, .own 0 I1.length), (8, .int .i64 x8)] [] [.arr 9 1 (I1.map aR)] rn)
    (h2 : ∀ (k0 : Nat) (I1 : List ByteArray) (x8 : Int), k0 < k + 1 → bD.l1 k0 l1 I1 x8 j8 = some r → dL σ hv [25] [(5, .own 0 I1.length), (8, .int .i64 x8)] [] [.arr 9 1 (I1.map aR)] (F (fun e σ' => match e with | .normal => ∃ (y : Nat × (List ByteArray) × Int) (rn : List (Option Nat)), (bD.l1 y.1 l1 y.2.1 y.2.2 j8 = some r ∧ y.1 < k + 1) ∧ y.1 < k0 ∧ cG σ σ' [25] [(5, .own 0 y.2.1.length), (8, .int .i64 y.2.2)] [] [.arr 9 1 (y.2.1.map aR)] rn | e => Q e σ'))) : Lp F hv Q σ := by
  unfold Lp
  refine ⟨Nat × (List ByteArray) × Int, fun x => bD.l1 x.1 l1 x.2.1 x.2.2 j8 = some r ∧ x.1 < k + 1, fun x => x.1, [25], fun x => [(5, .own 0 x.2.1.length), (8, .int .i64 x.2.2)], fun x => [], fun x => [.arr 9 1 (x.2.1.map aR)], ⟨(k, I1, x8), rn, ⟨H, Nat.lt_succ_self _⟩, h1⟩, ?_⟩
  rintro ⟨k, I1, x8⟩ ⟨H, hk⟩
  exact h2 k I1 x8 hk H
theorem bD.l2_lp {F : (Exit → St → Prop) → St → Prop} {hv : List Tmp} {Q : Exit → St → Prop} {σ : St} {r : (List ByteArray) × (List Int) × Int} {k : Nat} {F8 : Int × (List Int) × Int} {I6 : List ByteArray} (H : bD.l2 k I6 F8 = some r) (rn : List (Option Nat)) (h1 : cG σ σ [25] [(5, .own 0 I6.length)] [] [.arr 9 1 (I6.map aR)] rn)
    (h2 : ∀ (k0 : Nat) (I6 : List ByteArray), k0 < k + 1 → bD.l2 k0 I6 F8 = some r → dL σ hv [25] [(5, .own 0 I6.length)] [] [.arr 9 1 (I6.map aR)] (F (fun e σ' => match e with | .normal => ∃ (y : Nat × (List ByteArray)) (rn : List (Option Nat)), (bD.l2 y.1 y.2 F8 = some r ∧ y.1 < k + 1) ∧ y.1 < k0 ∧ cG σ σ' [25] [(5, .own 0 y.2.length)] [] [.arr 9 1 (y.2.map aR)] rn | e => Q e σ'))) : Lp F hv Q σ := by
  unfold Lp
  refine ⟨Nat × (List ByteArray), fun x => bD.l2 x.1 x.2 F8 = some r ∧ x.1 < k + 1, fun x => x.1, [25], fun x => [(5, .own 0 x.2.length)], fun x => [], fun x => [.arr 9 1 (x.2.map aR)], ⟨(k, I6), rn, ⟨H, Nat.lt_succ_self _⟩, h1⟩, ?_⟩
  rintro ⟨k, I6⟩ ⟨H, hk⟩
  exact h2 k I6 hk H
theorem bD.ac {k : Nat} {b8 : List Int} {a8 : Int} {l1 : List ByteArray} {r : (List ByteArray) × (List Int) × Int} (H : bD.f k b8 a8 l1 = some r) : cI Tryz.prog G 39 [.box [(bV b8), .int .i64 a8]] [.bp 0 0, (aM l1)] [.box [(bV r.2.1), .int .i64 r.2.2]] ((aM r.1)) := by
  refine bO tok hP Tryz.func39 rfl (by kernel_rfl) [.tmp 4] rfl (by kernel_rfl) (Nat.le_of_ble_eq_true rfl) (.l .n (.l .n (.l (.l .n (.l (.c .n .n) .n)) (.c .n (.j (.l .n (.l .n (.l .n (.l .n (.f 1 .n (.l .n (.l .n (.l .n (.l .n (.l .n (.l (.l .n (.l .n (.c .n .n))) (.l .n (.l (.l .n (.l (.c .n .n) .n)) (.c .n .n)))))))))))))) (.c .n .n)))))) rfl ?_
  unfold bD.f at H
  refine Or.inl (nd_ H (fun c H => (bJ H (fun c H => ?_) (fun c H => ?_))))
  refine Or.inl (jD 81 [(4, .own 65 1)] [(0, .box [(bV b8), .int .i64 a8]), (65, .arr 9 1 (([(⟨#[119, 104, 97, 116]⟩ : ByteArray)] : List ByteArray).map aR))] rfl ⟨.inl rfl, trivial⟩ ⟨rfl, ⟨fm_, trivial⟩⟩ ?_)
  cases H
  exact fT [some 0] [65] ((qO rfl lm_ lm_ rfl)) ⟨rfl, trivial⟩ rfl
  revert H; refine aN (fun m7 A H => (cM [0] (aW.ac A) ⟨rfl, trivial⟩ rfl rfl rfl rfl rfl rfl rfl rfl (jD 105 [(0, .bp 0 0), (5, .own 25 (0 + l1.length)), (6, .int .i64 m7.1)] [(0, .box [(bV m7.2.1), .int .i64 m7.2.2]), (25, .arr 9 1 ((([] : List ByteArray) ++ l1).map aR))] rfl ⟨.inl rfl, ⟨.inl rfl, ⟨.inl rfl, trivial⟩⟩⟩ ⟨rfl, ⟨fm_, trivial⟩⟩ (bD.j0_sq (KK := k + 1) (r := r) ?_ ?_))))
  revert H; refine aN (fun j8 A H => (cM [0] (aW.ac A) ⟨rfl, trivial⟩ rfl rfl rfl rfl rfl rfl rfl rfl (bJ H (fun c H => ?_) (fun c H => ?_))))
  refine nd_ H (fun c H => (nd_ H (fun c H => (El.mk (aV _ _ nf_ nf_) (Or.inr (Or.inl ?_))))))
  revert H; refine aN (fun M1 A H => (cM [0] (bS.ac A) ⟨rfl, trivial⟩ rfl rfl rfl rfl rfl (jH ⟨rfl, ⟨nJ rfl lm_ lm_, trivial⟩⟩) rfl rfl (nd_ H (fun c H => (Nd.mk nf_ (Nd.mk nf_ (El.mk (aV _ _ nf_ nf_) (⟨(k, M1.2.1, M1.2.2, ((([] : List ByteArray) ++ l1).set (m7.1).toNat ((aP ByteArray.empty (([] : List ByteArray) ++ l1) m7.1) ++ M1.1))), [some 25], ⟨H, lt_⟩, (bR ⟨fY lm_, trivial⟩ ⟨fm_, trivial⟩ fi_ ⟨⟨_, rfl⟩, ⟨_, rfl, ⟨.inl ⟨rfl, rfl⟩, ⟨.inl ⟨rfl, rfl⟩, trivial⟩⟩⟩, trivial⟩ rfl)⟩))))))))
  refine bJ H (fun c H => ?_) (fun c H => ?_)
  refine vD 153 [25] [(5, (aM (([] : List ByteArray) ++ l1))), (6, .int .i64 m7.1)] [(0, .box [(bV j8.2.1), .int .i64 j8.2.2])] rfl rfl ⟨.inl (rG rfl rfl (.inr lm_) lm_), ⟨.inl (.inl rfl), trivial⟩⟩ ⟨.inl (rfl), trivial⟩ (Or.inl (nd_ H (fun c H => (nd_ H (fun c H => (nd_ H (fun c H => (nd_ H (fun c H => (nd_ H (fun c H => (nd_ H (fun c H => (⟨(k, j8.2.1, j8.2.2, ((([] : List ByteArray) ++ ((([] : List ByteArray) ++ l1).take (m7.1).toNat)) ++ ((([] : List ByteArray) ++ l1).drop (wrap64 (m7.1 + 1)).toNat))), [some 225], ⟨H, lt_⟩, (bR ⟨fY lm_, trivial⟩ ⟨fm_, trivial⟩ fi_ ⟨⟨_, rfl⟩, ⟨_, rfl, ⟨.inl ⟨rfl, rfl⟩, ⟨.inl ⟨rfl, rfl⟩, trivial⟩⟩⟩, trivial⟩ rfl)⟩))))))))))))))
  refine vD 153 [] [(0, .bp 0 0), (5, .own 25 (0 + l1.length)), (6, .int .i64 m7.1), (23, .int .i64 j8.1)] [(0, .box [(bV j8.2.1), .int .i64 j8.2.2]), (25, .arr 9 1 ((([] : List ByteArray) ++ l1).map aR))] rfl rfl ⟨.inl (.inl rfl), ⟨.inl (.inl rfl), ⟨.inl (.inl rfl), ⟨.inl (.inl rfl), trivial⟩⟩⟩⟩ ⟨.inl (rfl), ⟨.inl (rfl), trivial⟩⟩ (bJ H (fun c H => ?_) (fun c H => ?_))
  refine nd_ H (fun c H => (nd_ H (fun c H => (El.mk (aV _ _ nf_ nf_) (Or.inl (nd_ H (fun c H => (⟨(k, j8.2.1, j8.2.2, ((([] : List ByteArray) ++ l1) ++ ([aP ByteArray.empty (([] : List ByteArray) ++ l1) m7.1] : List ByteArray))), [some 217], ⟨H, lt_⟩, (bR ⟨fY lm_, trivial⟩ ⟨fm_, trivial⟩ fi_ ⟨⟨_, rfl⟩, ⟨_, rfl, ⟨.inl ⟨rfl, rfl⟩, ⟨.inl ⟨rfl, rfl⟩, trivial⟩⟩⟩, trivial⟩ rfl)⟩))))))))
  refine bJ H (fun c H => ?_) (fun c H => ?_)
  refine Or.inr (Or.inl ?_)
  revert H; refine aN (fun N3 A H => (cM [0] (bS.ac A) ⟨rfl, trivial⟩ rfl rfl rfl rfl rfl (jH ⟨rfl, ⟨nJ rfl lm_ lm_, trivial⟩⟩) rfl rfl (nd_ H (fun c H => (nd_ H (fun c H => (El.mk (aV _ _ nf_ nf_) (⟨(k, N3.2.1, N3.2.2, ((([] : List ByteArray) ++ l1).set (m7.1).toNat N3.1)), [some 25], ⟨H, lt_⟩, (bR ⟨fY lm_, trivial⟩ ⟨fm_, trivial⟩ fi_ ⟨⟨_, rfl⟩, ⟨_, rfl, ⟨.inl ⟨rfl, rfl⟩, ⟨.inl ⟨rfl, rfl⟩, trivial⟩⟩⟩, trivial⟩ rfl)⟩))))))))
  refine bJ H (fun c H => ?_) (fun c H => ?_)
  refine bD.l0_lp (j8 := j8) (k := k) H [some 25] (bR ⟨fY lm_, ⟨.inl ⟨rfl, rfl⟩, trivial⟩⟩ ⟨rfl, trivial⟩ fi_ trivial rfl) ?_
  intro k I0 x7 hk H; rcases k with _ | k; exact bC H; rw [bD.l0] at H
  refine bJ H (fun c H => ?_) (fun c H => ?_)
  revert H; refine aN (fun O4 A H => (cmk (cN.ac A) rfl rfl (nd_ H (fun c H => (nd_ H (fun c H => (Or.inl (nd_ H (fun c H => (jD 290 [(5, .own 274 (I0.length + 1)), (7, .int .i64 x7)] [(0, .box [(bV j8.2.1), .int .i64 j8.2.2]), (274, .arr 9 1 ((I0 ++ ([((⟨#[106, 111, 105, 110, 116, 32, 121]⟩ : ByteArray) ++ O4) ++ (⟨#[32, 115]⟩ : ByteArray)] : List ByteArray)).map aR))] rfl ⟨.inl rfl, ⟨.inl rfl, trivial⟩⟩ ⟨rfl, ⟨fm_, trivial⟩⟩ (⟨(k, (I0 ++ ([((⟨#[106, 111, 105, 110, 116, 32, 121]⟩ : ByteArray) ++ O4) ++ (⟨#[32, 115]⟩ : ByteArray)] : List ByteArray)), wrap64 (x7 + 1)), [some 274], ⟨H, lt_⟩, lt_, (bR ⟨fY lm_, ⟨.inl ⟨rfl, rfl⟩, trivial⟩⟩ ⟨rfl, trivial⟩ fi_ trivial rfl)⟩)))))))))))
  exact ⟨(k, j8.2.1, j8.2.2, I0), [some 209], ⟨H, lt_⟩, (bR ⟨rfl, trivial⟩ ⟨rfl, trivial⟩ fi_ ⟨⟨_, rfl⟩, ⟨_, rfl, ⟨.inl ⟨rfl, rfl⟩, ⟨.inl ⟨rfl, rfl⟩, trivial⟩⟩⟩, trivial⟩ rfl)⟩
  refine bJ H (fun c H => ?_) (fun c H => ?_)
  refine bD.l1_lp (l1 := l1) (j8 := j8) (k := k) H [some 25] (bR ⟨fY lm_, ⟨.inl ⟨rfl, rfl⟩, trivial⟩⟩ ⟨rfl, trivial⟩ fi_ trivial rfl) ?_
  intro k I1 x8 hk H; rcases k with _ | k; exact bC H; rw [bD.l1] at H
  refine cu 242 [(5, .own 225 I1.length), (8, .int .i64 x8), (110, .bool (decide (x8 < 9)))] [(0, .box [(bV j8.2.1), .int .i64 j8.2.2]), (225, .arr 9 1 (I1.map aR))] rfl rfl rfl (bJ H (fun c H => ?_) (fun c H => ?_))
  revert H; refine aN (fun Q4 A H => (cmk (cN.ac A) rfl rfl (nd_ H (fun c H => (Or.inl (nd_ H (fun c H => (⟨(k, (I1 ++ ([(⟨#[115, 116, 117, 102, 102, 32, 121]⟩ : ByteArray) ++ Q4] : List ByteArray)), wrap64 (x8 + 1)), [some 282], ⟨H, lt_⟩, lt_, (bR ⟨fY lm_, ⟨.inl ⟨rfl, rfl⟩, trivial⟩⟩ ⟨fm_, trivial⟩ fi_ trivial rfl)⟩))))))))
  exact ⟨(k, j8.2.1, j8.2.2, I1), [some 225], ⟨H, lt_⟩, (bR ⟨rfl, trivial⟩ ⟨rfl, trivial⟩ fi_ ⟨⟨_, rfl⟩, ⟨_, rfl, ⟨.inl ⟨rfl, rfl⟩, ⟨.inl ⟨rfl, rfl⟩, trivial⟩⟩⟩, trivial⟩ rfl)⟩
  refine cu 233 [(0, .bp 0 0), (5, .own 25 (0 + l1.length)), (6, .int .i64 m7.1), (119, .bool (decide (j8.1 = 6)))] [(0, .box [(bV j8.2.1), .int .i64 j8.2.2]), (25, .arr 9 1 ((([] : List ByteArray) ++ l1).map aR))] rfl rfl rfl (bJ H (fun c H => ?_) (fun c H => ?_))
  revert H; refine aN (fun F8 A H => (cM [0] (aW.ac A) ⟨rfl, trivial⟩ rfl rfl rfl rfl rfl rfl rfl rfl (bD.l2_lp (F8 := F8) (k := k) H [some 25] (bR ⟨fY lm_, trivial⟩ ⟨rfl, trivial⟩ fi_ trivial rfl) ?_)))
  intro k I6 hk H; rcases k with _ | k; exact bC H; rw [bD.l2] at H
  refine bJ H (fun c H => ?_) (fun c H => ?_)
  refine Or.inl (nd_ H (fun c H => (⟨(k, (I6 ++ ([(⟨#[35]⟩ : ByteArray)] : List ByteArray))), [some 314], ⟨H, lt_⟩, lt_, (bR ⟨fY lm_, trivial⟩ ⟨fm_, trivial⟩ fi_ trivial rfl)⟩)))
  exact ⟨(k, F8.2.1, F8.2.2, I6), [some 265], ⟨H, lt_⟩, (bR ⟨rfl, trivial⟩ ⟨rfl, trivial⟩ fi_ ⟨⟨_, rfl⟩, ⟨_, rfl, ⟨.inl ⟨rfl, rfl⟩, ⟨.inl ⟨rfl, rfl⟩, trivial⟩⟩⟩, trivial⟩ rfl)⟩
  refine nd_ H (fun c H => (nd_ H (fun c H => (El.mk (aV _ _ nf_ nf_) ?_))))
  revert H; refine aN (fun I2 A H => (cM [0] (aW.ac A) ⟨rfl, trivial⟩ rfl rfl rfl rfl rfl rfl rfl rfl (Nd.mk nf_ (Nd.mk nf_ (El.mk (aV _ _ nf_ nf_) (nd_ H (fun c H => (nd_ H (fun c H => (Or.inr (Or.inl ?_)))))))))))
  revert H; refine aN (fun K5 A H => (cM [0] (bS.ac A) ⟨rfl, trivial⟩ rfl rfl rfl rfl rfl (jH ⟨rfl, ⟨nJ rfl lm_ lm_, trivial⟩⟩) rfl rfl (nd_ H (fun c H => (Nd.mk nf_ (Nd.mk nf_ (El.mk (aV _ _ nf_ nf_) (Nd.mk nf_ (Nd.mk nf_ (nd_ H (fun c H => (Nd.mk nf_ (Nd.mk nf_ (El.mk (aV _ _ nf_ nf_) (⟨(k, K5.2.1, K5.2.2, ((([] : List ByteArray) ++ l1).set (m7.1).toNat ((((aP ByteArray.empty (([] : List ByteArray) ++ l1) m7.1).extract 0 (I2.1).toNat) ++ K5.1) ++ ((aP ByteArray.empty (([] : List ByteArray) ++ l1) m7.1).extract (I2.1).toNat (aP ByteArray.empty (([] : List ByteArray) ++ l1) m7.1).size)))), [some 25], ⟨H, lt_⟩, (bR ⟨fY lm_, trivial⟩ ⟨fm_, trivial⟩ fi_ ⟨⟨_, rfl⟩, ⟨_, rfl, ⟨.inl ⟨rfl, rfl⟩, ⟨.inl ⟨rfl, rfl⟩, trivial⟩⟩⟩, trivial⟩ rfl)⟩)))))))))))))))
  intro k d8 d9 x5 hk H; rcases k with _ | k; exact bC H; rw [bD.j0] at H
  refine cu 122 [(4, .own 105 x5.length)] [(0, .box [(bV d8), .int .i64 d9]), (105, .arr 9 1 (x5.map aR))] rfl rfl rfl ?_
  cases H
  exact fT [some 0] [105] ((nD rfl rfl)) ⟨rfl, trivial⟩ rfl
theorem dS.l0_lp {F : (Exit → St → Prop) → St → Prop} {hv : List Tmp} {Q : Exit → St → Prop} {σ : St} {r : ByteArray} {k : Nat} {l0 : List ByteArray} {x3 : ByteArray} {x4 : Int} (H : dS.l0 k l0 x3 x4 = some r) (rn : List (Option Nat)) (h1 : cG σ σ [] [(3, .str x3), (4, .int .i64 x4)] [] [] rn)
    (h2 : ∀ (k0 : Nat) (x3 : ByteArray) (x4 : Int), k0 < k + 1 → dS.l0 k0 l0 x3 x4 = some r → dL σ hv [] [(3, .str x3), (4, .int .i64 x4)] [] [] (F (fun e σ' => match e with | .normal => ∃ (y : Nat × ByteArray × Int) (rn : List (Option Nat)), (dS.l0 y.1 l0 y.2.1 y.2.2 = some r ∧ y.1 < k + 1) ∧ y.1 < k0 ∧ cG σ σ' [] [(3, .str y.2.1), (4, .int .i64 y.2.2)] [] [] rn | e => Q e σ'))) : Lp F hv Q σ := by
  unfold Lp
  refine ⟨Nat × ByteArray × Int, fun x => dS.l0 x.1 l0 x.2.1 x.2.2 = some r ∧ x.1 < k + 1, fun x => x.1, [], fun x => [(3, .str x.2.1), (4, .int .i64 x.2.2)], fun x => [], fun x => [], ⟨(k, x3, x4), rn, ⟨H, Nat.lt_succ_self _⟩, h1⟩, ?_⟩
  rintro ⟨k, x3, x4⟩ ⟨H, hk⟩
  exact h2 k x3 x4 hk H
theorem dS.ac {k : Nat} {l0 : List ByteArray} {r : ByteArray} (H : dS.f k l0 = some r) : cI Tryz.prog G 40 [] [(aM l0)] [] (.str r) := by
  refine bO tok hP Tryz.func40 rfl (by kernel_rfl) [.tmp 2] rfl (by kernel_rfl) (Nat.le_of_ble_eq_true rfl) (.l .n (.l .n (.l (.l .n (.l .n (.c .n .n))) .n))) rfl ?_
  unfold dS.f at H
  refine dS.l0_lp (l0 := l0) (k := k) H [] (fq rfl rfl fi_ rfl) ?_
  intro k x3 x4 hk H; rcases k with _ | k; exact bC H; rw [dS.l0] at H
  refine bJ H (fun c H => ?_) (fun c H => ?_)
  refine nd_ H (fun c H => (Nd.mk nf_ (El.mk (aV _ _ nf_ nf_) (nd_ H (fun c H => (nd_ H (fun c H => (cu 120 [(0, (aM l0)), (3, .str ((x3 ++ (aP ByteArray.empty l0 x4)) ++ (⟨#[10]⟩ : ByteArray))), (4, .int .i64 x4)] [] rfl rfl rfl (⟨(k, (x3 ++ (aP ByteArray.empty l0 x4)) ++ (⟨#[10]⟩ : ByteArray), wrap64 (x4 + 1)), [], ⟨H, lt_⟩, lt_, (fq rfl rfl fi_ rfl)⟩)))))))))
  cases H
  exact rz rfl
theorem eG.l0_lp {F : (Exit → St → Prop) → St → Prop} {hv : List Tmp} {Q : Exit → St → Prop} {σ : St} {r : ByteArray} {k : Nat} {x0 : ByteArray} {x1 : Int} {x5 : ByteArray} (H : eG.l0 k x0 x1 x5 = some r) (rn : List (Option Nat)) (h1 : cG σ σ [] [(0, .str x0), (1, .int .i64 x1), (5, .str x5)] [] [] rn)
    (h2 : ∀ (k0 : Nat) (x0 : ByteArray) (x1 : Int) (x5 : ByteArray), k0 < k + 1 → eG.l0 k0 x0 x1 x5 = some r → dL σ hv [] [(0, .str x0), (1, .int .i64 x1), (5, .str x5)] [] [] (F (fun e σ' => match e with | .normal => ∃ (y : Nat × ByteArray × Int × ByteArray) (rn : List (Option Nat)), (eG.l0 y.1 y.2.1 y.2.2.1 y.2.2.2 = some r ∧ y.1 < k + 1) ∧ y.1 < k0 ∧ cG σ σ' [] [(0, .str y.2.1), (1, .int .i64 y.2.2.1), (5, .str y.2.2.2)] [] [] rn | e => Q e σ'))) : Lp F hv Q σ := by
  unfold Lp
  refine ⟨Nat × ByteArray × Int × ByteArray, fun x => eG.l0 x.1 x.2.1 x.2.2.1 x.2.2.2 = some r ∧ x.1 < k + 1, fun x => x.1, [], fun x => [(0, .str x.2.1), (1, .int .i64 x.2.2.1), (5, .str x.2.2.2)], fun x => [], fun x => [], ⟨(k, x0, x1, x5), rn, ⟨H, Nat.lt_succ_self _⟩, h1⟩, ?_⟩
  rintro ⟨k, x0, x1, x5⟩ ⟨H, hk⟩
  exact h2 k x0 x1 x5 hk H
theorem eG.ac {k : Nat} {a0 : ByteArray} {a1 : Int} {r : ByteArray} (H : eG.f k a0 a1 = some r) : cI Tryz.prog G 41 [] [.str a0, .int .i64 a1] [] (.str r) := by
  refine bO tok hP Tryz.func41 rfl (by kernel_rfl) [.tmp 4] rfl (by kernel_rfl) (Nat.le_of_ble_eq_true rfl) (.l .n (.l .n (.l (.l .n (.c .n (.c .n .n))) .n))) rfl ?_
  unfold eG.f at H
  refine eG.l0_lp (k := k) H [] (fq rfl rfl fi_ rfl) ?_
  intro k x0 x1 x5 hk H; rcases k with _ | k; exact bC H; rw [eG.l0] at H
  refine bJ H (fun c H => ?_) (fun c H => ?_)
  refine Nd.mk (by decide) (bJ H (fun c H => ?_) (fun c H => ?_))
  refine nd_ H (fun c H => (cu 88 [(0, .str x0), (1, .int .i64 x1), (5, .str (x5 ++ x0))] [] rfl rfl rfl (nd_ H (fun c H => (cu 120 [(0, .str (x0 ++ x0)), (1, .int .i64 x1), (5, .str (x5 ++ x0))] [] rfl rfl rfl (Nd.mk (by decide) (⟨(k, x0 ++ x0, wrap64 (Int.tdiv x1 2), x5 ++ x0), [], ⟨H, lt_⟩, lt_, (fq rfl rfl fi_ rfl)⟩)))))))
  refine cu 56 [(0, .str x0), (1, .int .i64 x1), (5, .str x5)] [] rfl rfl rfl (nd_ H (fun c H => (cu 88 [(0, .str (x0 ++ x0)), (1, .int .i64 x1), (5, .str x5)] [] rfl rfl rfl (Nd.mk (by decide) (⟨(k, x0 ++ x0, wrap64 (Int.tdiv x1 2), _), [], ⟨H, lt_⟩, lt_, (fq rfl rfl fi_ rfl)⟩)))))
  cases H
  exact rz rfl
theorem cP.j0_sq {F : (Exit → St → Prop) → St → Prop} {hv : List Tmp} {K : St → Prop} {Q : Exit → St → Prop} {σ : St} {r : ByteArray} {KK : Nat}
    (h1 : F (fun e σ' => match e with | .normal => ∃ (y : Nat × (List Int) × Int × (List ByteArray)) (rn : List (Option Nat)), (cP.j0 y.1 y.2.2.2 y.2.1 y.2.2.1 = some r ∧ y.1 < KK) ∧ cG σ σ' [16] [(4, (aM y.2.2.2))] [(16, .box [(bV y.2.1), .int .i64 y.2.2.1])] [] rn | e => Q e σ') σ)
    (h2 : ∀ (k : Nat) (G5 : List Int) (G6 : Int) (x4 : List ByteArray), k < KK → cP.j0 k x4 G5 G6 = some r → dL σ hv [16] [(4, (aM x4))] [(16, .box [(bV G5), .int .i64 G6])] [] K) : Sq F hv K Q σ := by
  unfold Sq
  refine ⟨Nat × (List Int) × Int × (List ByteArray), fun x => cP.j0 x.1 x.2.2.2 x.2.1 x.2.2.1 = some r ∧ x.1 < KK, [16], fun x => [(4, (aM x.2.2.2))], fun x => [(16, .box [(bV x.2.1), .int .i64 x.2.2.1])], fun x => [], h1, ?_⟩
  rintro ⟨k, G5, G6, x4⟩ ⟨H, hk⟩
  exact h2 k G5 G6 x4 hk H
theorem cP.ac {k : Nat} {l0 : List Int} {r : ByteArray} (H : cP.f k l0 = some r) : cI Tryz.prog G 15 [] [(bV l0)] [] (.str r) := by
  refine bO tok hP Tryz.func15 rfl (by kernel_rfl) [.tmp 2] rfl (by kernel_rfl) (Nat.le_of_ble_eq_true rfl) (.l .n (.l .n (.l .n (.j (.c .n .n) (.l .n (.l (.c .n (.l (.c .n .n) .n)) (.l (.c .n (.l (.c .n .n) .n)) (.c .n .n)))))))) rfl ?_
  unfold cP.f at H
  revert H; refine aN (fun S4 A H => (cmk (jB.ac A) rfl rfl ?_))
  revert H; refine aN (fun N4 A H => (cM [16] (cC.ac A) ⟨rfl, trivial⟩ rfl rfl rfl rfl rfl rfl rfl rfl (cP.j0_sq (KK := k + 1) (r := r) ?_ ?_)))
  revert H; refine aN (fun I7 A H => (cM [16] (aW.ac A) ⟨rfl, trivial⟩ rfl rfl rfl rfl rfl rfl rfl rfl (cu 80 [(3, .bp 16 0), (4, (aM N4.1)), (12, .bool (decide (I7.1 = 0)))] [(16, .box [(bV I7.2.1), .int .i64 I7.2.2])] rfl rfl rfl (bJ H (fun c H => ?_) (fun c H => ?_)))))
  revert H; refine aN (fun N5 A H => (cM [16] (bD.ac A) ⟨rfl, trivial⟩ rfl rfl rfl rfl rfl rfl rfl rfl (⟨(k, N5.2.1, N5.2.2, N5.1), [], ⟨H, lt_⟩, (bR ⟨.inl ⟨rfl, rfl⟩, trivial⟩ trivial fi_ ⟨⟨_, rfl⟩, ⟨_, rfl, ⟨.inl ⟨rfl, rfl⟩, ⟨.inl ⟨rfl, rfl⟩, trivial⟩⟩⟩, trivial⟩ rfl)⟩)))
  exact ⟨(k, I7.2.1, I7.2.2, N4.1), [], ⟨H, lt_⟩, (bR ⟨.inl ⟨rfl, rfl⟩, trivial⟩ trivial fi_ ⟨⟨_, rfl⟩, ⟨_, rfl, ⟨.inl ⟨rfl, rfl⟩, ⟨.inl ⟨rfl, rfl⟩, trivial⟩⟩⟩, trivial⟩ rfl)⟩
  intro k G5 G6 x4 hk H; rcases k with _ | k; exact bC H; rw [cP.j0] at H
  revert H; refine aN (fun t6 A H => (cmk (dS.ac A) rfl rfl ?_))
  revert H; refine aN (fun I3 A H => (cM [16] (aW.ac A) ⟨rfl, trivial⟩ rfl rfl rfl rfl rfl rfl rfl rfl (bJ H (fun c H => ?_) (fun c H => ?_))))
  refine Br.t ft_ (Br.t ft_ (Br.t ft_ (cu 144 [(3, .bp 16 0), (5, .str t6), (25, .bool (decide ((t6.size : Int) < 10000)))] [(16, .box [(bV I3.2.1), .int .i64 I3.2.2])] rfl rfl rfl (bJ H (fun c H => ?_) (fun c H => ?_)))))
  refine nd_ H (fun c H => ?_)
  revert H; refine aN (fun W0 A H => (cM [16] (aW.ac A) ⟨rfl, trivial⟩ rfl rfl rfl rfl rfl rfl rfl rfl ?_))
  revert H; refine aN (fun Q5 A H => (cmk (eG.ac A) rfl rfl (nd_ H (fun c H => (cu 240 [(2, .str ((t6 ++ (⟨#[35]⟩ : ByteArray)) ++ Q5))] [] rfl rfl rfl ?_)))))
  cases H
  exact rz rfl
  revert H; refine aN (fun W1 A H => (cM [16] (aW.ac A) ⟨rfl, trivial⟩ rfl rfl rfl rfl rfl rfl rfl rfl (bJ H (fun c H => ?_) (fun c H => ?_))))
  refine Br.t ft_ (Br.t ft_ (Br.t ft_ (cu 208 [(5, .str t6), (44, .bool (decide ((t6.size : Int) > 0)))] [] rfl rfl rfl (bJ H (fun c H => ?_) (fun c H => ?_)))))
  refine nd_ H (fun c H => (nd_ H (fun c H => (cu 256 [(2, .str (t6.extract 0 (wrap64 ((t6.size : Int) - 1)).toNat))] [] rfl rfl rfl ?_))))
  cases H
  exact rz rfl
  refine cu 224 [(2, .str t6)] [] rfl rfl rfl ?_
  cases H
  exact rz rfl
  refine Br.f ff_ (Br.f ff_ (Br.f ff_ (cu 208 [(5, .str t6), (44, .bool false)] [] rfl rfl rfl (Br.f rfl (cu 224 [(2, .str t6)] [] rfl rfl rfl ?_)))))
  cases H
  exact rz rfl
  refine Br.f ff_ (Br.f ff_ (Br.f ff_ (cu 144 [(3, .bp 16 0), (5, .str t6), (25, .bool false)] [(16, .box [(bV I3.2.1), .int .i64 I3.2.2])] rfl rfl rfl (Br.f rfl ?_))))
  revert H; refine aN (fun W2 A H => (cM [16] (aW.ac A) ⟨rfl, trivial⟩ rfl rfl rfl rfl rfl rfl rfl rfl (bJ H (fun c H => ?_) (fun c H => ?_))))
  refine Br.t ft_ (Br.t ft_ (Br.t ft_ (cu 208 [(5, .str t6), (44, .bool (decide ((t6.size : Int) > 0)))] [] rfl rfl rfl (bJ H (fun c H => ?_) (fun c H => ?_)))))
  refine nd_ H (fun c H => (nd_ H (fun c H => (cu 256 [(2, .str (t6.extract 0 (wrap64 ((t6.size : Int) - 1)).toNat))] [] rfl rfl rfl ?_))))
  cases H
  exact rz rfl
  refine cu 224 [(2, .str t6)] [] rfl rfl rfl ?_
  cases H
  exact rz rfl
  refine Br.f ff_ (Br.f ff_ (Br.f ff_ (cu 208 [(5, .str t6), (44, .bool false)] [] rfl rfl rfl (Br.f rfl (cu 224 [(2, .str t6)] [] rfl rfl rfl ?_)))))
  cases H
  exact rz rfl
end Go.Proofs.YtnobkcplpbkigaaGreatDoor.PT
namespace Go.Proofs
open Go.Shelf Go.Sort Go.RowKit in
shelf_lay LaysM.n146 Nm 146 at Tryz as Tryz.gx146
end Go.Proofs
namespace Go.Proofs.YtnobkcplpbkigaaGreatDoor.PT
open Go Go.Aw Go.RowKit Go.Proofs
set_option maxRecDepth 100000
set_option maxHeartbeats 40000000
variable {G : Nat → Option Obj}
attribute [local irreducible] jW Lp Sq Cut lH lA cG
class GvOk (G : Nat → Option Obj) : Prop where
  i : aGT G 1
  t : aLQ G 0 (Lib.pow10Tab.map fun z => Value.int .u64 z).toArray
theorem strings_Split.ac [GvOk G] {s0 s1 : ByteArray} {r : List ByteArray} (H : strings_Split.f s0 s1 = some r) : cI Tryz.prog G 56 [] [.str s0, .str s1] [] (.sl 1 r.length (r.map aR)) := by
  exact aDG Tryz.gx146 ⟨_, Tryz.func56, by kernel_rfl, by kernel_rfl⟩ GvOk.i rfl rfl H (fun _ => rfl)
theorem iA.ac [GvOk G] {a0 : ByteArray} {r : List ByteArray} (H : iA.f a0 = some r) : cI Tryz.prog G 30 [] [.str a0] [] ((aM r)) := by
  refine bO tok hP Tryz.func30 rfl (by kernel_rfl) [.tmp 2] rfl (by kernel_rfl) (Nat.le_of_ble_eq_true rfl) (.l .n (.l .n (.l (.c .n .n) .n))) rfl ?_
  unfold iA.f at H
  revert H; refine aN (fun G8 A H => (cmk (strings_Split.ac A) rfl rfl (nd_ H (fun c H => (nd_ H (fun c H => (El.mk (aV _ _ nf_ nf_) (cu 88 [(3, (aM G8)), (12, .bool (decide ((aP ByteArray.empty G8 (wrap64 ((G8.length : Int) - 1))).toList = (⟨#[]⟩ : ByteArray).toList)))] [] rfl rfl rfl (bJ H (fun c H => ?_) (fun c H => ?_))))))))))
  refine Nd.mk nf_ (nd_ H (fun c H => ?_))
  cases H
  exact oD [] (aJL lm_ lm_)
  cases H
  exact rz rfl
end Go.Proofs.YtnobkcplpbkigaaGreatDoor.PT
namespace Go.Proofs
open Go.Shelf Go.Sort Go.RowKit in
shelf_lay LaysM.n145 Nm 145 at Tryz as Tryz.gx145
end Go.Proofs
namespace Go.Proofs.YtnobkcplpbkigaaGreatDoor.PT
open Go Go.Aw Go.RowKit Go.Proofs
set_option maxRecDepth 100000
set_option maxHeartbeats 40000000
variable {G : Nat → Option Obj}
attribute [local irreducible] jW Lp Sq Cut lH lA cG
theorem strings_Cut.ac [GvOk G] {s0 s1 : ByteArray} {r : ByteArray × ByteArray × Bool} (H : strings_Cut.f s0 s1 = some r) : cI Tryz.prog G 75 [] [.str s0, .str s1] [] (.tup [.str r.1, .str r.2.1, .bool r.2.2]) := by
  exact aIG Tryz.gx145 ⟨_, Tryz.func75, by kernel_rfl, by kernel_rfl⟩ GvOk.i rfl rfl H
theorem bX.l1_lp {F : (Exit → St → Prop) → St → Prop} {hv : List Tmp} {Q : Exit → St → Prop} {σ : St} {r : (List ByteArray) × Bool} {k : Nat} {F5 : List ByteArray} {x5 : List ByteArray} {x33 : Int} (H : bX.l1 k x5 x33 F5 = some r) (rn : List (Option Nat)) (h1 : cG σ σ [] [(5, .own 0 x5.length), (33, .int .i64 x33)] [] [.arr 9 1 (x5.map aR)] rn)
    (h2 : ∀ (k0 : Nat) (x5 : List ByteArray) (x33 : Int), k0 < k + 1 → bX.l1 k0 x5 x33 F5 = some r → dL σ hv [] [(5, .own 0 x5.length), (33, .int .i64 x33)] [] [.arr 9 1 (x5.map aR)] (F (fun e σ' => match e with | .normal => ∃ (y : Nat × (List ByteArray) × Int) (rn : List (Option Nat)), (bX.l1 y.1 y.2.1 y.2.2 F5 = some r ∧ y.1 < k + 1) ∧ y.1 < k0 ∧ cG σ σ' [] [(5, .own 0 y.2.1.length), (33, .int .i64 y.2.2)] [] [.arr 9 1 (y.2.1.map aR)] rn | e => Q e σ'))) : Lp F hv Q σ := by
  unfold Lp
  refine ⟨Nat × (List ByteArray) × Int, fun x => bX.l1 x.1 x.2.1 x.2.2 F5 = some r ∧ x.1 < k + 1, fun x => x.1, [], fun x => [(5, .own 0 x.2.1.length), (33, .int .i64 x.2.2)], fun x => [], fun x => [.arr 9 1 (x.2.1.map aR)], ⟨(k, x5, x33), rn, ⟨H, Nat.lt_succ_self _⟩, h1⟩, ?_⟩
  rintro ⟨k, x5, x33⟩ ⟨H, hk⟩
  exact h2 k x5 x33 hk H
theorem bX.l0_lp {F : (Exit → St → Prop) → St → Prop} {hv : List Tmp} {Q : Exit → St → Prop} {σ : St} {r : (List ByteArray) × Bool} {k : Nat} {E4 : ByteArray × ByteArray × Bool} {x16 : Int} (H : bX.l0 k x16 E4 = some r) (rn : List (Option Nat)) (h1 : cG σ σ [] [(16, .int .i64 x16)] [] [] rn)
    (h2 : ∀ (k0 : Nat) (x16 : Int), k0 < k + 1 → bX.l0 k0 x16 E4 = some r → dL σ hv [] [(16, .int .i64 x16)] [] [] (F (fun e σ' => match e with | .normal => ∃ (y : Nat × Int) (rn : List (Option Nat)), (bX.l0 y.1 y.2 E4 = some r ∧ y.1 < k + 1) ∧ y.1 < k0 ∧ cG σ σ' [] [(16, .int .i64 y.2)] [] [] rn | e => Q e σ'))) : Lp F hv Q σ := by
  unfold Lp
  refine ⟨Nat × Int, fun x => bX.l0 x.1 x.2 E4 = some r ∧ x.1 < k + 1, fun x => x.1, [], fun x => [(16, .int .i64 x.2)], fun x => [], fun x => [], ⟨(k, x16), rn, ⟨H, Nat.lt_succ_self _⟩, h1⟩, ?_⟩
  rintro ⟨k, x16⟩ ⟨H, hk⟩
  exact h2 k x16 hk H
theorem bX.ac [GvOk G] {k : Nat} {a0 : ByteArray} {r : (List ByteArray) × Bool} (H : bX.f k a0 = some r) : cI Tryz.prog G 57 [] [.str a0] [] (.tup [(aM r.1), .bool r.2]) := by
  refine bO tok hP Tryz.func57 rfl (by kernel_rfl) [.tmp 2, .tmp 3] rfl (by kernel_rfl) (Nat.le_of_ble_eq_true rfl) (.l .n (.l .n (.l (.c .n (.l .n (.l .n (.l (.l .n (.c .n (.l (.c .n .n) .n))) .n)))) (.l .n (.l (.l .n (.l .n (.l .n (.l (.c .n .n) .n)))) (.c .n .n)))))) rfl ?_
  unfold bX.f at H
  revert H; refine aN (fun E4 A H => (cmk (strings_Cut.ac A) rfl rfl (cu 96 [(0, .str E4.1), (15, .int .i64 (E4.1.size : Int)), (16, .int .i64 0)] [] rfl rfl rfl (bX.l0_lp (E4 := E4) (k := k) H [] (fq rfl rfl fi_ rfl) ?_))))
  intro k x16 hk H; rcases k with _ | k; exact bC H; rw [bX.l0] at H
  refine bJ H (fun c H => ?_) (fun c H => ?_)
  refine nd_ H (fun c H => (Nd.mk nf_ (bJ H (fun c H => ?_) (fun c H => ?_))))
  refine Br.t ft_ (Br.t ft_ (Br.t ft_ (Br.t ft_ (cu 200 [(0, .str E4.1), (15, .int .i64 (E4.1.size : Int)), (16, .int .i64 x16), (28, .bool true)] [] rfl rfl rfl (Br.t rfl (cu 216 [(2, .nil), (3, .bool false)] [] rfl rfl rfl ?_))))))
  cases H
  exact eT [] (bM (qR) (bM (fV rfl) (eB)))
  refine Br.f ff_ (Br.f ff_ (Nd.mk nf_ (Nd.mk nf_ (Br.f ff_ (Br.f ff_ (cu 200 [(0, .str E4.1), (15, .int .i64 (E4.1.size : Int)), (16, .int .i64 x16), (28, .bool (decide ((bt E4.1 x16) > 126)))] [] rfl rfl rfl (bJ H (fun c H => ?_) (fun c H => ?_))))))))
  refine cu 216 [(2, .nil), (3, .bool false)] [] rfl rfl rfl ?_
  cases H
  exact eT [] (bM (qR) (bM (fV rfl) (eB)))
  exact ⟨(k, wrap64 (x16 + 1)), [], ⟨H, lt_⟩, lt_, (fq rfl rfl fi_ rfl)⟩
  revert H; refine aN (fun F5 A H => (cmk (strings_Split.ac A) rfl rfl (bX.l1_lp (F5 := F5) (k := k) H [none] (bR ⟨⟨rfl, rfl⟩, ⟨.inl ⟨rfl, rfl⟩, trivial⟩⟩ ⟨rfl, trivial⟩ fi_ trivial rfl) ?_)))
  intro k x5 x33 hk H; rcases k with _ | k; exact bC H; rw [bX.l1] at H
  refine bJ H (fun c H => ?_) (fun c H => ?_)
  refine nd_ H (fun c H => (Nd.mk nf_ (El.mk (aV _ _ nf_ nf_) (cu 177 [(5, .own 144 x5.length), (7, .str (aP ByteArray.empty F5 x33)), (31, (aM F5)), (32, .int .i64 (F5.length : Int)), (33, .int .i64 x33)] [(144, .arr 9 1 (x5.map aR))] rfl rfl rfl (bJ H (fun c H => ?_) (fun c H => ?_))))))
  exact ⟨(k, x5, wrap64 (x33 + 1)), [some 144], ⟨H, lt_⟩, lt_, (bR ⟨rfl, ⟨.inl ⟨rfl, rfl⟩, trivial⟩⟩ ⟨rfl, trivial⟩ fi_ trivial rfl)⟩
  refine bJ H (fun c H => ?_) (fun c H => ?_)
  cases H
  exact eT [] (bM (qR) (bM (fV rfl) (eB)))
  refine Or.inl (nd_ H (fun c H => (⟨(k, (x5 ++ ([aP ByteArray.empty F5 x33] : List ByteArray)), wrap64 (x33 + 1)), [some 241], ⟨H, lt_⟩, lt_, (bR ⟨fY lm_, ⟨.inl ⟨rfl, rfl⟩, trivial⟩⟩ ⟨fm_, trivial⟩ fi_ trivial rfl)⟩)))
  refine cu 177 [(2, .own 144 x5.length), (3, .bool true)] [(144, .arr 9 1 (x5.map aR))] rfl rfl rfl ?_
  cases H
  exact eT [144] (bM (nD rfl rfl) (bM (fV rfl) (eB)))
theorem fX.ac [GvOk G] {k : Nat} {a0 : ByteArray} {r : (List ByteArray) × Bool} (H : fX.f k a0 = some r) : cI Tryz.prog G 31 [] [.str a0] [] (.tup [(aM r.1), .bool r.2]) := by
  refine bO tok hP Tryz.func31 rfl (by kernel_rfl) [.tmp 2, .tmp 3] rfl (by kernel_rfl) (Nat.le_of_ble_eq_true rfl) (.l .n (.l .n (.l (.c .n (.l (.c .n .n) .n)) (.c .n .n)))) rfl ?_
  unfold fX.f at H
  revert H; refine aN (fun M2 A H => (cmk (bX.ac A) rfl rfl (dU H (fun c H => ?_) (fun c H => ?_))))
  refine Br.f ff_ (Br.f ff_ (Br.f ff_ (cu 128 [(4, (aM M2.1)), (17, .bool (decide ((M2.1.length : Int) > 16)))] [] rfl rfl rfl (bJ H (fun c H => ?_) (fun c H => ?_)))))
  refine cu 144 [(2, .nil), (3, .bool false)] [] rfl rfl rfl ?_
  cases H
  exact eT [] (bM (qR) (bM (fV rfl) (eB)))
  refine cu 152 [(2, (aM M2.1)), (3, .bool true)] [] rfl rfl rfl ?_
  cases H
  exact rts rfl
  refine Br.t ft_ (Br.t ft_ (Br.t ft_ (cu 128 [(4, (aM M2.1)), (17, .bool true)] [] rfl rfl rfl (Br.t rfl (cu 144 [(2, .nil), (3, .bool false)] [] rfl rfl rfl ?_)))))
  cases H
  exact eT [] (bM (qR) (bM (fV rfl) (eB)))
theorem cE.l0_lp {F : (Exit → St → Prop) → St → Prop} {hv : List Tmp} {Q : Exit → St → Prop} {σ : St} {r : Int × Bool} {k : Nat} {a0 : ByteArray} {x4 : Int} {x26 : Int} (H : cE.l0 k a0 x4 x26 = some r) (rn : List (Option Nat)) (h1 : cG σ σ [] [(4, .int .i64 x4), (26, .int .i64 x26)] [] [] rn)
    (h2 : ∀ (k0 : Nat) (x4 : Int) (x26 : Int), k0 < k + 1 → cE.l0 k0 a0 x4 x26 = some r → dL σ hv [] [(4, .int .i64 x4), (26, .int .i64 x26)] [] [] (F (fun e σ' => match e with | .normal => ∃ (y : Nat × Int × Int) (rn : List (Option Nat)), (cE.l0 y.1 a0 y.2.1 y.2.2 = some r ∧ y.1 < k + 1) ∧ y.1 < k0 ∧ cG σ σ' [] [(4, .int .i64 y.2.1), (26, .int .i64 y.2.2)] [] [] rn | e => Q e σ'))) : Lp F hv Q σ := by
  unfold Lp
  refine ⟨Nat × Int × Int, fun x => cE.l0 x.1 a0 x.2.1 x.2.2 = some r ∧ x.1 < k + 1, fun x => x.1, [], fun x => [(4, .int .i64 x.2.1), (26, .int .i64 x.2.2)], fun x => [], fun x => [], ⟨(k, x4, x26), rn, ⟨H, Nat.lt_succ_self _⟩, h1⟩, ?_⟩
  rintro ⟨k, x4, x26⟩ ⟨H, hk⟩
  exact h2 k x4 x26 hk H
theorem cE.l1_lp {F : (Exit → St → Prop) → St → Prop} {hv : List Tmp} {Q : Exit → St → Prop} {σ : St} {r : Int × Bool} {k : Nat} {a0 : ByteArray} {E0 : Int} {E2 : Int} (H : cE.l1 k a0 E0 E2 = some r) (rn : List (Option Nat)) (h1 : cG σ σ [] [(4, .int .i64 E0), (26, .int .i64 E2)] [] [] rn)
    (h2 : ∀ (k0 : Nat) (E0 : Int) (E2 : Int), k0 < k + 1 → cE.l1 k0 a0 E0 E2 = some r → dL σ hv [] [(4, .int .i64 E0), (26, .int .i64 E2)] [] [] (F (fun e σ' => match e with | .normal => ∃ (y : Nat × Int × Int) (rn : List (Option Nat)), (cE.l1 y.1 a0 y.2.1 y.2.2 = some r ∧ y.1 < k + 1) ∧ y.1 < k0 ∧ cG σ σ' [] [(4, .int .i64 y.2.1), (26, .int .i64 y.2.2)] [] [] rn | e => Q e σ'))) : Lp F hv Q σ := by
  unfold Lp
  refine ⟨Nat × Int × Int, fun x => cE.l1 x.1 a0 x.2.1 x.2.2 = some r ∧ x.1 < k + 1, fun x => x.1, [], fun x => [(4, .int .i64 x.2.1), (26, .int .i64 x.2.2)], fun x => [], fun x => [], ⟨(k, E0, E2), rn, ⟨H, Nat.lt_succ_self _⟩, h1⟩, ?_⟩
  rintro ⟨k, E0, E2⟩ ⟨H, hk⟩
  exact h2 k E0 E2 hk H
theorem cE.ac {k : Nat} {a0 : ByteArray} {r : Int × Bool} (H : cE.f k a0 = some r) : cI Tryz.prog G 58 [] [.str a0] [] (.tup [.int .i64 r.1, .bool r.2]) := by
  refine bO tok hP Tryz.func58 rfl (by kernel_rfl) [.tmp 2, .tmp 3] rfl (by kernel_rfl) (Nat.le_of_ble_eq_true rfl) (.l .n (.l (.c .n (.l (.c .n .n) .n)) (.l .n (.l (.l .n (.l .n (.l .n (.l (.l .n (.l (.c .n (.l (.c .n .n) .n)) .n)) .n)))) .n)))) rfl ?_
  unfold cE.f at H
  refine bJ H (fun c H => ?_) (fun c H => ?_)
  refine Br.t ft_ (Br.t ft_ (Br.t ft_ (Br.t rfl (Br.t rfl (Br.t rfl (Br.t rfl (Br.t rfl (Br.t rfl (cu 160 [(0, .str a0), (23, .bool true)] [] rfl rfl rfl (Br.t rfl (cu 176 [(2, .int .i64 0), (3, .bool false)] [] rfl rfl rfl ?_)))))))))))
  cases H
  exact rts rfl
  refine Br.f ff_ (Br.f ff_ (Br.f ff_ (bJ H (fun c H => ?_) (fun c H => ?_))))
  refine Br.t ft_ (Br.t ft_ (Br.t ft_ (Br.t ft_ (Br.t ft_ (cu 160 [(0, .str a0), (23, .bool true)] [] rfl rfl rfl (Br.t rfl (cu 176 [(2, .int .i64 0), (3, .bool false)] [] rfl rfl rfl ?_)))))))
  cases H
  exact rts rfl
  refine Br.f ff_ (Br.f ff_ (Br.f ff_ (bJ H (fun c H => ?_) (fun c H => ?_))))
  refine Br.t ft_ (Nd.mk (by decide) (nd_ H (fun c H => (Br.t ft_ (Br.f ff_ (Br.t ft_ (Br.f ff_ (cu 160 [(0, .str a0), (23, .bool (decide ((bt a0 0) = 48)))] [] rfl rfl rfl (bJ H (fun c H => ?_) (fun c H => ?_))))))))))
  refine cu 176 [(2, .int .i64 0), (3, .bool false)] [] rfl rfl rfl ?_
  cases H
  exact rts rfl
  refine cE.l0_lp (a0 := a0) (k := k) H [] (fq rfl rfl fi_ rfl) ?_
  intro k x4 x26 hk H; rcases k with _ | k; exact bC H; rw [cE.l0] at H
  refine bJ H (fun c H => ?_) (fun c H => ?_)
  refine nd_ H (fun c H => (Nd.mk nf_ (bJ H (fun c H => ?_) (fun c H => ?_))))
  refine Br.t ft_ (Br.t ft_ (Br.t ft_ (Br.t ft_ (cu 296 [(0, .str a0), (4, .int .i64 x4), (5, .int .i64 x26), (25, .int .i64 (a0.size : Int)), (26, .int .i64 x26), (38, .bool true)] [] rfl rfl rfl (Br.t rfl (cu 312 [(2, .int .i64 0), (3, .bool false)] [] rfl rfl rfl ?_))))))
  cases H
  exact rts rfl
  refine Br.f ff_ (Br.f ff_ (Nd.mk nf_ (Nd.mk nf_ (Br.f ff_ (Br.f ff_ (cu 296 [(0, .str a0), (4, .int .i64 x4), (5, .int .i64 x26), (25, .int .i64 (a0.size : Int)), (26, .int .i64 x26), (38, .bool (decide ((bt a0 x26) > 57)))] [] rfl rfl rfl (bJ H (fun c H => ?_) (fun c H => ?_))))))))
  refine cu 312 [(2, .int .i64 0), (3, .bool false)] [] rfl rfl rfl ?_
  cases H
  exact rts rfl
  refine Nd.mk nf_ (Nd.mk nf_ (⟨(k, wrap64 ((wrap64 (10 * x4)) + (wrap64 (IntKind.wrap .u8 ((bt a0 x26) - 48)))), wrap64 (x26 + 1)), [], ⟨H, lt_⟩, lt_, (fq rfl rfl fi_ rfl)⟩))
  cases H
  exact rts rfl
  refine Br.f ff_ (Br.f ff_ (Br.f ff_ (Br.f ff_ (Br.f ff_ (cu 160 [(0, .str a0), (23, .bool false)] [] rfl rfl rfl (Br.f rfl (cE.l1_lp (a0 := a0) (k := k) H [] (fq rfl rfl fi_ rfl) ?_)))))))
  intro k E0 E2 hk H; rcases k with _ | k; exact bC H; rw [cE.l1] at H
  refine bJ H (fun c H => ?_) (fun c H => ?_)
  refine nd_ H (fun c H => (Nd.mk nf_ (bJ H (fun c H => ?_) (fun c H => ?_))))
  refine Br.t ft_ (Br.t ft_ (Br.t ft_ (Br.t ft_ (cu 296 [(0, .str a0), (4, .int .i64 E0), (5, .int .i64 E2), (25, .int .i64 (a0.size : Int)), (26, .int .i64 E2), (38, .bool true)] [] rfl rfl rfl (Br.t rfl (cu 312 [(2, .int .i64 0), (3, .bool false)] [] rfl rfl rfl ?_))))))
  cases H
  exact rts rfl
  refine Br.f ff_ (Br.f ff_ (Nd.mk nf_ (Nd.mk nf_ (Br.f ff_ (Br.f ff_ (cu 296 [(0, .str a0), (4, .int .i64 E0), (5, .int .i64 E2), (25, .int .i64 (a0.size : Int)), (26, .int .i64 E2), (38, .bool (decide ((bt a0 E2) > 57)))] [] rfl rfl rfl (bJ H (fun c H => ?_) (fun c H => ?_))))))))
  refine cu 312 [(2, .int .i64 0), (3, .bool false)] [] rfl rfl rfl ?_
  cases H
  exact rts rfl
  refine Nd.mk nf_ (Nd.mk nf_ (⟨(k, wrap64 ((wrap64 (10 * E0)) + (wrap64 (IntKind.wrap .u8 ((bt a0 E2) - 48)))), wrap64 (E2 + 1)), [], ⟨H, lt_⟩, lt_, (fq rfl rfl fi_ rfl)⟩))
  cases H
  exact rts rfl
theorem bZ.l0_lp {F : (Exit → St → Prop) → St → Prop} {hv : List Tmp} {Q : Exit → St → Prop} {σ : St} {r : Bool} {k : Nat} {a0 : ByteArray} {x7 : Int} (H : bZ.l0 k a0 x7 = some r) (rn : List (Option Nat)) (h1 : cG σ σ [] [(7, .int .i64 x7)] [] [] rn)
    (h2 : ∀ (k0 : Nat) (x7 : Int), k0 < k + 1 → bZ.l0 k0 a0 x7 = some r → dL σ hv [] [(7, .int .i64 x7)] [] [] (F (fun e σ' => match e with | .normal => ∃ (y : Nat × Int) (rn : List (Option Nat)), (bZ.l0 y.1 a0 y.2 = some r ∧ y.1 < k + 1) ∧ y.1 < k0 ∧ cG σ σ' [] [(7, .int .i64 y.2)] [] [] rn | e => Q e σ'))) : Lp F hv Q σ := by
  unfold Lp
  refine ⟨Nat × Int, fun x => bZ.l0 x.1 a0 x.2 = some r ∧ x.1 < k + 1, fun x => x.1, [], fun x => [(7, .int .i64 x.2)], fun x => [], fun x => [], ⟨(k, x7), rn, ⟨H, Nat.lt_succ_self _⟩, h1⟩, ?_⟩
  rintro ⟨k, x7⟩ ⟨H, hk⟩
  exact h2 k x7 hk H
theorem bZ.ac {k : Nat} {a0 : ByteArray} {r : Bool} (H : bZ.f k a0 = some r) : cI Tryz.prog G 25 [] [.str a0] [] (.bool r) := by
  refine bO tok hP Tryz.func25 rfl (by kernel_rfl) [.tmp 2] rfl (by kernel_rfl) (Nat.le_of_ble_eq_true rfl) (.l .n (.l (.l .n (.l .n (.l .n (.l (.l .n (.c .n (.c .n (.l (.c .n .n) .n)))) .n)))) (.c .n .n))) rfl ?_
  unfold bZ.f at H
  refine bZ.l0_lp (a0 := a0) (k := k) H [] (fq rfl rfl fi_ rfl) ?_
  intro k x7 hk H; rcases k with _ | k; exact bC H; rw [bZ.l0] at H
  refine bJ H (fun c H => ?_) (fun c H => ?_)
  refine nd_ H (fun c H => (Nd.mk nf_ (cu 88 [(0, .str a0), (4, .int .u8 (bt a0 x7)), (6, .int .i64 (a0.size : Int)), (7, .int .i64 x7)] [] rfl rfl rfl (bJ H (fun c H => ?_) (fun c H => ?_)))))
  refine Br.t ft_ (Br.t ft_ (Br.t rfl (Br.t rfl (Br.t rfl (bJ H (fun c H => ?_) (fun c H => ?_))))))
  refine Br.t ft_ (Br.t rfl (Br.t ft_ (Br.t rfl (Br.t rfl (Br.t rfl (Br.t rfl (cu 232 [(0, .str a0), (6, .int .i64 (a0.size : Int)), (7, .int .i64 x7), (30, .bool (!(decide ((bt a0 x7) = 45))))] [] rfl rfl rfl (iS H (fun c H => ?_) (fun c H => ?_)))))))))
  exact ⟨(k, wrap64 (x7 + 1)), [], ⟨H, lt_⟩, lt_, (fq rfl rfl fi_ rfl)⟩
  refine cu 240 [(2, .bool false)] [] rfl rfl rfl ?_
  cases H
  exact rz rfl
  refine Br.f ff_ (Br.t rfl (Br.f ff_ (Br.t rfl (bJ H (fun c H => ?_) (fun c H => ?_)))))
  refine Br.t ft_ (Br.t ft_ (cu 232 [(0, .str a0), (6, .int .i64 (a0.size : Int)), (7, .int .i64 x7), (30, .bool (!(decide ((bt a0 x7) = 45))))] [] rfl rfl rfl (iS H (fun c H => ?_) (fun c H => ?_))))
  exact ⟨(k, wrap64 (x7 + 1)), [], ⟨H, lt_⟩, lt_, (fq rfl rfl fi_ rfl)⟩
  refine cu 240 [(2, .bool false)] [] rfl rfl rfl ?_
  cases H
  exact rz rfl
  refine Br.f ff_ (Br.f ff_ (cu 232 [(0, .str a0), (6, .int .i64 (a0.size : Int)), (7, .int .i64 x7), (30, .bool false)] [] rfl rfl rfl (Br.f rfl (⟨(k, wrap64 (x7 + 1)), [], ⟨H, lt_⟩, lt_, (fq rfl rfl fi_ rfl)⟩))))
  refine Br.f ff_ (Br.f ff_ (bJ H (fun c H => ?_) (fun c H => ?_)))
  refine Br.t ft_ (Br.t ft_ (bJ H (fun c H => ?_) (fun c H => ?_)))
  refine Br.t ft_ (Br.t ft_ (Br.t ft_ (Br.t ft_ (Br.t rfl (Br.t rfl (Br.t rfl (cu 232 [(0, .str a0), (6, .int .i64 (a0.size : Int)), (7, .int .i64 x7), (30, .bool (!(decide ((bt a0 x7) = 45))))] [] rfl rfl rfl (iS H (fun c H => ?_) (fun c H => ?_)))))))))
  exact ⟨(k, wrap64 (x7 + 1)), [], ⟨H, lt_⟩, lt_, (fq rfl rfl fi_ rfl)⟩
  refine cu 240 [(2, .bool false)] [] rfl rfl rfl ?_
  cases H
  exact rz rfl
  refine Br.f ff_ (Br.t ft_ (Br.f ff_ (Br.t ft_ (bJ H (fun c H => ?_) (fun c H => ?_)))))
  refine Br.t ft_ (Br.t ft_ (cu 232 [(0, .str a0), (6, .int .i64 (a0.size : Int)), (7, .int .i64 x7), (30, .bool (!(decide ((bt a0 x7) = 45))))] [] rfl rfl rfl (iS H (fun c H => ?_) (fun c H => ?_))))
  exact ⟨(k, wrap64 (x7 + 1)), [], ⟨H, lt_⟩, lt_, (fq rfl rfl fi_ rfl)⟩
  refine cu 240 [(2, .bool false)] [] rfl rfl rfl ?_
  cases H
  exact rz rfl
  refine Br.f ff_ (Br.f ff_ (cu 232 [(0, .str a0), (6, .int .i64 (a0.size : Int)), (7, .int .i64 x7), (30, .bool false)] [] rfl rfl rfl (Br.f rfl (⟨(k, wrap64 (x7 + 1)), [], ⟨H, lt_⟩, lt_, (fq rfl rfl fi_ rfl)⟩))))
  refine Br.f ff_ (Br.f ff_ (Br.f ff_ (Br.f ff_ (Br.f rfl (Br.f rfl (Br.f rfl (cu 232 [(0, .str a0), (6, .int .i64 (a0.size : Int)), (7, .int .i64 x7), (30, .bool false)] [] rfl rfl rfl (Br.f rfl (⟨(k, wrap64 (x7 + 1)), [], ⟨H, lt_⟩, lt_, (fq rfl rfl fi_ rfl)⟩)))))))))
  refine bJ H (fun c H => ?_) (fun c H => ?_)
  refine Br.t ft_ (Br.t ft_ (Br.t ft_ (cu 112 [(2, .bool (decide ((a0.size : Int) ≤ 8)))] [] rfl rfl rfl ?_)))
  cases H
  exact rz rfl
  refine Br.f ff_ (Br.f ff_ (Br.f ff_ (cu 112 [(2, .bool false)] [] rfl rfl rfl ?_)))
  cases H
  exact rz rfl
theorem bH.l0_lp {F : (Exit → St → Prop) → St → Prop} {hv : List Tmp} {Q : Exit → St → Prop} {σ : St} {r : Int} {k : Nat} {l0 : List ByteArray} {a1 : ByteArray} {x8 : Int} (H : bH.l0 k l0 a1 x8 = some r) (rn : List (Option Nat)) (h1 : cG σ σ [] [(8, .int .i64 x8)] [] [] rn)
    (h2 : ∀ (k0 : Nat) (x8 : Int), k0 < k + 1 → bH.l0 k0 l0 a1 x8 = some r → dL σ hv [] [(8, .int .i64 x8)] [] [] (F (fun e σ' => match e with | .normal => ∃ (y : Nat × Int) (rn : List (Option Nat)), (bH.l0 y.1 l0 a1 y.2 = some r ∧ y.1 < k + 1) ∧ y.1 < k0 ∧ cG σ σ' [] [(8, .int .i64 y.2)] [] [] rn | e => Q e σ'))) : Lp F hv Q σ := by
  unfold Lp
  refine ⟨Nat × Int, fun x => bH.l0 x.1 l0 a1 x.2 = some r ∧ x.1 < k + 1, fun x => x.1, [], fun x => [(8, .int .i64 x.2)], fun x => [], fun x => [], ⟨(k, x8), rn, ⟨H, Nat.lt_succ_self _⟩, h1⟩, ?_⟩
  rintro ⟨k, x8⟩ ⟨H, hk⟩
  exact h2 k x8 hk H
theorem bH.ac {k : Nat} {l0 : List ByteArray} {a1 : ByteArray} {r : Int} (H : bH.f k l0 a1 = some r) : cI Tryz.prog G 73 [] [(aM l0), .str a1] [] (.int .i64 r) := by
  refine bO tok hP Tryz.func73 rfl (by kernel_rfl) [.tmp 4] rfl (by kernel_rfl) (Nat.le_of_ble_eq_true rfl) (.l .n (.l (.l .n (.l .n (.l .n (.l (.l .n (.c .n .n)) .n)))) .n)) rfl ?_
  unfold bH.f at H
  refine bH.l0_lp (l0 := l0) (a1 := a1) (k := k) H [] (fq rfl rfl fi_ rfl) ?_
  intro k x8 hk H; rcases k with _ | k; exact bC H; rw [bH.l0] at H
  refine bJ H (fun c H => ?_) (fun c H => ?_)
  refine nd_ H (fun c H => (Nd.mk nf_ (El.mk (aV _ _ nf_ nf_) (cu 104 [(0, (aM l0)), (1, .str a1), (5, .int .i64 x8), (7, .int .i64 (l0.length : Int)), (8, .int .i64 x8), (16, .bool (decide (a1.toList = (aP ByteArray.empty l0 x8).toList)))] [] rfl rfl rfl (bJ H (fun c H => ?_) (fun c H => ?_))))))
  cases H
  exact rz rfl
  exact ⟨(k, wrap64 (x8 + 1)), [], ⟨H, lt_⟩, lt_, (fq rfl rfl fi_ rfl)⟩
  cases H
  exact rz rfl
theorem eJ.ac {k : Nat} {l0 : List ByteArray} {a1 : ByteArray} {r : Bool} (H : eJ.f k l0 a1 = some r) : cI Tryz.prog G 50 [] [(aM l0), .str a1] [] (.bool r) := by
  refine bO tok hP Tryz.func50 rfl (by kernel_rfl) [.tmp 4] rfl (by kernel_rfl) (Nat.le_of_ble_eq_true rfl) .n rfl ?_
  unfold eJ.f at H
  revert H; refine aN (fun W3 A H => (cmk (bH.ac A) rfl rfl ?_))
  cases H
  exact rz rfl
theorem gF.ac {k : Nat} {l0 : List ByteArray} {a1 : ByteArray} {r : Bool} (H : gF.f k l0 a1 = some r) : cI Tryz.prog G 24 [] [(aM l0), .str a1] [] (.bool r) := by
  refine bO tok hP Tryz.func24 rfl (by kernel_rfl) [.tmp 4] rfl (by kernel_rfl) (Nat.le_of_ble_eq_true rfl) .n rfl ?_
  unfold gF.f at H
  revert H; refine aN (fun W4 A H => (cmk (eJ.ac A) rfl rfl ?_))
  cases H
  exact rz rfl
end Go.Proofs.YtnobkcplpbkigaaGreatDoor.PT
namespace Go.Proofs
open Go.Shelf Go.Sort Go.RowKit in
shelf_lay Lays.n192 Nm 192 at Tryz as Tryz.gx192
end Go.Proofs
namespace Go.Proofs.YtnobkcplpbkigaaGreatDoor.PT
open Go Go.Aw Go.RowKit Go.Proofs
set_option maxRecDepth 100000
set_option maxHeartbeats 40000000
variable {G : Nat → Option Obj}
attribute [local irreducible] jW Lp Sq Cut lH lA cG
theorem sort_Strings.ac {l0 : List ByteArray} {r : List ByteArray} (H : sort_Strings.f l0 = some r) : cI Tryz.prog G 76 [.arr 9 1 (l0.map aR)] [.own 0 l0.length] [.arr 9 1 (r.map aR)] .und := by
  exact yQ Tryz.gx192 ⟨_, Tryz.func76, by kernel_rfl, by kernel_rfl⟩ G 9 rfl H (fun _ => rfl)
theorem eQ.l0_lpO {F : (Exit → St → Prop) → St → Prop} {hv : List Tmp} {Q : Exit → St → Prop} {σ : St} {r : List ByteArray} {k : Nat} {l0 : List ByteArray} {l1 : List ByteArray} {x5 : List ByteArray} {x12 : Int} (H : eQ.l0 k l0 l1 x5 x12 = some r) (rn : List (Option Nat)) (h1 : cG σ σ [16] [(5, .own 0 x5.length), (12, .int .i64 x12)] [] [.arr 9 1 (x5.map aR)] rn)
    (h2 : ∀ (k0 : Nat) (x5 : List ByteArray) (x12 : Int), k0 < k + 1 → eQ.l0 k0 l0 l1 x5 x12 = some r → dL σ hv [16] [(5, .own 0 x5.length), (12, .int .i64 x12)] [] [.arr 9 1 (x5.map aR)] (F (fun e σ' => match e with | .normal => ∃ (y : Nat × (List ByteArray) × Int) (rn : List (Option Nat)), (eQ.l0 y.1 l0 l1 y.2.1 y.2.2 = some r ∧ y.1 < k + 1) ∧ y.1 < k0 ∧ cG σ σ' [16] [(5, .own 0 y.2.1.length), (12, .int .i64 y.2.2)] [] [.arr 9 1 (y.2.1.map aR)] rn | e => Q e σ'))) : Lp F hv Q σ := by
  unfold Lp
  refine ⟨Nat × (List ByteArray) × Int, fun x => eQ.l0 x.1 l0 l1 x.2.1 x.2.2 = some r ∧ x.1 < k + 1, fun x => x.1, [16], fun x => [(5, .own 0 x.2.1.length), (12, .int .i64 x.2.2)], fun x => [], fun x => [.arr 9 1 (x.2.1.map aR)], ⟨(k, x5, x12), rn, ⟨H, Nat.lt_succ_self _⟩, h1⟩, ?_⟩
  rintro ⟨k, x5, x12⟩ ⟨H, hk⟩
  exact h2 k x5 x12 hk H
theorem eQ.acO {k : Nat} {l0 : List ByteArray} {l1 : List ByteArray} {r : List ByteArray} (H : eQ.f k l0 l1 = some r) : cI Tryz.prog G 59 [] [(aM l0), (aM l1)] [.arr 9 1 (r.map aR)] (.own 0 r.length) := by
  refine bO tok hP Tryz.func59 rfl (by kernel_rfl) [.tmp 4] rfl (by kernel_rfl) (Nat.le_of_ble_eq_true rfl) (.l .n (.l .n (.l (.l .n (.l .n (.l .n (.l (.c .n .n) .n)))) (.c .n .n)))) rfl ?_
  unfold eQ.f at H
  refine nd_ H (fun c H => (eQ.l0_lpO (l0 := l0) (l1 := l1) (k := k) H [some 16] (bR ⟨fY lm_, ⟨.inl ⟨rfl, rfl⟩, trivial⟩⟩ ⟨fm_, trivial⟩ fi_ trivial rfl) ?_))
  intro k x5 x12 hk H; rcases k with _ | k; exact bC H; rw [eQ.l0] at H
  refine bJ H (fun c H => ?_) (fun c H => ?_)
  refine nd_ H (fun c H => (Nd.mk nf_ (El.mk (aV _ _ nf_ nf_) (cu 89 [(5, .own 56 x5.length), (7, .str (aP ByteArray.empty l1 x12)), (10, (aM l1)), (11, .int .i64 (l1.length : Int)), (12, .int .i64 x12)] [(56, .arr 9 1 (x5.map aR))] rfl rfl rfl ?_))))
  revert H; refine aN (fun W5 A H => (fA (gF.ac A) (bP (oM rfl rfl) (bP (gR rfl) (eK))) (Or.inr ⟨rfl, lC⟩) rfl rfl (Nat.le_of_ble_eq_true rfl) (dU H (fun c H => ?_) (fun c H => ?_))))
  exact ⟨(k, x5, wrap64 (x12 + 1)), [some 56], ⟨H, lt_⟩, lt_, (bR ⟨rfl, ⟨.inl ⟨rfl, rfl⟩, trivial⟩⟩ ⟨rfl, trivial⟩ fi_ trivial rfl)⟩
  refine Or.inl (nd_ H (fun c H => (⟨(k, (x5 ++ ([aP ByteArray.empty l1 x12] : List ByteArray)), wrap64 (x12 + 1)), [some 145], ⟨H, lt_⟩, lt_, (bR ⟨fY lm_, ⟨.inl ⟨rfl, rfl⟩, trivial⟩⟩ ⟨fm_, trivial⟩ fi_ trivial rfl)⟩)))
  revert H; refine aN (fun S5 A H => (cM [56] (sort_Strings.ac A) ⟨rfl, trivial⟩ rfl rfl rfl rfl rfl rfl rfl rfl ?_))
  have Lt6284 := aEJ A
  refine cu 81 [(5, .own 56 x5.length)] [(56, .arr 9 1 (S5.map aR))] rfl rfl rfl ?_
  cases H
  exact fT [some 56] [] ((fY lm_)) ⟨rfl, trivial⟩ rfl
theorem bK.l0_lp {F : (Exit → St → Prop) → St → Prop} {hv : List Tmp} {Q : Exit → St → Prop} {σ : St} {r : List bW} {k : Nat} {a8 : List aD} {x2 : List bW} {x8 : Int} (H : bK.l0 k a8 x2 x8 = some r) (rn : List (Option Nat)) (h1 : cG σ σ [0] [(2, .own 0 x2.length), (8, .int .i64 x8)] [] [.arr 79 2 (x2.map eE)] rn)
    (h2 : ∀ (k0 : Nat) (x2 : List bW) (x8 : Int), k0 < k + 1 → bK.l0 k0 a8 x2 x8 = some r → dL σ hv [0] [(2, .own 0 x2.length), (8, .int .i64 x8)] [] [.arr 79 2 (x2.map eE)] (F (fun e σ' => match e with | .normal => ∃ (y : Nat × (List bW) × Int) (rn : List (Option Nat)), (bK.l0 y.1 a8 y.2.1 y.2.2 = some r ∧ y.1 < k + 1) ∧ y.1 < k0 ∧ cG σ σ' [0] [(2, .own 0 y.2.1.length), (8, .int .i64 y.2.2)] [] [.arr 79 2 (y.2.1.map eE)] rn | e => Q e σ'))) : Lp F hv Q σ := by
  unfold Lp
  refine ⟨Nat × (List bW) × Int, fun x => bK.l0 x.1 a8 x.2.1 x.2.2 = some r ∧ x.1 < k + 1, fun x => x.1, [0], fun x => [(2, .own 0 x.2.1.length), (8, .int .i64 x.2.2)], fun x => [], fun x => [.arr 79 2 (x.2.1.map eE)], ⟨(k, x2, x8), rn, ⟨H, Nat.lt_succ_self _⟩, h1⟩, ?_⟩
  rintro ⟨k, x2, x8⟩ ⟨H, hk⟩
  exact h2 k x2 x8 hk H
theorem bK.ac {k : Nat} {b8 : List ByteArray} {a8 : List aD} {a9 : List aB} {a7 : List aA} {r : List bW} (H : bK.f k b8 a8 a9 a7 = some r) : cI Tryz.prog G 23 [] [.agg [(aM b8), (aF a8), (aC a9), (aE a7)]] [] ((dJ r)) := by
  refine bO tok hP Tryz.func23 rfl (by kernel_rfl) [.tmp 2] rfl (by kernel_rfl) (Nat.le_of_ble_eq_true rfl) (.l .n (.l (.l .n (.l .n (.l .n (.l (.c .n .n) .n)))) .n)) rfl ?_
  unfold bK.f at H
  refine bK.l0_lp (a8 := a8) (k := k) H [none] (bR ⟨⟨rfl, rfl⟩, ⟨.inl ⟨rfl, rfl⟩, trivial⟩⟩ ⟨rfl, trivial⟩ fi_ trivial rfl) ?_
  intro k x2 x8 hk H; rcases k with _ | k; exact bC H; rw [bK.l0] at H
  refine bJ H (fun c H => ?_) (fun c H => ?_)
  refine nd_ H (fun c H => (Nd.mk nf_ (El.mk (cA _ _ nf_ nf_) (cu 89 [(2, .own 48 x2.length), (4, .bp 73 0), (6, (aF a8)), (7, .int .i64 (a8.length : Int)), (8, .int .i64 x8)] [(48, .arr 79 2 (x2.map eE)), (73, .box [.str ((aQ a8 x8).f0), .str ((aQ a8 x8).f1)])] rfl rfl rfl (Or.inl (nd_ H (fun c H => (⟨(k, (x2 ++ ([(⟨(aQ a8 x8).f0, (aQ a8 x8).f1⟩ : bW)] : List bW)), wrap64 (x8 + 1)), [some 145], ⟨H, lt_⟩, lt_, (bR ⟨fY lm_, ⟨.inl ⟨rfl, rfl⟩, trivial⟩⟩ ⟨fm_, trivial⟩ fi_ trivial rfl)⟩))))))))
  cases H
  exact oD [48] (nD rfl rfl)
theorem bK.l0_lpO {F : (Exit → St → Prop) → St → Prop} {hv : List Tmp} {Q : Exit → St → Prop} {σ : St} {r : List bW} {k : Nat} {a8 : List aD} {x2 : List bW} {x8 : Int} (H : bK.l0 k a8 x2 x8 = some r) (rn : List (Option Nat)) (h1 : cG σ σ [0] [(2, .own 0 x2.length), (8, .int .i64 x8)] [] [.arr 79 2 (x2.map eE)] rn)
    (h2 : ∀ (k0 : Nat) (x2 : List bW) (x8 : Int), k0 < k + 1 → bK.l0 k0 a8 x2 x8 = some r → dL σ hv [0] [(2, .own 0 x2.length), (8, .int .i64 x8)] [] [.arr 79 2 (x2.map eE)] (F (fun e σ' => match e with | .normal => ∃ (y : Nat × (List bW) × Int) (rn : List (Option Nat)), (bK.l0 y.1 a8 y.2.1 y.2.2 = some r ∧ y.1 < k + 1) ∧ y.1 < k0 ∧ cG σ σ' [0] [(2, .own 0 y.2.1.length), (8, .int .i64 y.2.2)] [] [.arr 79 2 (y.2.1.map eE)] rn | e => Q e σ'))) : Lp F hv Q σ := by
  unfold Lp
  refine ⟨Nat × (List bW) × Int, fun x => bK.l0 x.1 a8 x.2.1 x.2.2 = some r ∧ x.1 < k + 1, fun x => x.1, [0], fun x => [(2, .own 0 x.2.1.length), (8, .int .i64 x.2.2)], fun x => [], fun x => [.arr 79 2 (x.2.1.map eE)], ⟨(k, x2, x8), rn, ⟨H, Nat.lt_succ_self _⟩, h1⟩, ?_⟩
  rintro ⟨k, x2, x8⟩ ⟨H, hk⟩
  exact h2 k x2 x8 hk H
theorem bK.acO {k : Nat} {b8 : List ByteArray} {a8 : List aD} {a9 : List aB} {a7 : List aA} {r : List bW} (H : bK.f k b8 a8 a9 a7 = some r) : cI Tryz.prog G 23 [] [.agg [(aM b8), (aF a8), (aC a9), (aE a7)]] [.arr 79 2 (r.map eE)] (.own 0 r.length) := by
  refine bO tok hP Tryz.func23 rfl (by kernel_rfl) [.tmp 2] rfl (by kernel_rfl) (Nat.le_of_ble_eq_true rfl) (.l .n (.l (.l .n (.l .n (.l .n (.l (.c .n .n) .n)))) .n)) rfl ?_
  unfold bK.f at H
  refine bK.l0_lpO (a8 := a8) (k := k) H [none] (bR ⟨⟨rfl, rfl⟩, ⟨.inl ⟨rfl, rfl⟩, trivial⟩⟩ ⟨rfl, trivial⟩ fi_ trivial rfl) ?_
  intro k x2 x8 hk H; rcases k with _ | k; exact bC H; rw [bK.l0] at H
  refine bJ H (fun c H => ?_) (fun c H => ?_)
  refine nd_ H (fun c H => (Nd.mk nf_ (El.mk (cA _ _ nf_ nf_) (cu 89 [(2, .own 48 x2.length), (4, .bp 73 0), (6, (aF a8)), (7, .int .i64 (a8.length : Int)), (8, .int .i64 x8)] [(48, .arr 79 2 (x2.map eE)), (73, .box [.str ((aQ a8 x8).f0), .str ((aQ a8 x8).f1)])] rfl rfl rfl (Or.inl (nd_ H (fun c H => (⟨(k, (x2 ++ ([(⟨(aQ a8 x8).f0, (aQ a8 x8).f1⟩ : bW)] : List bW)), wrap64 (x8 + 1)), [some 145], ⟨H, lt_⟩, lt_, (bR ⟨fY lm_, ⟨.inl ⟨rfl, rfl⟩, trivial⟩⟩ ⟨fm_, trivial⟩ fi_ trivial rfl)⟩))))))))
  cases H
  exact fT [some 48] [] ((rfl)) ⟨rfl, trivial⟩ rfl
theorem fC.l0_lp {F : (Exit → St → Prop) → St → Prop} {hv : List Tmp} {Q : Exit → St → Prop} {σ : St} {r : Bool} {k : Nat} {l0 : List bW} {a1 : ByteArray} {a2 : ByteArray} {x11 : Int} (H : fC.l0 k l0 a1 a2 x11 = some r) (rn : List (Option Nat)) (h1 : cG σ σ [] [(11, .int .i64 x11)] [] [] rn)
    (h2 : ∀ (k0 : Nat) (x11 : Int), k0 < k + 1 → fC.l0 k0 l0 a1 a2 x11 = some r → dL σ hv [] [(11, .int .i64 x11)] [] [] (F (fun e σ' => match e with | .normal => ∃ (y : Nat × Int) (rn : List (Option Nat)), (fC.l0 y.1 l0 a1 a2 y.2 = some r ∧ y.1 < k + 1) ∧ y.1 < k0 ∧ cG σ σ' [] [(11, .int .i64 y.2)] [] [] rn | e => Q e σ'))) : Lp F hv Q σ := by
  unfold Lp
  refine ⟨Nat × Int, fun x => fC.l0 x.1 l0 a1 a2 x.2 = some r ∧ x.1 < k + 1, fun x => x.1, [], fun x => [(11, .int .i64 x.2)], fun x => [], fun x => [], ⟨(k, x11), rn, ⟨H, Nat.lt_succ_self _⟩, h1⟩, ?_⟩
  rintro ⟨k, x11⟩ ⟨H, hk⟩
  exact h2 k x11 hk H
theorem fC.ac {k : Nat} {l0 : List bW} {a1 : ByteArray} {a2 : ByteArray} {r : Bool} (H : fC.f k l0 a1 a2 = some r) : cI Tryz.prog G 36 [] [(dJ l0), .str a1, .str a2] [] (.bool r) := by
  refine bO tok hP Tryz.func36 rfl (by kernel_rfl) [.tmp 6] rfl (by kernel_rfl) (Nat.le_of_ble_eq_true rfl) (.l .n (.l (.l .n (.l .n (.l .n (.l (.l .n (.c .n (.l (.c .n .n) .n))) .n)))) .n)) rfl ?_
  unfold fC.f at H
  refine fC.l0_lp (l0 := l0) (a1 := a1) (a2 := a2) (k := k) H [] (fq rfl rfl fi_ rfl) ?_
  intro k x11 hk H; rcases k with _ | k; exact bC H; rw [fC.l0] at H
  refine bJ H (fun c H => ?_) (fun c H => ?_)
  refine nd_ H (fun c H => (Nd.mk nf_ (El.mk (gT _ _ nf_ nf_) (kN H (fun c H => ?_) (fun c H => ?_)))))
  refine Br.t ft_ (Br.t ft_ (Br.t ft_ (Br.t ft_ (Br.t ft_ (cu 168 [(1, .str a1), (2, .str a2), (9, (dJ l0)), (10, .int .i64 (l0.length : Int)), (11, .int .i64 x11), (26, .bool true)] [] rfl rfl rfl (Br.t rfl (cu 176 [(6, .bool true)] [] rfl rfl rfl ?_)))))))
  cases H
  exact rz rfl
  refine Br.f ff_ (Br.f ff_ (Br.f ff_ (Br.f ff_ (Br.f ff_ (cu 168 [(1, .str a1), (2, .str a2), (9, (dJ l0)), (10, .int .i64 (l0.length : Int)), (11, .int .i64 x11), (26, .bool (decide (((cL l0 x11).f0).toList = a2.toList) && (decide (((cL l0 x11).f1).toList = a1.toList) && true)))] [] rfl rfl rfl (kN H (fun c H => ?_) (fun c H => ?_)))))))
  refine cu 176 [(6, .bool true)] [] rfl rfl rfl ?_
  cases H
  exact rz rfl
  exact ⟨(k, wrap64 (x11 + 1)), [], ⟨H, lt_⟩, lt_, (fq rfl rfl fi_ rfl)⟩
  cases H
  exact rz rfl
end Go.Proofs.YtnobkcplpbkigaaGreatDoor.PT
namespace Go.Proofs
open Go.Shelf Go.Sort Go.RowKit in
shelf_lay LaysGg.n6 Ggs 6 at Tryz as Tryz.gx6
end Go.Proofs
namespace Go.Proofs.YtnobkcplpbkigaaGreatDoor.PT
open Go Go.Aw Go.RowKit Go.Proofs
set_option maxRecDepth 100000
set_option maxHeartbeats 40000000
variable {G : Nat → Option Obj}
attribute [local irreducible] jW Lp Sq Cut lH lA cG
theorem dO.less (gb c Bs Pb size : Nat) (W : World) (F0 F1 : Nat → ByteArray) (hb : W.cell? ⟨Bs, 0, none⟩ = some (.pointer (some ⟨Pb, 0, none⟩))) (hp : W.cell? ⟨Pb, 1, none⟩ = some (.slice (some ⟨gb, 0, none⟩) size c))
    (hc0 : ∀ t, t < size → W.cell? ⟨gb, t * 2, none⟩ = some (.string (F0 t))) (hc1 : ∀ t, t < size → W.cell? ⟨gb, t * 2 + 1, none⟩ = some (.string (F1 t))) (hsz : size < 4611686018427387904) (i j : Nat) (hi : i < size) (hj : j < size) :
    Calls Tryz.prog 61 #[.int .i64 i, .int .i64 j, .pointer (some ⟨Bs, 0, none⟩)] W fun e w' => e = .returned (.bool ((Op.bytesLess (F0 i).toList (F0 j).toList || ((F0 i).toList == (F0 j).toList && Op.bytesLess (F1 i).toList (F1 j).toList)))) ∧ ∃ q, w' = W.drewN q := by
  have ci0 := hc0 i hi
  have cj0 := hc0 j hj
  generalize F0 i = x0 at ci0 ⊢
  generalize F0 j = y0 at cj0 ⊢
  have ci1 := hc1 i hi
  have cj1 := hc1 j hj
  generalize F1 i = x1 at ci1 ⊢
  generalize F1 j = y1 at cj1 ⊢
  clear hc0 hc1
  cases h1 : Op.bytesLess x0.toList y0.toList <;> cases h2 : (x0.toList == y0.toList) <;> cases h3 : Op.bytesLess x1.toList y1.toList
  all_goals (
    go_enter Tryz.func61, Tryz.ntmps61
    go_wp2
    go_quiet (fail)
    go_wp2
    go_ret
    exact ⟨rfl, nq, rfl⟩)
noncomputable def dO.ti : TypeInfo := (Tryz.prog.info? 24).get (by kernel_rfl)
noncomputable def dO.te : TypeInfo := (Tryz.prog.info? 47).get (by kernel_rfl)
theorem dO.sw (n : Nat) (h2 : 2 ≤ n) : Lib.swapperK n dO.te 25 = 9 := by
  have a : dO.te.hasPointers = true := by kernel_rfl
  have b : (dO.te.bytes == 8) = false := by kernel_rfl
  have c : (n == 0) = false := by simp; omega
  have d : (n == 1) = false := by simp; omega
  simp [Lib.swapperK, a, b, c, d]
theorem dO.ac {l r : List aD} {x0 : List ByteArray} {x1 : List aB} {x2 : List aA} (H : dO.f l = some r) : lP Tryz.prog G 60 6 [.arr 47 2 (l.map aK), .box [.bp 2 0], .box [.own 3 x0.length, .own 0 l.length, .own 4 x1.length, .own 5 x2.length], .arr 9 1 (x0.map aR), .arr 49 3 (x1.map aI), .arr 52 4 (x2.map aH)] [.ifs 24 0 l.length, .cf 61 1] [.arr 47 2 (r.map aK), .box [.bp 2 0], .box [.own 3 x0.length, .own 0 r.length, .own 4 x1.length, .own 5 x2.length], .arr 9 1 (x0.map aR), .arr 49 3 (x1.map aI), .arr 52 4 (x2.map aH)] .und := by
  obtain ⟨hl, rfl⟩ := aBG H
  have e := (lT (xB aD.f0 aD.f1) l).1
  have h := qX (xs := l) (rest := [.arr 9 1 (x0.map aR), .arr 49 3 (x1.map aI), .arr 52 4 (x2.map aH)]) (cs := [.own 3 x0.length, .own 0 l.length, .own 4 x1.length, .own 5 x2.length]) Tryz.gx6 (n := 60) ⟨_, Tryz.func60, by kernel_rfl, by kernel_rfl⟩ rfl G 24 47 dO.ti dO.te (by kernel_rfl) (by kernel_rfl) (by kernel_rfl) (by kernel_rfl) 25 (fun _ => by kernel_rfl)
    (fun m hm => by
      rcases m with _ | _ | m
      · exact ⟨94, by kernel_rfl⟩
      · exact ⟨95, by kernel_rfl⟩
      · omega)
    (fun m hm => ⟨102, false, by rw [dO.sw m hm]; kernel_rfl, fun args W => run_callFunc_extern Tryz.func102 (by kernel_rfl) (by kernel_rfl) (by kernel_rfl) (e := Extern.ReflectliteSwapper.swap false) (by kernel_rfl) args W⟩)
    aK 2 (fun _ => rfl) (fun _ => rfl) (by kernel_rfl) (fun _ => by kernel_rfl) (pZ aD.f0 aD.f1) (xB aD.f0 aD.f1) 61 (enters_of Tryz.func61 (by kernel_rfl) rfl) 1
    (fun gb c Bs Pb size W F hb hp hc hsz i j hi hj => dO.less gb c Bs Pb size W (fun t => (F t).f0) (fun t => (F t).f1) hb hp (fun t ht => hc t ht 0 _ rfl) (fun t ht => hc t ht 1 _ rfl) hsz i j hi hj) hl rfl
  rw [e]; exact h
theorem bN.l0_lp {F : (Exit → St → Prop) → St → Prop} {hv : List Tmp} {Q : Exit → St → Prop} {σ : St} {r : ByteArray × Int × ByteArray × Bool} {k : Nat} {a9 : List aB} {a1 : ByteArray} {x11 : Int} (H : bN.l0 k a9 a1 x11 = some r) (rn : List (Option Nat)) (h1 : cG σ σ [0] [(11, .int .i64 x11)] [] [] rn)
    (h2 : ∀ (k0 : Nat) (x11 : Int), k0 < k + 1 → bN.l0 k0 a9 a1 x11 = some r → dL σ hv [0] [(11, .int .i64 x11)] [] [] (F (fun e σ' => match e with | .normal => ∃ (y : Nat × Int) (rn : List (Option Nat)), (bN.l0 y.1 a9 a1 y.2 = some r ∧ y.1 < k + 1) ∧ y.1 < k0 ∧ cG σ σ' [0] [(11, .int .i64 y.2)] [] [] rn | e => Q e σ'))) : Lp F hv Q σ := by
  unfold Lp
  refine ⟨Nat × Int, fun x => bN.l0 x.1 a9 a1 x.2 = some r ∧ x.1 < k + 1, fun x => x.1, [0], fun x => [(11, .int .i64 x.2)], fun x => [], fun x => [], ⟨(k, x11), rn, ⟨H, Nat.lt_succ_self _⟩, h1⟩, ?_⟩
  rintro ⟨k, x11⟩ ⟨H, hk⟩
  exact h2 k x11 hk H
theorem bN.ac {k : Nat} {b8 : List ByteArray} {a8 : List aD} {a9 : List aB} {a7 : List aA} {a1 : ByteArray} {r : ByteArray × Int × ByteArray × Bool} (H : bN.f k b8 a8 a9 a7 a1 = some r) : cI Tryz.prog G 26 [] [.agg [(aM b8), (aF a8), (aC a9), (aE a7)], .str a1] [] (.tup [.agg [.str r.1, .int .i64 r.2.1, .str r.2.2.1], .bool r.2.2.2]) := by
  refine bO tok hP Tryz.func26 rfl (by kernel_rfl) [.cell 4 49, .tmp 5] rfl (by kernel_rfl) (Nat.le_of_ble_eq_true rfl) (.l .n (.l (.l .n (.l .n (.l .n (.l (.c .n .n) .n)))) (.c .n .n))) rfl ?_
  unfold bN.f at H
  refine bN.l0_lp (a9 := a9) (a1 := a1) (k := k) H [] (fq rfl rfl fi_ rfl) ?_
  intro k x11 hk H; rcases k with _ | k; exact bC H; rw [bN.l0] at H
  refine bJ H (fun c H => ?_) (fun c H => ?_)
  refine nd_ H (fun c H => (Nd.mk nf_ (El.mk (cF _ _ nf_ nf_) (cu 96 [(1, .str a1), (4, .bp 8 0), (7, .bp 80 0), (9, (aC a9)), (10, .int .i64 (a9.length : Int)), (11, .int .i64 x11)] [(8, .box [.str (⟨#[]⟩ : ByteArray), .int .i64 0, .str (⟨#[]⟩ : ByteArray)]), (80, .box [.str ((aL a9 x11).f0), .int .i64 ((aL a9 x11).f1), .str ((aL a9 x11).f2)])] rfl rfl rfl (bJ H (fun c H => ?_) (fun c H => ?_))))))
  cases H
  exact rts rfl
  exact ⟨(k, wrap64 (x11 + 1)), [], ⟨H, lt_⟩, lt_, (fq rfl rfl fi_ rfl)⟩
  refine cu 88 [(4, .bp 8 0), (5, .bool false)] [(8, .box [.str (⟨#[]⟩ : ByteArray), .int .i64 0, .str (⟨#[]⟩ : ByteArray)])] rfl rfl rfl ?_
  cases H
  exact rts rfl
theorem dC.less (gb c Bs Pb size : Nat) (W : World) (F0 : Nat → ByteArray) (hb : W.cell? ⟨Bs, 0, none⟩ = some (.pointer (some ⟨Pb, 0, none⟩))) (hp : W.cell? ⟨Pb, 2, none⟩ = some (.slice (some ⟨gb, 0, none⟩) size c))
    (hc0 : ∀ t, t < size → W.cell? ⟨gb, t * 3, none⟩ = some (.string (F0 t))) (hsz : size < 4611686018427387904) (i j : Nat) (hi : i < size) (hj : j < size) :
    Calls Tryz.prog 62 #[.int .i64 i, .int .i64 j, .pointer (some ⟨Bs, 0, none⟩)] W fun e w' => e = .returned (.bool (Op.bytesLess (F0 i).toList (F0 j).toList)) ∧ ∃ q, w' = W.drewN q := by
  have ci0 := hc0 i hi
  have cj0 := hc0 j hj
  generalize F0 i = x0 at ci0 ⊢
  generalize F0 j = y0 at cj0 ⊢
  clear hc0
  all_goals (
    go_enter Tryz.func62, Tryz.ntmps62
    go_wp2
    go_quiet (fail)
    go_wp2
    go_ret
    exact ⟨rfl, nq, rfl⟩)
noncomputable def dC.ti : TypeInfo := (Tryz.prog.info? 25).get (by kernel_rfl)
noncomputable def dC.te : TypeInfo := (Tryz.prog.info? 49).get (by kernel_rfl)
theorem dC.sw (n : Nat) (h2 : 2 ≤ n) : Lib.swapperK n dC.te 25 = 9 := by
  have a : dC.te.hasPointers = true := by kernel_rfl
  have b : (dC.te.bytes == 8) = false := by kernel_rfl
  have c : (n == 0) = false := by simp; omega
  have d : (n == 1) = false := by simp; omega
  simp [Lib.swapperK, a, b, c, d]
theorem dC.ac {l r : List aB} {x0 : List ByteArray} {x1 : List aD} {x2 : List aA} (H : dC.f l = some r) : lP Tryz.prog G 60 6 [.arr 49 3 (l.map aI), .box [.bp 2 0], .box [.own 3 x0.length, .own 4 x1.length, .own 0 l.length, .own 5 x2.length], .arr 9 1 (x0.map aR), .arr 47 2 (x1.map aK), .arr 52 4 (x2.map aH)] [.ifs 25 0 l.length, .cf 62 1] [.arr 49 3 (r.map aI), .box [.bp 2 0], .box [.own 3 x0.length, .own 4 x1.length, .own 0 r.length, .own 5 x2.length], .arr 9 1 (x0.map aR), .arr 47 2 (x1.map aK), .arr 52 4 (x2.map aH)] .und := by
  obtain ⟨hl, rfl⟩ := aBG H
  have e := (lT (rN aB.f0) l).1
  have h := qX (xs := l) (rest := [.arr 9 1 (x0.map aR), .arr 47 2 (x1.map aK), .arr 52 4 (x2.map aH)]) (cs := [.own 3 x0.length, .own 4 x1.length, .own 0 l.length, .own 5 x2.length]) Tryz.gx6 (n := 60) ⟨_, Tryz.func60, by kernel_rfl, by kernel_rfl⟩ rfl G 25 49 dC.ti dC.te (by kernel_rfl) (by kernel_rfl) (by kernel_rfl) (by kernel_rfl) 25 (fun _ => by kernel_rfl)
    (fun m hm => by
      rcases m with _ | _ | m
      · exact ⟨94, by kernel_rfl⟩
      · exact ⟨95, by kernel_rfl⟩
      · omega)
    (fun m hm => ⟨102, false, by rw [dC.sw m hm]; kernel_rfl, fun args W => run_callFunc_extern Tryz.func102 (by kernel_rfl) (by kernel_rfl) (by kernel_rfl) (e := Extern.ReflectliteSwapper.swap false) (by kernel_rfl) args W⟩)
    aI 3 (fun _ => rfl) (fun _ => rfl) (by kernel_rfl) (fun _ => by kernel_rfl) (aAO aB.f0) (rN aB.f0) 62 (enters_of Tryz.func62 (by kernel_rfl) rfl) 2
    (fun gb c Bs Pb size W F hb hp hc hsz i j hi hj => dC.less gb c Bs Pb size W (fun t => (F t).f0) hb hp (fun t ht => hc t ht 0 _ rfl) hsz i j hi hj) hl rfl
  rw [e]; exact h
theorem cS.l0_lp {F : (Exit → St → Prop) → St → Prop} {hv : List Tmp} {Q : Exit → St → Prop} {σ : St} {r : ByteArray × ByteArray × ByteArray × ByteArray × Bool} {k : Nat} {a7 : List aA} {a1 : ByteArray} {x11 : Int} (H : cS.l0 k a7 a1 x11 = some r) (rn : List (Option Nat)) (h1 : cG σ σ [0] [(11, .int .i64 x11)] [] [] rn)
    (h2 : ∀ (k0 : Nat) (x11 : Int), k0 < k + 1 → cS.l0 k0 a7 a1 x11 = some r → dL σ hv [0] [(11, .int .i64 x11)] [] [] (F (fun e σ' => match e with | .normal => ∃ (y : Nat × Int) (rn : List (Option Nat)), (cS.l0 y.1 a7 a1 y.2 = some r ∧ y.1 < k + 1) ∧ y.1 < k0 ∧ cG σ σ' [0] [(11, .int .i64 y.2)] [] [] rn | e => Q e σ'))) : Lp F hv Q σ := by
  unfold Lp
  refine ⟨Nat × Int, fun x => cS.l0 x.1 a7 a1 x.2 = some r ∧ x.1 < k + 1, fun x => x.1, [0], fun x => [(11, .int .i64 x.2)], fun x => [], fun x => [], ⟨(k, x11), rn, ⟨H, Nat.lt_succ_self _⟩, h1⟩, ?_⟩
  rintro ⟨k, x11⟩ ⟨H, hk⟩
  exact h2 k x11 hk H
theorem cS.ac {k : Nat} {b8 : List ByteArray} {a8 : List aD} {a9 : List aB} {a7 : List aA} {a1 : ByteArray} {r : ByteArray × ByteArray × ByteArray × ByteArray × Bool} (H : cS.f k b8 a8 a9 a7 a1 = some r) : cI Tryz.prog G 63 [] [.agg [(aM b8), (aF a8), (aC a9), (aE a7)], .str a1] [] (.tup [.agg [.str r.1, .str r.2.1, .str r.2.2.1, .str r.2.2.2.1], .bool r.2.2.2.2]) := by
  refine bO tok hP Tryz.func63 rfl (by kernel_rfl) [.cell 4 52, .tmp 5] rfl (by kernel_rfl) (Nat.le_of_ble_eq_true rfl) (.l .n (.l (.l .n (.l .n (.l .n (.l (.c .n .n) .n)))) (.c .n .n))) rfl ?_
  unfold cS.f at H
  refine cS.l0_lp (a7 := a7) (a1 := a1) (k := k) H [] (fq rfl rfl fi_ rfl) ?_
  intro k x11 hk H; rcases k with _ | k; exact bC H; rw [cS.l0] at H
  refine bJ H (fun c H => ?_) (fun c H => ?_)
  refine nd_ H (fun c H => (Nd.mk nf_ (El.mk (dA _ _ nf_ nf_) (cu 96 [(1, .str a1), (4, .bp 8 0), (7, .bp 80 0), (9, (aE a7)), (10, .int .i64 (a7.length : Int)), (11, .int .i64 x11)] [(8, .box [.str (⟨#[]⟩ : ByteArray), .str (⟨#[]⟩ : ByteArray), .str (⟨#[]⟩ : ByteArray), .str (⟨#[]⟩ : ByteArray)]), (80, .box [.str ((aG a7 x11).f0), .str ((aG a7 x11).f1), .str ((aG a7 x11).f2), .str ((aG a7 x11).f3)])] rfl rfl rfl (bJ H (fun c H => ?_) (fun c H => ?_))))))
  cases H
  exact rts rfl
  exact ⟨(k, wrap64 (x11 + 1)), [], ⟨H, lt_⟩, lt_, (fq rfl rfl fi_ rfl)⟩
  refine cu 88 [(4, .bp 8 0), (5, .bool false)] [(8, .box [.str (⟨#[]⟩ : ByteArray), .str (⟨#[]⟩ : ByteArray), .str (⟨#[]⟩ : ByteArray), .str (⟨#[]⟩ : ByteArray)])] rfl rfl rfl ?_
  cases H
  exact rts rfl
theorem dM.less (gb c Bs Pb size : Nat) (W : World) (F0 : Nat → ByteArray) (hb : W.cell? ⟨Bs, 0, none⟩ = some (.pointer (some ⟨Pb, 0, none⟩))) (hp : W.cell? ⟨Pb, 3, none⟩ = some (.slice (some ⟨gb, 0, none⟩) size c))
    (hc0 : ∀ t, t < size → W.cell? ⟨gb, t * 4, none⟩ = some (.string (F0 t))) (hsz : size < 4611686018427387904) (i j : Nat) (hi : i < size) (hj : j < size) :
    Calls Tryz.prog 64 #[.int .i64 i, .int .i64 j, .pointer (some ⟨Bs, 0, none⟩)] W fun e w' => e = .returned (.bool (Op.bytesLess (F0 i).toList (F0 j).toList)) ∧ ∃ q, w' = W.drewN q := by
  have ci0 := hc0 i hi
  have cj0 := hc0 j hj
  generalize F0 i = x0 at ci0 ⊢
  generalize F0 j = y0 at cj0 ⊢
  clear hc0
  all_goals (
    go_enter Tryz.func64, Tryz.ntmps64
    go_wp2
    go_quiet (fail)
    go_wp2
    go_ret
    exact ⟨rfl, nq, rfl⟩)
noncomputable def dM.ti : TypeInfo := (Tryz.prog.info? 26).get (by kernel_rfl)
noncomputable def dM.te : TypeInfo := (Tryz.prog.info? 52).get (by kernel_rfl)
theorem dM.sw (n : Nat) (h2 : 2 ≤ n) : Lib.swapperK n dM.te 25 = 9 := by
  have a : dM.te.hasPointers = true := by kernel_rfl
  have b : (dM.te.bytes == 8) = false := by kernel_rfl
  have c : (n == 0) = false := by simp; omega
  have d : (n == 1) = false := by simp; omega
  simp [Lib.swapperK, a, b, c, d]
theorem dM.ac {l r : List aA} {x0 : List ByteArray} {x1 : List aD} {x2 : List aB} (H : dM.f l = some r) : lP Tryz.prog G 60 6 [.arr 52 4 (l.map aH), .box [.bp 2 0], .box [.own 3 x0.length, .own 4 x1.length, .own 5 x2.length, .own 0 l.length], .arr 9 1 (x0.map aR), .arr 47 2 (x1.map aK), .arr 49 3 (x2.map aI)] [.ifs 26 0 l.length, .cf 64 1] [.arr 52 4 (r.map aH), .box [.bp 2 0], .box [.own 3 x0.length, .own 4 x1.length, .own 5 x2.length, .own 0 r.length], .arr 9 1 (x0.map aR), .arr 47 2 (x1.map aK), .arr 49 3 (x2.map aI)] .und := by
  obtain ⟨hl, rfl⟩ := aBG H
  have e := (lT (rN aA.f0) l).1
  have h := qX (xs := l) (rest := [.arr 9 1 (x0.map aR), .arr 47 2 (x1.map aK), .arr 49 3 (x2.map aI)]) (cs := [.own 3 x0.length, .own 4 x1.length, .own 5 x2.length, .own 0 l.length]) Tryz.gx6 (n := 60) ⟨_, Tryz.func60, by kernel_rfl, by kernel_rfl⟩ rfl G 26 52 dM.ti dM.te (by kernel_rfl) (by kernel_rfl) (by kernel_rfl) (by kernel_rfl) 25 (fun _ => by kernel_rfl)
    (fun m hm => by
      rcases m with _ | _ | m
      · exact ⟨94, by kernel_rfl⟩
      · exact ⟨95, by kernel_rfl⟩
      · omega)
    (fun m hm => ⟨102, false, by rw [dM.sw m hm]; kernel_rfl, fun args W => run_callFunc_extern Tryz.func102 (by kernel_rfl) (by kernel_rfl) (by kernel_rfl) (e := Extern.ReflectliteSwapper.swap false) (by kernel_rfl) args W⟩)
    aH 4 (fun _ => rfl) (fun _ => rfl) (by kernel_rfl) (fun _ => by kernel_rfl) (aAO aA.f0) (rN aA.f0) 64 (enters_of Tryz.func64 (by kernel_rfl) rfl) 3
    (fun gb c Bs Pb size W F hb hp hc hsz i j hi hj => dM.less gb c Bs Pb size W (fun t => (F t).f0) hb hp (fun t ht => hc t ht 0 _ rfl) hsz i j hi hj) hl rfl
  rw [e]; exact h
theorem dI.l0_lp {F : (Exit → St → Prop) → St → Prop} {hv : List Tmp} {Q : Exit → St → Prop} {σ : St} {r : Int × (List ByteArray) × (List aD) × (List aB) × (List aA)} {k : Nat} {b8 : List ByteArray} {a8 : List aD} {a9 : List aB} {a7 : List aA} {l1 : List ByteArray} {x7 : Int} {x42 : Int} (H : dI.l0 k b8 a8 a9 a7 l1 x7 x42 = some r) (rn : List (Option Nat)) (h1 : cG σ σ [] [(7, .int .i64 x7), (42, .int .i64 x42)] [] [] rn)
    (h2 : ∀ (k0 : Nat) (x7 : Int) (x42 : Int), k0 < k + 1 → dI.l0 k0 b8 a8 a9 a7 l1 x7 x42 = some r → dL σ hv [] [(7, .int .i64 x7), (42, .int .i64 x42)] [] [] (F (fun e σ' => match e with | .normal => ∃ (y : Nat × Int × Int) (rn : List (Option Nat)), (dI.l0 y.1 b8 a8 a9 a7 l1 y.2.1 y.2.2 = some r ∧ y.1 < k + 1) ∧ y.1 < k0 ∧ cG σ σ' [] [(7, .int .i64 y.2.1), (42, .int .i64 y.2.2)] [] [] rn | e => Q e σ'))) : Lp F hv Q σ := by
  unfold Lp
  refine ⟨Nat × Int × Int, fun x => dI.l0 x.1 b8 a8 a9 a7 l1 x.2.1 x.2.2 = some r ∧ x.1 < k + 1, fun x => x.1, [], fun x => [(7, .int .i64 x.2.1), (42, .int .i64 x.2.2)], fun x => [], fun x => [], ⟨(k, x7, x42), rn, ⟨H, Nat.lt_succ_self _⟩, h1⟩, ?_⟩
  rintro ⟨k, x7, x42⟩ ⟨H, hk⟩
  exact h2 k x7 x42 hk H
theorem dI.ac {k : Nat} {b8 : List ByteArray} {a8 : List aD} {a9 : List aB} {a7 : List aA} {l1 : List ByteArray} {r : Int × (List ByteArray) × (List aD) × (List aB) × (List aA)} (H : dI.f k b8 a8 a9 a7 l1 = some r) : lP Tryz.prog G 32 1 [.box [.own 1 b8.length, .own 2 a8.length, .own 3 a9.length, .own 4 a7.length], .arr 9 1 (b8.map aR), .arr 47 2 (a8.map aK), .arr 49 3 (a9.map aI), .arr 52 4 (a7.map aH)] [.bp 0 0, (aM l1)] [.box [.own 1 r.2.1.length, .own 2 r.2.2.1.length, .own 3 r.2.2.2.1.length, .own 4 r.2.2.2.2.length], .arr 9 1 (r.2.1.map aR), .arr 47 2 (r.2.2.1.map aK), .arr 49 3 (r.2.2.2.1.map aI), .arr 52 4 (r.2.2.2.2.map aH)] (.int .i64 r.1) := by
  refine aAB 1 tok hP Tryz.func32 rfl (by kernel_rfl) [.tmp 4] rfl (by kernel_rfl) (Nat.le_of_ble_eq_true rfl) (Nat.le_of_ble_eq_true rfl) (.l .n (.c .n (.l .n (.l .n (.l .n (.l (.c .n (.l .n (.l .n (.l (.l .n (.c .n (.l (.c .n (.l (.c .n (.l (.c .n .n) .n)) .n)) (.c .n .n)))) .n)))) (.c (.l .n (.l .n (.l (.l (.c .n .n) .n) (.l .n (.l (.c .n (.l (.l .n (.l .n (.c .n (.l .n (.c .n (.l (.c .n .n) (.c .n .n))))))) (.c (.w [2]) .n))) (.l (.c .n .n) (.l (.l (.c .n .n) (.l .n (.c (.w [3]) .n))) (.l .n (.l (.c .n (.c .n (.c .n (.c .n (.l (.l .n (.l .n (.l .n (.l .n (.c .n (.l (.c .n .n) (.c .n .n))))))) (.c (.w [4]) .n)))))) .n))))))))) (.c .n .n)))))))) rfl ?_
  unfold dI.f at H
  refine ⟨pC, rfl, ?_⟩
  refine ⟨pC, rfl, ?_⟩
  refine ⟨pC, rfl, ?_⟩
  refine ⟨pC, rfl, ?_⟩
  refine ⟨pC, rfl, ?_⟩
  refine Nd.mk (by decide) (nd_ H (fun c H => (El.mk (aV _ _ nf_ nf_) (⟨pC, ?_⟩))))
  refine cu 149 [(1, (aM l1)), (2, .bp 5 0), (5, .int .i64 (mpG ([((⟨#[115, 116, 117, 102, 102]⟩ : ByteArray), 2), ((⟨#[102, 111, 101]⟩ : ByteArray), 3), ((⟨#[118, 101, 115, 115, 101, 108]⟩ : ByteArray), 4), ((⟨#[106, 111, 105, 110, 116]⟩ : ByteArray), 3), ((⟨#[118, 97, 108, 118, 101]⟩ : ByteArray), 5)] : List (ByteArray × Int)) (aP ByteArray.empty l1 0))), (6, .bool (mpH ([((⟨#[115, 116, 117, 102, 102]⟩ : ByteArray), 2), ((⟨#[102, 111, 101]⟩ : ByteArray), 3), ((⟨#[118, 101, 115, 115, 101, 108]⟩ : ByteArray), 4), ((⟨#[106, 111, 105, 110, 116]⟩ : ByteArray), 3), ((⟨#[118, 97, 108, 118, 101]⟩ : ByteArray), 5)] : List (ByteArray × Int)) (aP ByteArray.empty l1 0)))] [(0, .box [.own 1 b8.length, .own 2 a8.length, .own 3 a9.length, .own 4 a7.length]), (1, .arr 9 1 (b8.map aR)), (2, .arr 47 2 (a8.map aK)), (3, .arr 49 3 (a9.map aI)), (4, .arr 52 4 (a7.map aH)), (5, .box [.bp 0 0])] rfl rfl rfl (dU H (fun c H => ?_) (fun c H => ?_))
  refine iS H (fun c H => ?_) (fun c H => ?_)
  refine Nd.mk (by decide) (nd_ H (fun c H => (jD 237 [(1, (aM l1)), (2, .bp 5 0), (7, .int .i64 0), (40, .sl 1 (l1.length - (1 : Int).toNat) ((l1.drop (1 : Int).toNat).map aR)), (41, .int .i64 (((l1.length - (1 : Int).toNat) : Nat) : Int)), (42, .int .i64 0)] [(0, .box [.own 1 b8.length, .own 2 a8.length, .own 3 a9.length, .own 4 a7.length]), (1, .arr 9 1 (b8.map aR)), (2, .arr 47 2 (a8.map aK)), (3, .arr 49 3 (a9.map aI)), (4, .arr 52 4 (a7.map aH)), (5, .box [.bp 0 0])] rfl ⟨.inl rfl, ⟨.inl rfl, ⟨.inl rfl, ⟨aME rfl lm_ lm_, ⟨.inl rfl, ⟨.inl rfl, trivial⟩⟩⟩⟩⟩⟩ ⟨rfl, ⟨rfl, ⟨rfl, ⟨rfl, ⟨rfl, ⟨rfl, trivial⟩⟩⟩⟩⟩⟩ (dI.l0_lp (b8 := b8) (a8 := a8) (a9 := a9) (a7 := a7) (l1 := l1) (k := k) H [] (fq rfl rfl fi_ rfl) ?_))))
  intro k x7 x42 hk H; rcases k with _ | k; exact bC H; rw [dI.l0] at H
  refine bJ H (fun c H => ?_) (fun c H => ?_)
  refine nd_ H (fun c H => (Nd.mk nf_ (El.mk (aV _ _ nf_ nf_) (Nd.mk (by decide) (Nd.mk nf_ (El.mk (aV _ _ nf_ nf_) (bJ H (fun c H => ?_) (fun c H => ?_))))))))
  refine Br.t ft_ (Br.t ft_ (cu 349 [(1, (aM l1)), (2, .bp 5 0), (7, .int .i64 x7), (9, .str (aP ByteArray.empty (l1.drop (1 : Int).toNat) x42)), (40, .sl 1 (l1.length - (1 : Int).toNat) ((l1.drop (1 : Int).toNat).map aR)), (41, .int .i64 (((l1.length - (1 : Int).toNat) : Nat) : Int)), (42, .int .i64 x42), (54, .bool (decide (x42 = 1)))] [(0, .box [.own 1 b8.length, .own 2 a8.length, .own 3 a9.length, .own 4 a7.length]), (1, .arr 9 1 (b8.map aR)), (2, .arr 47 2 (a8.map aK)), (3, .arr 49 3 (a9.map aI)), (4, .arr 52 4 (a7.map aH)), (5, .box [.bp 0 0])] rfl rfl rfl (bJ H (fun c H => ?_) (fun c H => ?_))))
  revert H; refine aN (fun I4 A H => (cmk (cE.ac A) rfl rfl (cu 405 [(1, (aM l1)), (2, .bp 5 0), (10, .int .i64 I4.1), (11, .bool I4.2), (40, .sl 1 (l1.length - (1 : Int).toNat) ((l1.drop (1 : Int).toNat).map aR)), (41, .int .i64 (((l1.length - (1 : Int).toNat) : Nat) : Int)), (42, .int .i64 x42)] [(0, .box [.own 1 b8.length, .own 2 a8.length, .own 3 a9.length, .own 4 a7.length]), (1, .arr 9 1 (b8.map aR)), (2, .arr 47 2 (a8.map aK)), (3, .arr 49 3 (a9.map aI)), (4, .arr 52 4 (a7.map aH)), (5, .box [.bp 0 0])] rfl rfl rfl (dU H (fun c H => ?_) (fun c H => ?_)))))
  refine Br.f ff_ (Br.f ff_ (bJ H (fun c H => ?_) (fun c H => ?_)))
  refine Br.t ft_ (Br.t ft_ (cu 485 [(1, (aM l1)), (2, .bp 5 0), (10, .int .i64 I4.1), (40, .sl 1 (l1.length - (1 : Int).toNat) ((l1.drop (1 : Int).toNat).map aR)), (41, .int .i64 (((l1.length - (1 : Int).toNat) : Nat) : Int)), (42, .int .i64 x42), (69, .bool true)] [(0, .box [.own 1 b8.length, .own 2 a8.length, .own 3 a9.length, .own 4 a7.length]), (1, .arr 9 1 (b8.map aR)), (2, .arr 47 2 (a8.map aK)), (3, .arr 49 3 (a9.map aI)), (4, .arr 52 4 (a7.map aH)), (5, .box [.bp 0 0])] rfl rfl rfl (Br.t rfl (cu 493 [(4, .int .i64 3)] [(0, .box [.own 1 b8.length, .own 2 a8.length, .own 3 a9.length, .own 4 a7.length]), (1, .arr 9 1 (b8.map aR)), (2, .arr 47 2 (a8.map aK)), (3, .arr 49 3 (a9.map aI)), (4, .arr 52 4 (a7.map aH))] rfl rfl rfl ?_))))
  cases H
  exact hY [0, 1, 2, 3, 4] [.box [.own 1 b8.length, .own 2 a8.length, .own 3 a9.length, .own 4 a7.length], .arr 9 1 (b8.map aR), .arr 47 2 (a8.map aK), .arr 49 3 (a9.map aI), .arr 52 4 (a7.map aH)] rfl ⟨gB rfl ⟨rfl, ⟨rfl, ⟨rfl, ⟨rfl, trivial⟩⟩⟩⟩, ⟨rfl, ⟨rfl, ⟨rfl, ⟨rfl, trivial⟩⟩⟩⟩⟩ rfl rfl
  refine Br.f ff_ (Br.f ff_ (cu 485 [(1, (aM l1)), (2, .bp 5 0), (10, .int .i64 I4.1), (40, .sl 1 (l1.length - (1 : Int).toNat) ((l1.drop (1 : Int).toNat).map aR)), (41, .int .i64 (((l1.length - (1 : Int).toNat) : Nat) : Int)), (42, .int .i64 x42), (69, .bool (decide (I4.1 > 1000)))] [(0, .box [.own 1 b8.length, .own 2 a8.length, .own 3 a9.length, .own 4 a7.length]), (1, .arr 9 1 (b8.map aR)), (2, .arr 47 2 (a8.map aK)), (3, .arr 49 3 (a9.map aI)), (4, .arr 52 4 (a7.map aH)), (5, .box [.bp 0 0])] rfl rfl rfl (bJ H (fun c H => ?_) (fun c H => ?_))))
  refine cu 493 [(4, .int .i64 3)] [(0, .box [.own 1 b8.length, .own 2 a8.length, .own 3 a9.length, .own 4 a7.length]), (1, .arr 9 1 (b8.map aR)), (2, .arr 47 2 (a8.map aK)), (3, .arr 49 3 (a9.map aI)), (4, .arr 52 4 (a7.map aH))] rfl rfl rfl ?_
  cases H
  exact hY [0, 1, 2, 3, 4] [.box [.own 1 b8.length, .own 2 a8.length, .own 3 a9.length, .own 4 a7.length], .arr 9 1 (b8.map aR), .arr 47 2 (a8.map aK), .arr 49 3 (a9.map aI), .arr 52 4 (a7.map aH)] rfl ⟨gB rfl ⟨rfl, ⟨rfl, ⟨rfl, ⟨rfl, trivial⟩⟩⟩⟩, ⟨rfl, ⟨rfl, ⟨rfl, ⟨rfl, trivial⟩⟩⟩⟩⟩ rfl rfl
  exact ⟨(k, I4.1, wrap64 (x42 + 1)), [], ⟨H, lt_⟩, lt_, (fq rfl rfl fi_ rfl)⟩
  refine Br.t ft_ (Br.t ft_ (Br.t rfl (Br.t rfl (Br.t rfl (cu 485 [(1, (aM l1)), (2, .bp 5 0), (10, .int .i64 I4.1), (40, .sl 1 (l1.length - (1 : Int).toNat) ((l1.drop (1 : Int).toNat).map aR)), (41, .int .i64 (((l1.length - (1 : Int).toNat) : Nat) : Int)), (42, .int .i64 x42), (69, .bool true)] [(0, .box [.own 1 b8.length, .own 2 a8.length, .own 3 a9.length, .own 4 a7.length]), (1, .arr 9 1 (b8.map aR)), (2, .arr 47 2 (a8.map aK)), (3, .arr 49 3 (a9.map aI)), (4, .arr 52 4 (a7.map aH)), (5, .box [.bp 0 0])] rfl rfl rfl (Br.t rfl (cu 493 [(4, .int .i64 3)] [(0, .box [.own 1 b8.length, .own 2 a8.length, .own 3 a9.length, .own 4 a7.length]), (1, .arr 9 1 (b8.map aR)), (2, .arr 47 2 (a8.map aK)), (3, .arr 49 3 (a9.map aI)), (4, .arr 52 4 (a7.map aH))] rfl rfl rfl ?_)))))))
  cases H
  exact hY [0, 1, 2, 3, 4] [.box [.own 1 b8.length, .own 2 a8.length, .own 3 a9.length, .own 4 a7.length], .arr 9 1 (b8.map aR), .arr 47 2 (a8.map aK), .arr 49 3 (a9.map aI), .arr 52 4 (a7.map aH)] rfl ⟨gB rfl ⟨rfl, ⟨rfl, ⟨rfl, ⟨rfl, trivial⟩⟩⟩⟩, ⟨rfl, ⟨rfl, ⟨rfl, ⟨rfl, trivial⟩⟩⟩⟩⟩ rfl rfl
  revert H; refine aN (fun S6 A H => (cmk (bZ.ac A) rfl rfl (cu 373 [(1, (aM l1)), (2, .bp 5 0), (7, .int .i64 x7), (40, .sl 1 (l1.length - (1 : Int).toNat) ((l1.drop (1 : Int).toNat).map aR)), (41, .int .i64 (((l1.length - (1 : Int).toNat) : Nat) : Int)), (42, .int .i64 x42), (73, .bool (!S6))] [(0, .box [.own 1 b8.length, .own 2 a8.length, .own 3 a9.length, .own 4 a7.length]), (1, .arr 9 1 (b8.map aR)), (2, .arr 47 2 (a8.map aK)), (3, .arr 49 3 (a9.map aI)), (4, .arr 52 4 (a7.map aH)), (5, .box [.bp 0 0])] rfl rfl rfl (dU H (fun c H => ?_) (fun c H => ?_)))))
  exact ⟨(k, _, wrap64 (x42 + 1)), [], ⟨H, lt_⟩, lt_, (fq rfl rfl fi_ rfl)⟩
  cases H
  exact hY [0, 1, 2, 3, 4] [.box [.own 1 b8.length, .own 2 a8.length, .own 3 a9.length, .own 4 a7.length], .arr 9 1 (b8.map aR), .arr 47 2 (a8.map aK), .arr 49 3 (a9.map aI), .arr 52 4 (a7.map aH)] rfl ⟨gB rfl ⟨rfl, ⟨rfl, ⟨rfl, ⟨rfl, trivial⟩⟩⟩⟩, ⟨rfl, ⟨rfl, ⟨rfl, ⟨rfl, trivial⟩⟩⟩⟩⟩ rfl rfl
  refine Br.f ff_ (Br.f ff_ (cu 349 [(1, (aM l1)), (2, .bp 5 0), (7, .int .i64 x7), (9, .str (aP ByteArray.empty (l1.drop (1 : Int).toNat) x42)), (40, .sl 1 (l1.length - (1 : Int).toNat) ((l1.drop (1 : Int).toNat).map aR)), (41, .int .i64 (((l1.length - (1 : Int).toNat) : Nat) : Int)), (42, .int .i64 x42), (54, .bool false)] [(0, .box [.own 1 b8.length, .own 2 a8.length, .own 3 a9.length, .own 4 a7.length]), (1, .arr 9 1 (b8.map aR)), (2, .arr 47 2 (a8.map aK)), (3, .arr 49 3 (a9.map aI)), (4, .arr 52 4 (a7.map aH)), (5, .box [.bp 0 0])] rfl rfl rfl (Br.f rfl ?_)))
  revert H; refine aN (fun S7 A H => (cmk (bZ.ac A) rfl rfl (cu 373 [(1, (aM l1)), (2, .bp 5 0), (7, .int .i64 x7), (40, .sl 1 (l1.length - (1 : Int).toNat) ((l1.drop (1 : Int).toNat).map aR)), (41, .int .i64 (((l1.length - (1 : Int).toNat) : Nat) : Int)), (42, .int .i64 x42), (73, .bool (!S7))] [(0, .box [.own 1 b8.length, .own 2 a8.length, .own 3 a9.length, .own 4 a7.length]), (1, .arr 9 1 (b8.map aR)), (2, .arr 47 2 (a8.map aK)), (3, .arr 49 3 (a9.map aI)), (4, .arr 52 4 (a7.map aH)), (5, .box [.bp 0 0])] rfl rfl rfl (dU H (fun c H => ?_) (fun c H => ?_)))))
  exact ⟨(k, _, wrap64 (x42 + 1)), [], ⟨H, lt_⟩, lt_, (fq rfl rfl fi_ rfl)⟩
  cases H
  exact hY [0, 1, 2, 3, 4] [.box [.own 1 b8.length, .own 2 a8.length, .own 3 a9.length, .own 4 a7.length], .arr 9 1 (b8.map aR), .arr 47 2 (a8.map aK), .arr 49 3 (a9.map aI), .arr 52 4 (a7.map aH)] rfl ⟨gB rfl ⟨rfl, ⟨rfl, ⟨rfl, ⟨rfl, trivial⟩⟩⟩⟩, ⟨rfl, ⟨rfl, ⟨rfl, ⟨rfl, trivial⟩⟩⟩⟩⟩ rfl rfl
  refine Nd.mk (by decide) (Nd.mk nf_ (El.mk (aV _ _ nf_ nf_) (bJ H (fun c H => ?_) (fun c H => ?_))))
  refine Nd.mk (by decide) (nd_ H (fun c H => (El.mk (aV _ _ nf_ nf_) ?_)))
  revert H; refine aN (fun S8 A H => (fA (gF.ac A) (bP (oM rfl rfl) (bP (gR rfl) (eK))) (Or.inr ⟨rfl, lC⟩) rfl rfl (Nat.le_of_ble_eq_true rfl) (cu 349 [(1, (aM l1)), (2, .bp 5 0), (87, .bool S8)] [(0, .box [.own 1 b8.length, .own 2 a8.length, .own 3 a9.length, .own 4 a7.length]), (1, .arr 9 1 (b8.map aR)), (2, .arr 47 2 (a8.map aK)), (3, .arr 49 3 (a9.map aI)), (4, .arr 52 4 (a7.map aH)), (5, .box [.bp 0 0])] rfl rfl rfl (kN H (fun c H => ?_) (fun c H => ?_)))))
  cases H
  exact hY [0, 1, 2, 3, 4] [.box [.own 1 b8.length, .own 2 a8.length, .own 3 a9.length, .own 4 a7.length], .arr 9 1 (b8.map aR), .arr 47 2 (a8.map aK), .arr 49 3 (a9.map aI), .arr 52 4 (a7.map aH)] rfl ⟨gB rfl ⟨rfl, ⟨rfl, ⟨rfl, ⟨rfl, trivial⟩⟩⟩⟩, ⟨rfl, ⟨rfl, ⟨rfl, ⟨rfl, trivial⟩⟩⟩⟩⟩ rfl rfl
  refine bJ H (fun c H => ?_) (fun c H => ?_)
  cases H
  exact hY [0, 1, 2, 3, 4] [.box [.own 1 b8.length, .own 2 a8.length, .own 3 a9.length, .own 4 a7.length], .arr 9 1 (b8.map aR), .arr 47 2 (a8.map aK), .arr 49 3 (a9.map aI), .arr 52 4 (a7.map aH)] rfl ⟨gB rfl ⟨rfl, ⟨rfl, ⟨rfl, ⟨rfl, trivial⟩⟩⟩⟩, ⟨rfl, ⟨rfl, ⟨rfl, ⟨rfl, trivial⟩⟩⟩⟩⟩ rfl rfl
  refine Nd.mk (by decide) (Nd.mk nf_ (El.mk (aV _ _ nf_ nf_) (Or.inl ?_)))
  revert H; refine aN (fun M3 A H => (fA (eQ.acO A) (bP (oM rfl rfl) (bP (aEZ rfl rfl lm_ lm_) (eK))) (Or.inr ⟨rfl, aCU (aGE yT) (lC)⟩) rfl rfl (Nat.le_of_ble_eq_true rfl) (cu 501 [] [(0, .box [.own 469 M3.length, .own 2 a8.length, .own 3 a9.length, .own 4 a7.length]), (2, .arr 47 2 (a8.map aK)), (3, .arr 49 3 (a9.map aI)), (4, .arr 52 4 (a7.map aH)), (469, .arr 9 1 (M3.map aR))] rfl rfl rfl (cu 509 [(4, .int .i64 0)] [(0, .box [.own 469 M3.length, .own 2 a8.length, .own 3 a9.length, .own 4 a7.length]), (2, .arr 47 2 (a8.map aK)), (3, .arr 49 3 (a9.map aI)), (4, .arr 52 4 (a7.map aH)), (469, .arr 9 1 (M3.map aR))] rfl rfl rfl ?_))))
  cases H
  exact hY [0, 469, 2, 3, 4] [.box [.own 469 M3.length, .own 2 a8.length, .own 3 a9.length, .own 4 a7.length], .arr 9 1 (M3.map aR), .arr 47 2 (a8.map aK), .arr 49 3 (a9.map aI), .arr 52 4 (a7.map aH)] rfl ⟨gB rfl ⟨rfl, ⟨rfl, ⟨rfl, ⟨rfl, trivial⟩⟩⟩⟩, ⟨rfl, ⟨rfl, ⟨rfl, ⟨rfl, trivial⟩⟩⟩⟩⟩ rfl rfl
  refine bJ H (fun c H => ?_) (fun c H => ?_)
  refine Nd.mk (by decide) (nd_ H (fun c H => (El.mk (aV _ _ nf_ nf_) (Nd.mk (by decide) (nd_ H (fun c H => (El.mk (aV _ _ nf_ nf_) (Nd.mk (by decide) (Nd.mk nf_ (El.mk (aV _ _ nf_ nf_) (Nd.mk (by decide) (Nd.mk nf_ (El.mk (aV _ _ nf_ nf_) (cu 429 [(2, .bp 5 0), (12, .str (mnS (aP ByteArray.empty l1 1) (aP ByteArray.empty l1 2))), (13, .str (mxS (aP ByteArray.empty l1 1) (aP ByteArray.empty l1 2)))] [(0, .box [.own 1 b8.length, .own 2 a8.length, .own 3 a9.length, .own 4 a7.length]), (1, .arr 9 1 (b8.map aR)), (2, .arr 47 2 (a8.map aK)), (3, .arr 49 3 (a9.map aI)), (4, .arr 52 4 (a7.map aH)), (5, .box [.bp 0 0])] rfl rfl rfl (bJ H (fun c H => ?_) (fun c H => ?_))))))))))))))))
  cases H
  exact hY [0, 1, 2, 3, 4] [.box [.own 1 b8.length, .own 2 a8.length, .own 3 a9.length, .own 4 a7.length], .arr 9 1 (b8.map aR), .arr 47 2 (a8.map aK), .arr 49 3 (a9.map aI), .arr 52 4 (a7.map aH)] rfl ⟨gB rfl ⟨rfl, ⟨rfl, ⟨rfl, ⟨rfl, trivial⟩⟩⟩⟩, ⟨rfl, ⟨rfl, ⟨rfl, ⟨rfl, trivial⟩⟩⟩⟩⟩ rfl rfl
  revert H; refine aN (fun W6 A H => (fA (bK.acO A) (bP (fH (bB (gJ rfl rfl) (bB (gJ rfl rfl) (bB (gJ rfl rfl) (bB (gJ rfl rfl) (fG)))))) (eK)) (Or.inr ⟨rfl, aCU (aGE pD) (lC)⟩) rfl rfl (Nat.le_of_ble_eq_true rfl) ?_))
  revert H; refine aN (fun S9 A H => (fA (fC.ac A) (bP (oM rfl rfl) (bP (gR rfl) (bP (gR rfl) (eK)))) (Or.inr ⟨rfl, lC⟩) rfl rfl (Nat.le_of_ble_eq_true rfl) (cu 525 [(2, .bp 5 0), (12, .str (mnS (aP ByteArray.empty l1 1) (aP ByteArray.empty l1 2))), (13, .str (mxS (aP ByteArray.empty l1 1) (aP ByteArray.empty l1 2))), (126, .bool S9)] [(0, .box [.own 1 b8.length, .own 2 a8.length, .own 3 a9.length, .own 4 a7.length]), (1, .arr 9 1 (b8.map aR)), (2, .arr 47 2 (a8.map aK)), (3, .arr 49 3 (a9.map aI)), (4, .arr 52 4 (a7.map aH)), (5, .box [.bp 0 0])] rfl rfl rfl (kN H (fun c H => ?_) (fun c H => ?_)))))
  cases H
  exact hY [0, 1, 2, 3, 4] [.box [.own 1 b8.length, .own 2 a8.length, .own 3 a9.length, .own 4 a7.length], .arr 9 1 (b8.map aR), .arr 47 2 (a8.map aK), .arr 49 3 (a9.map aI), .arr 52 4 (a7.map aH)] rfl ⟨gB rfl ⟨rfl, ⟨rfl, ⟨rfl, ⟨rfl, trivial⟩⟩⟩⟩, ⟨rfl, ⟨rfl, ⟨rfl, ⟨rfl, trivial⟩⟩⟩⟩⟩ rfl rfl
  revert H; refine aN (fun W7 A H => (fA (gF.ac A) (bP (oM rfl rfl) (bP (gR rfl) (eK))) (Or.inr ⟨rfl, lC⟩) rfl rfl (Nat.le_of_ble_eq_true rfl) (dU H (fun c H => ?_) (fun c H => ?_))))
  refine Br.f ff_ (Br.f ff_ (Br.f ff_ (Br.f ff_ (Br.f ff_ ?_))))
  revert H; refine aN (fun T0 A H => (fA (gF.ac A) (bP (oM rfl rfl) (bP (gR rfl) (eK))) (Or.inr ⟨rfl, lC⟩) rfl rfl (Nat.le_of_ble_eq_true rfl) (Br.f ff_ (Br.f ff_ (cu 661 [(2, .bp 5 0), (12, .str (mnS (aP ByteArray.empty l1 1) (aP ByteArray.empty l1 2))), (13, .str (mxS (aP ByteArray.empty l1 1) (aP ByteArray.empty l1 2))), (134, .bool (!T0))] [(0, .box [.own 1 b8.length, .own 2 a8.length, .own 3 a9.length, .own 4 a7.length]), (1, .arr 9 1 (b8.map aR)), (2, .arr 47 2 (a8.map aK)), (3, .arr 49 3 (a9.map aI)), (4, .arr 52 4 (a7.map aH)), (5, .box [.bp 0 0])] rfl rfl rfl (dU H (fun c H => ?_) (fun c H => ?_)))))))
  refine cu 717 [(2, .bp 5 0), (12, .str (mnS (aP ByteArray.empty l1 1) (aP ByteArray.empty l1 2))), (13, .str (mxS (aP ByteArray.empty l1 1) (aP ByteArray.empty l1 2))), (151, .bool (decide ((a8.length : Int) ≥ 12)))] [(0, .box [.own 1 b8.length, .own 2 a8.length, .own 3 a9.length, .own 4 a7.length]), (1, .arr 9 1 (b8.map aR)), (2, .arr 47 2 (a8.map aK)), (3, .arr 49 3 (a9.map aI)), (4, .arr 52 4 (a7.map aH)), (5, .box [.bp 0 0])] rfl rfl rfl (bJ H (fun c H => ?_) (fun c H => ?_))
  cases H
  exact hY [0, 1, 2, 3, 4] [.box [.own 1 b8.length, .own 2 a8.length, .own 3 a9.length, .own 4 a7.length], .arr 9 1 (b8.map aR), .arr 47 2 (a8.map aK), .arr 49 3 (a9.map aI), .arr 52 4 (a7.map aH)] rfl ⟨gB rfl ⟨rfl, ⟨rfl, ⟨rfl, ⟨rfl, trivial⟩⟩⟩⟩, ⟨rfl, ⟨rfl, ⟨rfl, ⟨rfl, trivial⟩⟩⟩⟩⟩ rfl rfl
  refine Or.inl (nd_ H (fun c H => (jD 821 [(2, .bp 5 0)] [(0, .box [.own 1 b8.length, .own 789 (a8.length + 1), .own 3 a9.length, .own 4 a7.length]), (1, .arr 9 1 (b8.map aR)), (3, .arr 49 3 (a9.map aI)), (4, .arr 52 4 (a7.map aH)), (5, .box [.bp 0 0]), (789, .arr 47 2 ((a8 ++ ([(⟨mnS (aP ByteArray.empty l1 1) (aP ByteArray.empty l1 2), mxS (aP ByteArray.empty l1 1) (aP ByteArray.empty l1 2)⟩ : aD)] : List aD)).map aK))] rfl ⟨.inl rfl, trivial⟩ ⟨rfl, ⟨rfl, ⟨rfl, ⟨rfl, ⟨rfl, ⟨fm_, trivial⟩⟩⟩⟩⟩⟩ ?_)))
  revert H; refine aN (fun I9 A H => (nV [789, 5, 0, 1, 3, 4] [.arr 47 2 ((a8 ++ ([(⟨mnS (aP ByteArray.empty l1 1) (aP ByteArray.empty l1 2), mxS (aP ByteArray.empty l1 1) (aP ByteArray.empty l1 2)⟩ : aD)] : List aD)).map aK), .box [.bp 0 0], .box [.own 1 b8.length, .own 789 ((a8 ++ ([(⟨mnS (aP ByteArray.empty l1 1) (aP ByteArray.empty l1 2), mxS (aP ByteArray.empty l1 1) (aP ByteArray.empty l1 2)⟩ : aD)] : List aD)).length), .own 3 a9.length, .own 4 a7.length], .arr 9 1 (b8.map aR), .arr 49 3 (a9.map aI), .arr 52 4 (a7.map aH)] [.arr 47 2 (I9.map aK), .box [.bp 0 0], .box [.own 1 b8.length, .own 789 I9.length, .own 3 a9.length, .own 4 a7.length], .arr 9 1 (b8.map aR), .arr 49 3 (a9.map aI), .arr 52 4 (a7.map aH)] (dO.ac (x0 := b8) (x1 := a9) (x2 := a7) A) rfl rfl ⟨rfl, ⟨rfl, ⟨gB rfl ⟨rfl, ⟨aIJ rfl lm_, ⟨rfl, ⟨rfl, trivial⟩⟩⟩⟩, ⟨rfl, ⟨rfl, ⟨rfl, trivial⟩⟩⟩⟩⟩⟩ rfl rfl rfl rfl rfl (jH ⟨aIW rfl lm_, rfl, trivial⟩) rfl rfl (cu 877 [] [(0, .box [.own 1 b8.length, .own 789 I9.length, .own 3 a9.length, .own 4 a7.length]), (1, .arr 9 1 (b8.map aR)), (3, .arr 49 3 (a9.map aI)), (4, .arr 52 4 (a7.map aH)), (789, .arr 47 2 (I9.map aK))] rfl rfl rfl (cu 885 [(4, .int .i64 0)] [(0, .box [.own 1 b8.length, .own 789 I9.length, .own 3 a9.length, .own 4 a7.length]), (1, .arr 9 1 (b8.map aR)), (3, .arr 49 3 (a9.map aI)), (4, .arr 52 4 (a7.map aH)), (789, .arr 47 2 (I9.map aK))] rfl rfl rfl ?_))))
  cases H
  exact hY [0, 1, 789, 3, 4] [.box [.own 1 b8.length, .own 789 I9.length, .own 3 a9.length, .own 4 a7.length], .arr 9 1 (b8.map aR), .arr 47 2 (I9.map aK), .arr 49 3 (a9.map aI), .arr 52 4 (a7.map aH)] rfl ⟨gB rfl ⟨rfl, ⟨rfl, ⟨rfl, ⟨rfl, trivial⟩⟩⟩⟩, ⟨rfl, ⟨rfl, ⟨rfl, ⟨rfl, trivial⟩⟩⟩⟩⟩ rfl rfl
  refine cu 669 [(4, .int .i64 5)] [(0, .box [.own 1 b8.length, .own 2 a8.length, .own 3 a9.length, .own 4 a7.length]), (1, .arr 9 1 (b8.map aR)), (2, .arr 47 2 (a8.map aK)), (3, .arr 49 3 (a9.map aI)), (4, .arr 52 4 (a7.map aH))] rfl rfl rfl ?_
  cases H
  exact hY [0, 1, 2, 3, 4] [.box [.own 1 b8.length, .own 2 a8.length, .own 3 a9.length, .own 4 a7.length], .arr 9 1 (b8.map aR), .arr 47 2 (a8.map aK), .arr 49 3 (a9.map aI), .arr 52 4 (a7.map aH)] rfl ⟨gB rfl ⟨rfl, ⟨rfl, ⟨rfl, ⟨rfl, trivial⟩⟩⟩⟩, ⟨rfl, ⟨rfl, ⟨rfl, ⟨rfl, trivial⟩⟩⟩⟩⟩ rfl rfl
  refine Br.t ft_ (Br.t ft_ (Br.t ft_ (Br.t ft_ (Br.t ft_ (Br.t ft_ (Br.t ft_ (cu 661 [(2, .bp 5 0), (12, .str (mnS (aP ByteArray.empty l1 1) (aP ByteArray.empty l1 2))), (13, .str (mxS (aP ByteArray.empty l1 1) (aP ByteArray.empty l1 2))), (134, .bool true)] [(0, .box [.own 1 b8.length, .own 2 a8.length, .own 3 a9.length, .own 4 a7.length]), (1, .arr 9 1 (b8.map aR)), (2, .arr 47 2 (a8.map aK)), (3, .arr 49 3 (a9.map aI)), (4, .arr 52 4 (a7.map aH)), (5, .box [.bp 0 0])] rfl rfl rfl (Br.t rfl (cu 669 [(4, .int .i64 5)] [(0, .box [.own 1 b8.length, .own 2 a8.length, .own 3 a9.length, .own 4 a7.length]), (1, .arr 9 1 (b8.map aR)), (2, .arr 47 2 (a8.map aK)), (3, .arr 49 3 (a9.map aI)), (4, .arr 52 4 (a7.map aH))] rfl rfl rfl ?_)))))))))
  cases H
  exact hY [0, 1, 2, 3, 4] [.box [.own 1 b8.length, .own 2 a8.length, .own 3 a9.length, .own 4 a7.length], .arr 9 1 (b8.map aR), .arr 47 2 (a8.map aK), .arr 49 3 (a9.map aI), .arr 52 4 (a7.map aH)] rfl ⟨gB rfl ⟨rfl, ⟨rfl, ⟨rfl, ⟨rfl, trivial⟩⟩⟩⟩, ⟨rfl, ⟨rfl, ⟨rfl, ⟨rfl, trivial⟩⟩⟩⟩⟩ rfl rfl
  refine cu 317 [(1, (aM l1)), (2, .bp 5 0), (7, .int .i64 x7), (77, .str (aP ByteArray.empty l1 0)), (177, .bool (decide ((aP ByteArray.empty l1 0).toList = (⟨#[118, 101, 115, 115, 101, 108]⟩ : ByteArray).toList)))] [(0, .box [.own 1 b8.length, .own 2 a8.length, .own 3 a9.length, .own 4 a7.length]), (1, .arr 9 1 (b8.map aR)), (2, .arr 47 2 (a8.map aK)), (3, .arr 49 3 (a9.map aI)), (4, .arr 52 4 (a7.map aH)), (5, .box [.bp 0 0])] rfl rfl rfl (bJ H (fun c H => ?_) (fun c H => ?_))
  refine Br.t ft_ (Nd.mk (by decide) (nd_ H (fun c H => (El.mk (aV _ _ nf_ nf_) ?_))))
  revert H; refine aN (fun T1 A H => (fA (bN.ac A) (bP (fH (bB (gJ rfl rfl) (bB (gJ rfl rfl) (bB (gJ rfl rfl) (bB (gJ rfl rfl) (fG)))))) (bP (gR rfl) (eK))) (Or.inr ⟨rfl, lC⟩) rfl rfl (Nat.le_of_ble_eq_true rfl) (cu 421 [(1, (aM l1)), (2, .bp 5 0), (7, .int .i64 x7), (15, .bool T1.2.2.2)] [(0, .box [.own 1 b8.length, .own 2 a8.length, .own 3 a9.length, .own 4 a7.length]), (1, .arr 9 1 (b8.map aR)), (2, .arr 47 2 (a8.map aK)), (3, .arr 49 3 (a9.map aI)), (4, .arr 52 4 (a7.map aH)), (5, .box [.bp 0 0])] rfl rfl rfl (kN H (fun c H => ?_) (fun c H => ?_)))))
  cases H
  exact hY [0, 1, 2, 3, 4] [.box [.own 1 b8.length, .own 2 a8.length, .own 3 a9.length, .own 4 a7.length], .arr 9 1 (b8.map aR), .arr 47 2 (a8.map aK), .arr 49 3 (a9.map aI), .arr 52 4 (a7.map aH)] rfl ⟨gB rfl ⟨rfl, ⟨rfl, ⟨rfl, ⟨rfl, trivial⟩⟩⟩⟩, ⟨rfl, ⟨rfl, ⟨rfl, ⟨rfl, trivial⟩⟩⟩⟩⟩ rfl rfl
  refine bJ H (fun c H => ?_) (fun c H => ?_)
  cases H
  exact hY [0, 1, 2, 3, 4] [.box [.own 1 b8.length, .own 2 a8.length, .own 3 a9.length, .own 4 a7.length], .arr 9 1 (b8.map aR), .arr 47 2 (a8.map aK), .arr 49 3 (a9.map aI), .arr 52 4 (a7.map aH)] rfl ⟨gB rfl ⟨rfl, ⟨rfl, ⟨rfl, ⟨rfl, trivial⟩⟩⟩⟩, ⟨rfl, ⟨rfl, ⟨rfl, ⟨rfl, trivial⟩⟩⟩⟩⟩ rfl rfl
  refine Nd.mk (by decide) (Nd.mk nf_ (El.mk (aV _ _ nf_ nf_) (nd_ H (fun c H => (nd_ H (fun c H => (El.mk (aV _ _ nf_ nf_) (Or.inl (nd_ H (fun c H => (jD 645 [(2, .bp 5 0)] [(0, .box [.own 1 b8.length, .own 2 a8.length, .own 613 (a9.length + 1), .own 4 a7.length]), (1, .arr 9 1 (b8.map aR)), (2, .arr 47 2 (a8.map aK)), (4, .arr 52 4 (a7.map aH)), (5, .box [.bp 0 0]), (613, .arr 49 3 ((a9 ++ ([(⟨aP ByteArray.empty l1 1, x7, aP ByteArray.empty l1 (wrap64 ((l1.length : Int) - 1))⟩ : aB)] : List aB)).map aI))] rfl ⟨.inl rfl, trivial⟩ ⟨rfl, ⟨rfl, ⟨rfl, ⟨rfl, ⟨rfl, ⟨fm_, trivial⟩⟩⟩⟩⟩⟩ ?_)))))))))))
  revert H; refine aN (fun J0 A H => (nV [613, 5, 0, 1, 2, 4] [.arr 49 3 ((a9 ++ ([(⟨aP ByteArray.empty l1 1, x7, aP ByteArray.empty l1 (wrap64 ((l1.length : Int) - 1))⟩ : aB)] : List aB)).map aI), .box [.bp 0 0], .box [.own 1 b8.length, .own 2 a8.length, .own 613 ((a9 ++ ([(⟨aP ByteArray.empty l1 1, x7, aP ByteArray.empty l1 (wrap64 ((l1.length : Int) - 1))⟩ : aB)] : List aB)).length), .own 4 a7.length], .arr 9 1 (b8.map aR), .arr 47 2 (a8.map aK), .arr 52 4 (a7.map aH)] [.arr 49 3 (J0.map aI), .box [.bp 0 0], .box [.own 1 b8.length, .own 2 a8.length, .own 613 J0.length, .own 4 a7.length], .arr 9 1 (b8.map aR), .arr 47 2 (a8.map aK), .arr 52 4 (a7.map aH)] (dC.ac (x0 := b8) (x1 := a8) (x2 := a7) A) rfl rfl ⟨rfl, ⟨rfl, ⟨gB rfl ⟨rfl, ⟨rfl, ⟨aIJ rfl lm_, ⟨rfl, trivial⟩⟩⟩⟩, ⟨rfl, ⟨rfl, ⟨rfl, trivial⟩⟩⟩⟩⟩⟩ rfl rfl rfl rfl rfl (jH ⟨aIW rfl lm_, rfl, trivial⟩) rfl rfl (cu 701 [] [(0, .box [.own 1 b8.length, .own 2 a8.length, .own 613 J0.length, .own 4 a7.length]), (1, .arr 9 1 (b8.map aR)), (2, .arr 47 2 (a8.map aK)), (4, .arr 52 4 (a7.map aH)), (613, .arr 49 3 (J0.map aI))] rfl rfl rfl (cu 709 [(4, .int .i64 0)] [(0, .box [.own 1 b8.length, .own 2 a8.length, .own 613 J0.length, .own 4 a7.length]), (1, .arr 9 1 (b8.map aR)), (2, .arr 47 2 (a8.map aK)), (4, .arr 52 4 (a7.map aH)), (613, .arr 49 3 (J0.map aI))] rfl rfl rfl ?_))))
  cases H
  exact hY [0, 1, 2, 613, 4] [.box [.own 1 b8.length, .own 2 a8.length, .own 613 J0.length, .own 4 a7.length], .arr 9 1 (b8.map aR), .arr 47 2 (a8.map aK), .arr 49 3 (J0.map aI), .arr 52 4 (a7.map aH)] rfl ⟨gB rfl ⟨rfl, ⟨rfl, ⟨rfl, ⟨rfl, trivial⟩⟩⟩⟩, ⟨rfl, ⟨rfl, ⟨rfl, ⟨rfl, trivial⟩⟩⟩⟩⟩ rfl rfl
  refine bJ H (fun c H => ?_) (fun c H => ?_)
  refine Nd.mk (by decide) (nd_ H (fun c H => (El.mk (aV _ _ nf_ nf_) ?_)))
  revert H; refine aN (fun T2 A H => (fA (bN.ac A) (bP (fH (bB (gJ rfl rfl) (bB (gJ rfl rfl) (bB (gJ rfl rfl) (bB (gJ rfl rfl) (fG)))))) (bP (gR rfl) (eK))) (Or.inr ⟨rfl, lC⟩) rfl rfl (Nat.le_of_ble_eq_true rfl) (cu 437 [(1, (aM l1)), (2, .bp 5 0), (7, .int .i64 x7), (15, .bool T2.2.2.2)] [(0, .box [.own 1 b8.length, .own 2 a8.length, .own 3 a9.length, .own 4 a7.length]), (1, .arr 9 1 (b8.map aR)), (2, .arr 47 2 (a8.map aK)), (3, .arr 49 3 (a9.map aI)), (4, .arr 52 4 (a7.map aH)), (5, .box [.bp 0 0])] rfl rfl rfl (kN H (fun c H => ?_) (fun c H => ?_)))))
  cases H
  exact hY [0, 1, 2, 3, 4] [.box [.own 1 b8.length, .own 2 a8.length, .own 3 a9.length, .own 4 a7.length], .arr 9 1 (b8.map aR), .arr 47 2 (a8.map aK), .arr 49 3 (a9.map aI), .arr 52 4 (a7.map aH)] rfl ⟨gB rfl ⟨rfl, ⟨rfl, ⟨rfl, ⟨rfl, trivial⟩⟩⟩⟩, ⟨rfl, ⟨rfl, ⟨rfl, ⟨rfl, trivial⟩⟩⟩⟩⟩ rfl rfl
  refine bJ H (fun c H => ?_) (fun c H => ?_)
  cases H
  exact hY [0, 1, 2, 3, 4] [.box [.own 1 b8.length, .own 2 a8.length, .own 3 a9.length, .own 4 a7.length], .arr 9 1 (b8.map aR), .arr 47 2 (a8.map aK), .arr 49 3 (a9.map aI), .arr 52 4 (a7.map aH)] rfl ⟨gB rfl ⟨rfl, ⟨rfl, ⟨rfl, ⟨rfl, trivial⟩⟩⟩⟩, ⟨rfl, ⟨rfl, ⟨rfl, ⟨rfl, trivial⟩⟩⟩⟩⟩ rfl rfl
  refine Nd.mk (by decide) (Nd.mk nf_ (El.mk (aV _ _ nf_ nf_) (nd_ H (fun c H => (nd_ H (fun c H => (El.mk (aV _ _ nf_ nf_) (Or.inl (nd_ H (fun c H => (jD 661 [(2, .bp 5 0)] [(0, .box [.own 1 b8.length, .own 2 a8.length, .own 629 (a9.length + 1), .own 4 a7.length]), (1, .arr 9 1 (b8.map aR)), (2, .arr 47 2 (a8.map aK)), (4, .arr 52 4 (a7.map aH)), (5, .box [.bp 0 0]), (629, .arr 49 3 ((a9 ++ ([(⟨aP ByteArray.empty l1 1, x7, aP ByteArray.empty l1 (wrap64 ((l1.length : Int) - 1))⟩ : aB)] : List aB)).map aI))] rfl ⟨.inl rfl, trivial⟩ ⟨rfl, ⟨rfl, ⟨rfl, ⟨rfl, ⟨rfl, ⟨fm_, trivial⟩⟩⟩⟩⟩⟩ ?_)))))))))))
  revert H; refine aN (fun J1 A H => (nV [629, 5, 0, 1, 2, 4] [.arr 49 3 ((a9 ++ ([(⟨aP ByteArray.empty l1 1, x7, aP ByteArray.empty l1 (wrap64 ((l1.length : Int) - 1))⟩ : aB)] : List aB)).map aI), .box [.bp 0 0], .box [.own 1 b8.length, .own 2 a8.length, .own 629 ((a9 ++ ([(⟨aP ByteArray.empty l1 1, x7, aP ByteArray.empty l1 (wrap64 ((l1.length : Int) - 1))⟩ : aB)] : List aB)).length), .own 4 a7.length], .arr 9 1 (b8.map aR), .arr 47 2 (a8.map aK), .arr 52 4 (a7.map aH)] [.arr 49 3 (J1.map aI), .box [.bp 0 0], .box [.own 1 b8.length, .own 2 a8.length, .own 629 J1.length, .own 4 a7.length], .arr 9 1 (b8.map aR), .arr 47 2 (a8.map aK), .arr 52 4 (a7.map aH)] (dC.ac (x0 := b8) (x1 := a8) (x2 := a7) A) rfl rfl ⟨rfl, ⟨rfl, ⟨gB rfl ⟨rfl, ⟨rfl, ⟨aIJ rfl lm_, ⟨rfl, trivial⟩⟩⟩⟩, ⟨rfl, ⟨rfl, ⟨rfl, trivial⟩⟩⟩⟩⟩⟩ rfl rfl rfl rfl rfl (jH ⟨aIW rfl lm_, rfl, trivial⟩) rfl rfl (cu 717 [] [(0, .box [.own 1 b8.length, .own 2 a8.length, .own 629 J1.length, .own 4 a7.length]), (1, .arr 9 1 (b8.map aR)), (2, .arr 47 2 (a8.map aK)), (4, .arr 52 4 (a7.map aH)), (629, .arr 49 3 (J1.map aI))] rfl rfl rfl (cu 725 [(4, .int .i64 0)] [(0, .box [.own 1 b8.length, .own 2 a8.length, .own 629 J1.length, .own 4 a7.length]), (1, .arr 9 1 (b8.map aR)), (2, .arr 47 2 (a8.map aK)), (4, .arr 52 4 (a7.map aH)), (629, .arr 49 3 (J1.map aI))] rfl rfl rfl ?_))))
  cases H
  exact hY [0, 1, 2, 629, 4] [.box [.own 1 b8.length, .own 2 a8.length, .own 629 J1.length, .own 4 a7.length], .arr 9 1 (b8.map aR), .arr 47 2 (a8.map aK), .arr 49 3 (J1.map aI), .arr 52 4 (a7.map aH)] rfl ⟨gB rfl ⟨rfl, ⟨rfl, ⟨rfl, ⟨rfl, trivial⟩⟩⟩⟩, ⟨rfl, ⟨rfl, ⟨rfl, ⟨rfl, trivial⟩⟩⟩⟩⟩ rfl rfl
  refine bJ H (fun c H => ?_) (fun c H => ?_)
  refine Nd.mk (by decide) (nd_ H (fun c H => (El.mk (aV _ _ nf_ nf_) (Nd.mk (by decide) (nd_ H (fun c H => (El.mk (aV _ _ nf_ nf_) (Nd.mk (by decide) (Nd.mk nf_ (El.mk (aV _ _ nf_ nf_) (Nd.mk (by decide) (Nd.mk nf_ (El.mk (aV _ _ nf_ nf_) (cu 477 [(1, (aM l1)), (2, .bp 5 0), (16, .str (mnS (aP ByteArray.empty l1 2) (aP ByteArray.empty l1 3))), (17, .str (mxS (aP ByteArray.empty l1 2) (aP ByteArray.empty l1 3)))] [(0, .box [.own 1 b8.length, .own 2 a8.length, .own 3 a9.length, .own 4 a7.length]), (1, .arr 9 1 (b8.map aR)), (2, .arr 47 2 (a8.map aK)), (3, .arr 49 3 (a9.map aI)), (4, .arr 52 4 (a7.map aH)), (5, .box [.bp 0 0])] rfl rfl rfl ?_))))))))))))))
  revert H; refine aN (fun O7 A H => (fA (bN.ac A) (bP (fH (bB (gJ rfl rfl) (bB (gJ rfl rfl) (bB (gJ rfl rfl) (bB (gJ rfl rfl) (fG)))))) (bP (gR rfl) (eK))) (Or.inr ⟨rfl, lC⟩) rfl rfl (Nat.le_of_ble_eq_true rfl) (cu 565 [(1, (aM l1)), (2, .bp 5 0), (16, .str (mnS (aP ByteArray.empty l1 2) (aP ByteArray.empty l1 3))), (17, .str (mxS (aP ByteArray.empty l1 2) (aP ByteArray.empty l1 3))), (19, .bool O7.2.2.2)] [(0, .box [.own 1 b8.length, .own 2 a8.length, .own 3 a9.length, .own 4 a7.length]), (1, .arr 9 1 (b8.map aR)), (2, .arr 47 2 (a8.map aK)), (3, .arr 49 3 (a9.map aI)), (4, .arr 52 4 (a7.map aH)), (5, .box [.bp 0 0])] rfl rfl rfl ?_)))
  revert H; refine aN (fun O8 A H => (fA (bN.ac A) (bP (fH (bB (gJ rfl rfl) (bB (gJ rfl rfl) (bB (gJ rfl rfl) (bB (gJ rfl rfl) (fG)))))) (bP (gR rfl) (eK))) (Or.inr ⟨rfl, lC⟩) rfl rfl (Nat.le_of_ble_eq_true rfl) (cu 653 [(1, (aM l1)), (2, .bp 5 0), (16, .str (mnS (aP ByteArray.empty l1 2) (aP ByteArray.empty l1 3))), (17, .str (mxS (aP ByteArray.empty l1 2) (aP ByteArray.empty l1 3))), (19, .bool O7.2.2.2), (21, .bool O8.2.2.2)] [(0, .box [.own 1 b8.length, .own 2 a8.length, .own 3 a9.length, .own 4 a7.length]), (1, .arr 9 1 (b8.map aR)), (2, .arr 47 2 (a8.map aK)), (3, .arr 49 3 (a9.map aI)), (4, .arr 52 4 (a7.map aH)), (5, .box [.bp 0 0])] rfl rfl rfl (Nd.mk (by decide) (nd_ H (fun c H => (El.mk (aV _ _ nf_ nf_) ?_)))))))
  revert H; refine aN (fun T3 A H => (fA (cS.ac A) (bP (fH (bB (gJ rfl rfl) (bB (gJ rfl rfl) (bB (gJ rfl rfl) (bB (gJ rfl rfl) (fG)))))) (bP (gR rfl) (eK))) (Or.inr ⟨rfl, lC⟩) rfl rfl (Nat.le_of_ble_eq_true rfl) (cu 757 [(1, (aM l1)), (2, .bp 5 0), (16, .str (mnS (aP ByteArray.empty l1 2) (aP ByteArray.empty l1 3))), (17, .str (mxS (aP ByteArray.empty l1 2) (aP ByteArray.empty l1 3))), (19, .bool O7.2.2.2), (21, .bool O8.2.2.2), (23, .bool T3.2.2.2.2)] [(0, .box [.own 1 b8.length, .own 2 a8.length, .own 3 a9.length, .own 4 a7.length]), (1, .arr 9 1 (b8.map aR)), (2, .arr 47 2 (a8.map aK)), (3, .arr 49 3 (a9.map aI)), (4, .arr 52 4 (a7.map aH)), (5, .box [.bp 0 0])] rfl rfl rfl (bJ H (fun c H => ?_) (fun c H => ?_)))))
  cases H
  exact hY [0, 1, 2, 3, 4] [.box [.own 1 b8.length, .own 2 a8.length, .own 3 a9.length, .own 4 a7.length], .arr 9 1 (b8.map aR), .arr 47 2 (a8.map aK), .arr 49 3 (a9.map aI), .arr 52 4 (a7.map aH)] rfl ⟨gB rfl ⟨rfl, ⟨rfl, ⟨rfl, ⟨rfl, trivial⟩⟩⟩⟩, ⟨rfl, ⟨rfl, ⟨rfl, ⟨rfl, trivial⟩⟩⟩⟩⟩ rfl rfl
  refine kN H (fun c H => ?_) (fun c H => ?_)
  cases H
  exact hY [0, 1, 2, 3, 4] [.box [.own 1 b8.length, .own 2 a8.length, .own 3 a9.length, .own 4 a7.length], .arr 9 1 (b8.map aR), .arr 47 2 (a8.map aK), .arr 49 3 (a9.map aI), .arr 52 4 (a7.map aH)] rfl ⟨gB rfl ⟨rfl, ⟨rfl, ⟨rfl, ⟨rfl, trivial⟩⟩⟩⟩, ⟨rfl, ⟨rfl, ⟨rfl, ⟨rfl, trivial⟩⟩⟩⟩⟩ rfl rfl
  refine dU H (fun c H => ?_) (fun c H => ?_)
  refine Br.f ff_ (Br.f ff_ (cu 861 [(1, (aM l1)), (2, .bp 5 0), (16, .str (mnS (aP ByteArray.empty l1 2) (aP ByteArray.empty l1 3))), (17, .str (mxS (aP ByteArray.empty l1 2) (aP ByteArray.empty l1 3))), (272, .bool (!O8.2.2.2))] [(0, .box [.own 1 b8.length, .own 2 a8.length, .own 3 a9.length, .own 4 a7.length]), (1, .arr 9 1 (b8.map aR)), (2, .arr 47 2 (a8.map aK)), (3, .arr 49 3 (a9.map aI)), (4, .arr 52 4 (a7.map aH)), (5, .box [.bp 0 0])] rfl rfl rfl (dU H (fun c H => ?_) (fun c H => ?_))))
  refine cu 917 [(1, (aM l1)), (2, .bp 5 0), (16, .str (mnS (aP ByteArray.empty l1 2) (aP ByteArray.empty l1 3))), (17, .str (mxS (aP ByteArray.empty l1 2) (aP ByteArray.empty l1 3))), (279, .bool (decide ((a7.length : Int) ≥ 18)))] [(0, .box [.own 1 b8.length, .own 2 a8.length, .own 3 a9.length, .own 4 a7.length]), (1, .arr 9 1 (b8.map aR)), (2, .arr 47 2 (a8.map aK)), (3, .arr 49 3 (a9.map aI)), (4, .arr 52 4 (a7.map aH)), (5, .box [.bp 0 0])] rfl rfl rfl (bJ H (fun c H => ?_) (fun c H => ?_))
  cases H
  exact hY [0, 1, 2, 3, 4] [.box [.own 1 b8.length, .own 2 a8.length, .own 3 a9.length, .own 4 a7.length], .arr 9 1 (b8.map aR), .arr 47 2 (a8.map aK), .arr 49 3 (a9.map aI), .arr 52 4 (a7.map aH)] rfl ⟨gB rfl ⟨rfl, ⟨rfl, ⟨rfl, ⟨rfl, trivial⟩⟩⟩⟩, ⟨rfl, ⟨rfl, ⟨rfl, ⟨rfl, trivial⟩⟩⟩⟩⟩ rfl rfl
  refine Nd.mk (by decide) (Nd.mk nf_ (El.mk (aV _ _ nf_ nf_) (Nd.mk (by decide) (nd_ H (fun c H => (El.mk (aV _ _ nf_ nf_) (Or.inl (nd_ H (fun c H => (jD 1069 [(2, .bp 5 0)] [(0, .box [.own 1 b8.length, .own 2 a8.length, .own 3 a9.length, .own 1037 (a7.length + 1)]), (1, .arr 9 1 (b8.map aR)), (2, .arr 47 2 (a8.map aK)), (3, .arr 49 3 (a9.map aI)), (5, .box [.bp 0 0]), (1037, .arr 52 4 ((a7 ++ ([(⟨aP ByteArray.empty l1 1, mnS (aP ByteArray.empty l1 2) (aP ByteArray.empty l1 3), mxS (aP ByteArray.empty l1 2) (aP ByteArray.empty l1 3), aP ByteArray.empty l1 4⟩ : aA)] : List aA)).map aH))] rfl ⟨.inl rfl, trivial⟩ ⟨rfl, ⟨rfl, ⟨rfl, ⟨rfl, ⟨rfl, ⟨fm_, trivial⟩⟩⟩⟩⟩⟩ ?_))))))))))
  revert H; refine aN (fun J2 A H => (nV [1037, 5, 0, 1, 2, 3] [.arr 52 4 ((a7 ++ ([(⟨aP ByteArray.empty l1 1, mnS (aP ByteArray.empty l1 2) (aP ByteArray.empty l1 3), mxS (aP ByteArray.empty l1 2) (aP ByteArray.empty l1 3), aP ByteArray.empty l1 4⟩ : aA)] : List aA)).map aH), .box [.bp 0 0], .box [.own 1 b8.length, .own 2 a8.length, .own 3 a9.length, .own 1037 ((a7 ++ ([(⟨aP ByteArray.empty l1 1, mnS (aP ByteArray.empty l1 2) (aP ByteArray.empty l1 3), mxS (aP ByteArray.empty l1 2) (aP ByteArray.empty l1 3), aP ByteArray.empty l1 4⟩ : aA)] : List aA)).length)], .arr 9 1 (b8.map aR), .arr 47 2 (a8.map aK), .arr 49 3 (a9.map aI)] [.arr 52 4 (J2.map aH), .box [.bp 0 0], .box [.own 1 b8.length, .own 2 a8.length, .own 3 a9.length, .own 1037 J2.length], .arr 9 1 (b8.map aR), .arr 47 2 (a8.map aK), .arr 49 3 (a9.map aI)] (dM.ac (x0 := b8) (x1 := a8) (x2 := a9) A) rfl rfl ⟨rfl, ⟨rfl, ⟨gB rfl ⟨rfl, ⟨rfl, ⟨rfl, ⟨aIJ rfl lm_, trivial⟩⟩⟩⟩, ⟨rfl, ⟨rfl, ⟨rfl, trivial⟩⟩⟩⟩⟩⟩ rfl rfl rfl rfl rfl (jH ⟨aIW rfl lm_, rfl, trivial⟩) rfl rfl (cu 1125 [] [(0, .box [.own 1 b8.length, .own 2 a8.length, .own 3 a9.length, .own 1037 J2.length]), (1, .arr 9 1 (b8.map aR)), (2, .arr 47 2 (a8.map aK)), (3, .arr 49 3 (a9.map aI)), (1037, .arr 52 4 (J2.map aH))] rfl rfl rfl (cu 1133 [(4, .int .i64 0)] [(0, .box [.own 1 b8.length, .own 2 a8.length, .own 3 a9.length, .own 1037 J2.length]), (1, .arr 9 1 (b8.map aR)), (2, .arr 47 2 (a8.map aK)), (3, .arr 49 3 (a9.map aI)), (1037, .arr 52 4 (J2.map aH))] rfl rfl rfl ?_))))
  cases H
  exact hY [0, 1, 2, 3, 1037] [.box [.own 1 b8.length, .own 2 a8.length, .own 3 a9.length, .own 1037 J2.length], .arr 9 1 (b8.map aR), .arr 47 2 (a8.map aK), .arr 49 3 (a9.map aI), .arr 52 4 (J2.map aH)] rfl ⟨gB rfl ⟨rfl, ⟨rfl, ⟨rfl, ⟨rfl, trivial⟩⟩⟩⟩, ⟨rfl, ⟨rfl, ⟨rfl, ⟨rfl, trivial⟩⟩⟩⟩⟩ rfl rfl
  refine cu 869 [(4, .int .i64 5)] [(0, .box [.own 1 b8.length, .own 2 a8.length, .own 3 a9.length, .own 4 a7.length]), (1, .arr 9 1 (b8.map aR)), (2, .arr 47 2 (a8.map aK)), (3, .arr 49 3 (a9.map aI)), (4, .arr 52 4 (a7.map aH))] rfl rfl rfl ?_
  cases H
  exact hY [0, 1, 2, 3, 4] [.box [.own 1 b8.length, .own 2 a8.length, .own 3 a9.length, .own 4 a7.length], .arr 9 1 (b8.map aR), .arr 47 2 (a8.map aK), .arr 49 3 (a9.map aI), .arr 52 4 (a7.map aH)] rfl ⟨gB rfl ⟨rfl, ⟨rfl, ⟨rfl, ⟨rfl, trivial⟩⟩⟩⟩, ⟨rfl, ⟨rfl, ⟨rfl, ⟨rfl, trivial⟩⟩⟩⟩⟩ rfl rfl
  refine Br.t ft_ (Br.t ft_ (cu 861 [(1, (aM l1)), (2, .bp 5 0), (16, .str (mnS (aP ByteArray.empty l1 2) (aP ByteArray.empty l1 3))), (17, .str (mxS (aP ByteArray.empty l1 2) (aP ByteArray.empty l1 3))), (272, .bool true)] [(0, .box [.own 1 b8.length, .own 2 a8.length, .own 3 a9.length, .own 4 a7.length]), (1, .arr 9 1 (b8.map aR)), (2, .arr 47 2 (a8.map aK)), (3, .arr 49 3 (a9.map aI)), (4, .arr 52 4 (a7.map aH)), (5, .box [.bp 0 0])] rfl rfl rfl (Br.t rfl (cu 869 [(4, .int .i64 5)] [(0, .box [.own 1 b8.length, .own 2 a8.length, .own 3 a9.length, .own 4 a7.length]), (1, .arr 9 1 (b8.map aR)), (2, .arr 47 2 (a8.map aK)), (3, .arr 49 3 (a9.map aI)), (4, .arr 52 4 (a7.map aH))] rfl rfl rfl ?_))))
  cases H
  exact hY [0, 1, 2, 3, 4] [.box [.own 1 b8.length, .own 2 a8.length, .own 3 a9.length, .own 4 a7.length], .arr 9 1 (b8.map aR), .arr 47 2 (a8.map aK), .arr 49 3 (a9.map aI), .arr 52 4 (a7.map aH)] rfl ⟨gB rfl ⟨rfl, ⟨rfl, ⟨rfl, ⟨rfl, trivial⟩⟩⟩⟩, ⟨rfl, ⟨rfl, ⟨rfl, ⟨rfl, trivial⟩⟩⟩⟩⟩ rfl rfl
  refine cu 349 [] [(0, .box [.own 1 b8.length, .own 2 a8.length, .own 3 a9.length, .own 4 a7.length]), (1, .arr 9 1 (b8.map aR)), (2, .arr 47 2 (a8.map aK)), (3, .arr 49 3 (a9.map aI)), (4, .arr 52 4 (a7.map aH))] rfl rfl rfl (cu 357 [(4, .int .i64 0)] [(0, .box [.own 1 b8.length, .own 2 a8.length, .own 3 a9.length, .own 4 a7.length]), (1, .arr 9 1 (b8.map aR)), (2, .arr 47 2 (a8.map aK)), (3, .arr 49 3 (a9.map aI)), (4, .arr 52 4 (a7.map aH))] rfl rfl rfl ?_)
  cases H
  exact hY [0, 1, 2, 3, 4] [.box [.own 1 b8.length, .own 2 a8.length, .own 3 a9.length, .own 4 a7.length], .arr 9 1 (b8.map aR), .arr 47 2 (a8.map aK), .arr 49 3 (a9.map aI), .arr 52 4 (a7.map aH)] rfl ⟨gB rfl ⟨rfl, ⟨rfl, ⟨rfl, ⟨rfl, trivial⟩⟩⟩⟩, ⟨rfl, ⟨rfl, ⟨rfl, ⟨rfl, trivial⟩⟩⟩⟩⟩ rfl rfl
  cases H
  exact hY [0, 1, 2, 3, 4] [.box [.own 1 b8.length, .own 2 a8.length, .own 3 a9.length, .own 4 a7.length], .arr 9 1 (b8.map aR), .arr 47 2 (a8.map aK), .arr 49 3 (a9.map aI), .arr 52 4 (a7.map aH)] rfl ⟨gB rfl ⟨rfl, ⟨rfl, ⟨rfl, ⟨rfl, trivial⟩⟩⟩⟩, ⟨rfl, ⟨rfl, ⟨rfl, ⟨rfl, trivial⟩⟩⟩⟩⟩ rfl rfl
  cases H
  exact hY [0, 1, 2, 3, 4] [.box [.own 1 b8.length, .own 2 a8.length, .own 3 a9.length, .own 4 a7.length], .arr 9 1 (b8.map aR), .arr 47 2 (a8.map aK), .arr 49 3 (a9.map aI), .arr 52 4 (a7.map aH)] rfl ⟨gB rfl ⟨rfl, ⟨rfl, ⟨rfl, ⟨rfl, trivial⟩⟩⟩⟩, ⟨rfl, ⟨rfl, ⟨rfl, ⟨rfl, trivial⟩⟩⟩⟩⟩ rfl rfl
theorem cB.l0_lp {F : (Exit → St → Prop) → St → Prop} {hv : List Tmp} {Q : Exit → St → Prop} {σ : St} {r : (List ByteArray) × (List aD) × (List aB) × (List aA) × Int × Int} {k : Nat} {E3 : List ByteArray} {x25 : Int} {p7 : List ByteArray} {p8 : List aD} {p9 : List aB} {q9 : List aA} (H : cB.l0 k x25 p7 p8 p9 q9 E3 = some r) (rn : List (Option Nat)) (h1 : cG σ σ [104] [(25, .int .i64 x25)] [(104, .box [.own 0 p7.length, .own 1 p8.length, .own 2 p9.length, .own 3 q9.length])] [.arr 9 1 (p7.map aR), .arr 47 2 (p8.map aK), .arr 49 3 (p9.map aI), .arr 52 4 (q9.map aH)] rn)
    (h2 : ∀ (k0 : Nat) (x25 : Int) (p7 : List ByteArray) (p8 : List aD) (p9 : List aB) (q9 : List aA), k0 < k + 1 → cB.l0 k0 x25 p7 p8 p9 q9 E3 = some r → dL σ hv [104] [(25, .int .i64 x25)] [(104, .box [.own 0 p7.length, .own 1 p8.length, .own 2 p9.length, .own 3 q9.length])] [.arr 9 1 (p7.map aR), .arr 47 2 (p8.map aK), .arr 49 3 (p9.map aI), .arr 52 4 (q9.map aH)] (F (fun e σ' => match e with | .normal => ∃ (y : Nat × Int × (List ByteArray) × (List aD) × (List aB) × (List aA)) (rn : List (Option Nat)), (cB.l0 y.1 y.2.1 y.2.2.1 y.2.2.2.1 y.2.2.2.2.1 y.2.2.2.2.2 E3 = some r ∧ y.1 < k + 1) ∧ y.1 < k0 ∧ cG σ σ' [104] [(25, .int .i64 y.2.1)] [(104, .box [.own 0 y.2.2.1.length, .own 1 y.2.2.2.1.length, .own 2 y.2.2.2.2.1.length, .own 3 y.2.2.2.2.2.length])] [.arr 9 1 (y.2.2.1.map aR), .arr 47 2 (y.2.2.2.1.map aK), .arr 49 3 (y.2.2.2.2.1.map aI), .arr 52 4 (y.2.2.2.2.2.map aH)] rn | e => Q e σ'))) : Lp F hv Q σ := by
  unfold Lp
  refine ⟨Nat × Int × (List ByteArray) × (List aD) × (List aB) × (List aA), fun x => cB.l0 x.1 x.2.1 x.2.2.1 x.2.2.2.1 x.2.2.2.2.1 x.2.2.2.2.2 E3 = some r ∧ x.1 < k + 1, fun x => x.1, [104], fun x => [(25, .int .i64 x.2.1)], fun x => [(104, .box [.own 0 x.2.2.1.length, .own 1 x.2.2.2.1.length, .own 2 x.2.2.2.2.1.length, .own 3 x.2.2.2.2.2.length])], fun x => [.arr 9 1 (x.2.2.1.map aR), .arr 47 2 (x.2.2.2.1.map aK), .arr 49 3 (x.2.2.2.2.1.map aI), .arr 52 4 (x.2.2.2.2.2.map aH)], ⟨(k, x25, p7, p8, p9, q9), rn, ⟨H, Nat.lt_succ_self _⟩, h1⟩, ?_⟩
  rintro ⟨k, x25, p7, p8, p9, q9⟩ ⟨H, hk⟩
  exact h2 k x25 p7 p8 p9 q9 hk H
theorem cB.ac [GvOk G] {k : Nat} {a0 : ByteArray} {r : (List ByteArray) × (List aD) × (List aB) × (List aA) × Int × Int} (H : cB.f k a0 = some r) : cI Tryz.prog G 10 [] [.str a0] [] (.tup [.agg [(aM r.1), (aF r.2.1), (aC r.2.2.1), (aE r.2.2.2.1)], .agg [.int .i64 r.2.2.2.2.1, .int .i64 r.2.2.2.2.2]]) := by
  refine bO tok hP Tryz.func10 rfl (by kernel_rfl) [.cell 2 28, .cell 3 33] rfl (by kernel_rfl) (Nat.le_of_ble_eq_true rfl) (.l .n (.l .n (.l (.c .n (.l (.c .n .n) .n)) (.l .n (.l (.l .n (.l .n (.l .n (.l (.c .n (.l .n (.l .n (.l (.c .n .n) (.l .n (.l (.c .n .n) .n)))))) .n)))) .n))))) rfl ?_
  unfold cB.f at H
  revert H; refine aN (fun E3 A H => (cmk (iA.ac A) rfl rfl (bJ H (fun c H => ?_) (fun c H => ?_))))
  refine Br.t ft_ (Br.t ft_ (Br.t ft_ (cu 104 [(2, .bp 0 0), (3, .bp 8 0), (4, (aM E3)), (20, .bool true)] [(0, .box [.nil, .nil, .nil, .nil]), (8, .box [.int .i64 0, .int .i64 0])] rfl rfl rfl (Br.t rfl (cu 136 [(2, .bp 0 0), (3, .bp 8 0)] [(0, .box [.nil, .nil, .nil, .nil]), (8, .box [.int .i64 0, .int .i64 7])] rfl rfl rfl ?_)))))
  cases H
  exact eT [] (bM (fS (bF (fJ) (bF (fJ) (bF (fJ) (bF (fJ) (fW)))))) (bM (rta rfl) (eB)))
  refine Br.f ff_ (Br.f ff_ (Br.f ff_ (cu 104 [(2, .bp 0 0), (3, .bp 8 0), (4, (aM E3)), (20, .bool (decide ((E3.length : Int) > 200)))] [(0, .box [.nil, .nil, .nil, .nil]), (8, .box [.int .i64 0, .int .i64 0])] rfl rfl rfl (bJ H (fun c H => ?_) (fun c H => ?_)))))
  refine cu 136 [(2, .bp 0 0), (3, .bp 8 0)] [(0, .box [.nil, .nil, .nil, .nil]), (8, .box [.int .i64 0, .int .i64 7])] rfl rfl rfl ?_
  cases H
  exact eT [] (bM (fS (bF (fJ) (bF (fJ) (bF (fJ) (bF (fJ) (fW)))))) (bM (rta rfl) (eB)))
  refine cB.l0_lp (E3 := E3) (k := k) H [none, none, none, none] (bR ⟨.inl ⟨rfl, rfl⟩, trivial⟩ ⟨rfl, ⟨rfl, ⟨rfl, ⟨rfl, trivial⟩⟩⟩⟩ fi_ ⟨⟨_, rfl⟩, ⟨_, rfl, ⟨⟨rfl, rfl⟩, ⟨⟨rfl, rfl⟩, ⟨⟨rfl, rfl⟩, ⟨⟨rfl, rfl⟩, trivial⟩⟩⟩⟩⟩, trivial⟩ rfl) ?_
  intro k x25 p7 p8 p9 q9 hk H; rcases k with _ | k; exact bC H; rw [cB.l0] at H
  refine bJ H (fun c H => ?_) (fun c H => ?_)
  refine nd_ H (fun c H => (Nd.mk nf_ (El.mk (aV _ _ nf_ nf_) (cu 188 [(2, .bp 0 0), (3, .bp 8 0), (5, .bp 104 0), (6, .int .i64 x25), (7, .str (aP ByteArray.empty E3 x25)), (23, (aM E3)), (24, .int .i64 (E3.length : Int)), (25, .int .i64 x25)] [(0, .box [.nil, .nil, .nil, .nil]), (8, .box [.int .i64 0, .int .i64 0]), (104, .box [.own 136 p7.length, .own 137 p8.length, .own 138 p9.length, .own 139 q9.length]), (136, .arr 9 1 (p7.map aR)), (137, .arr 47 2 (p8.map aK)), (138, .arr 49 3 (p9.map aI)), (139, .arr 52 4 (q9.map aH))] rfl rfl rfl ?_))))
  revert H; refine aN (fun O5 A H => (cmk (fX.ac A) rfl rfl (cu 268 [(2, .bp 0 0), (3, .bp 8 0), (5, .bp 104 0), (6, .int .i64 x25), (8, (aM O5.1)), (10, .int .i64 0), (23, (aM E3)), (24, .int .i64 (E3.length : Int)), (25, .int .i64 x25), (36, .bool (!O5.2))] [(0, .box [.nil, .nil, .nil, .nil]), (8, .box [.int .i64 0, .int .i64 0]), (104, .box [.own 136 p7.length, .own 137 p8.length, .own 138 p9.length, .own 139 q9.length]), (136, .arr 9 1 (p7.map aR)), (137, .arr 47 2 (p8.map aK)), (138, .arr 49 3 (p9.map aI)), (139, .arr 52 4 (q9.map aH))] rfl rfl rfl (dU H (fun c H => ?_) (fun c H => ?_)))))
  refine bJ H (fun c H => ?_) (fun c H => ?_)
  revert H; refine aN (fun F6 A H => (nV [104, 136, 137, 138, 139] [.box [.own 136 p7.length, .own 137 p8.length, .own 138 p9.length, .own 139 q9.length], .arr 9 1 (p7.map aR), .arr 47 2 (p8.map aK), .arr 49 3 (p9.map aI), .arr 52 4 (q9.map aH)] [.box [.own 300 F6.2.1.length, .own 301 F6.2.2.1.length, .own 302 F6.2.2.2.1.length, .own 303 F6.2.2.2.2.length], .arr 9 1 (F6.2.1.map aR), .arr 47 2 (F6.2.2.1.map aK), .arr 49 3 (F6.2.2.2.1.map aI), .arr 52 4 (F6.2.2.2.2.map aH)] (dI.ac A) rfl rfl ⟨gB rfl ⟨rfl, ⟨rfl, ⟨rfl, ⟨rfl, trivial⟩⟩⟩⟩, ⟨rfl, ⟨rfl, ⟨rfl, ⟨rfl, trivial⟩⟩⟩⟩⟩ rfl rfl rfl rfl rfl rfl rfl rfl (iS H (fun c H => ?_) (fun c H => ?_))))
  exact ⟨(k, wrap64 (x25 + 1), F6.2.1, F6.2.2.1, F6.2.2.2.1, F6.2.2.2.2), [some 300, some 301, some 302, some 303], ⟨H, lt_⟩, lt_, (bR ⟨.inl ⟨rfl, rfl⟩, trivial⟩ ⟨rfl, ⟨rfl, ⟨rfl, ⟨rfl, trivial⟩⟩⟩⟩ fi_ ⟨⟨_, rfl⟩, ⟨_, rfl, ⟨rfl, ⟨rfl, ⟨rfl, ⟨rfl, trivial⟩⟩⟩⟩⟩, trivial⟩ rfl)⟩
  refine cu 388 [(2, .bp 0 0), (3, .bp 8 0)] [(0, .box [.nil, .nil, .nil, .nil]), (8, .box [.int .i64 (wrap64 (x25 + 1)), .int .i64 F6.1])] rfl rfl rfl ?_
  cases H
  exact eT [] (bM (fS (bF (fJ) (bF (fJ) (bF (fJ) (bF (fJ) (fW)))))) (bM (rta rfl) (eB)))
  refine Br.f (by decide) (⟨(k, wrap64 (x25 + 1), p7, p8, p9, q9), [some 136, some 137, some 138, some 139], ⟨H, lt_⟩, lt_, (bR ⟨.inl ⟨rfl, rfl⟩, trivial⟩ ⟨rfl, ⟨rfl, ⟨rfl, ⟨rfl, trivial⟩⟩⟩⟩ fi_ ⟨⟨_, rfl⟩, ⟨_, rfl, ⟨rfl, ⟨rfl, ⟨rfl, ⟨rfl, trivial⟩⟩⟩⟩⟩, trivial⟩ rfl)⟩)
  refine Br.t (by decide) (cu 348 [(2, .bp 0 0), (3, .bp 8 0)] [(0, .box [.nil, .nil, .nil, .nil]), (8, .box [.int .i64 (wrap64 (x25 + 1)), .int .i64 1])] rfl rfl rfl ?_)
  cases H
  exact eT [] (bM (fS (bF (fJ) (bF (fJ) (bF (fJ) (bF (fJ) (fW)))))) (bM (rta rfl) (eB)))
  cases H
  exact eT [136, 137, 138, 139] (bM (fS (bF (wX rfl rfl) (bF (wX rfl rfl) (bF (wX rfl rfl) (bF (wX rfl rfl) (fW)))))) (bM (rta rfl) (eB)))
theorem eH.l0_lp {F : (Exit → St → Prop) → St → Prop} {hv : List Tmp} {Q : Exit → St → Prop} {σ : St} {r : ByteArray} {k : Nat} {a0 : ByteArray} {x3 : Int} (H : eH.l0 k a0 x3 = some r) (rn : List (Option Nat)) (h1 : cG σ σ [] [(3, .int .i64 x3)] [] [] rn)
    (h2 : ∀ (k0 : Nat) (x3 : Int), k0 < k + 1 → eH.l0 k0 a0 x3 = some r → dL σ hv [] [(3, .int .i64 x3)] [] [] (F (fun e σ' => match e with | .normal => ∃ (y : Nat × Int) (rn : List (Option Nat)), (eH.l0 y.1 a0 y.2 = some r ∧ y.1 < k + 1) ∧ y.1 < k0 ∧ cG σ σ' [] [(3, .int .i64 y.2)] [] [] rn | e => Q e σ'))) : Lp F hv Q σ := by
  unfold Lp
  refine ⟨Nat × Int, fun x => eH.l0 x.1 a0 x.2 = some r ∧ x.1 < k + 1, fun x => x.1, [], fun x => [(3, .int .i64 x.2)], fun x => [], fun x => [], ⟨(k, x3), rn, ⟨H, Nat.lt_succ_self _⟩, h1⟩, ?_⟩
  rintro ⟨k, x3⟩ ⟨H, hk⟩
  exact h2 k x3 hk H
theorem eH.ac {k : Nat} {a0 : ByteArray} {r : ByteArray} (H : eH.f k a0 = some r) : cI Tryz.prog G 65 [] [.str a0] [] (.str r) := by
  refine bO tok hP Tryz.func65 rfl (by kernel_rfl) [.tmp 2] rfl (by kernel_rfl) (Nat.le_of_ble_eq_true rfl) (.l .n (.l (.l .n (.l .n (.l (.c .n .n) .n))) .n)) rfl ?_
  unfold eH.f at H
  refine eH.l0_lp (a0 := a0) (k := k) H [] (fq rfl rfl fi_ rfl) ?_
  intro k x3 hk H; rcases k with _ | k; exact bC H; rw [eH.l0] at H
  refine bJ H (fun c H => ?_) (fun c H => ?_)
  refine nd_ H (fun c H => (Nd.mk nf_ (cu 80 [(0, .str a0), (3, .int .i64 x3), (13, .bool (decide ((bt a0 x3) = 35)))] [] rfl rfl rfl (bJ H (fun c H => ?_) (fun c H => ?_)))))
  refine Nd.mk nf_ (nd_ H (fun c H => ?_))
  cases H
  exact rz rfl
  exact ⟨(k, wrap64 (x3 + 1)), [], ⟨H, lt_⟩, lt_, (fq rfl rfl fi_ rfl)⟩
  cases H
  exact rz rfl
theorem cQ.l0_lp {F : (Exit → St → Prop) → St → Prop} {hv : List Tmp} {Q : Exit → St → Prop} {σ : St} {r : (List ByteArray) × Bool} {k : Nat} {D6 : ByteArray} {x4 : List ByteArray} {x5 : ByteArray} {x7 : Int} (H : cQ.l0 k x4 x5 x7 D6 = some r) (rn : List (Option Nat)) (h1 : cG σ σ [16] [(4, .own 0 x4.length), (5, .str x5), (7, .int .i64 x7)] [] [.arr 9 1 (x4.map aR)] rn)
    (h2 : ∀ (k0 : Nat) (x4 : List ByteArray) (x5 : ByteArray) (x7 : Int), k0 < k + 1 → cQ.l0 k0 x4 x5 x7 D6 = some r → dL σ hv [16] [(4, .own 0 x4.length), (5, .str x5), (7, .int .i64 x7)] [] [.arr 9 1 (x4.map aR)] (F (fun e σ' => match e with | .normal => ∃ (y : Nat × (List ByteArray) × ByteArray × Int) (rn : List (Option Nat)), (cQ.l0 y.1 y.2.1 y.2.2.1 y.2.2.2 D6 = some r ∧ y.1 < k + 1) ∧ y.1 < k0 ∧ cG σ σ' [16] [(4, .own 0 y.2.1.length), (5, .str y.2.2.1), (7, .int .i64 y.2.2.2)] [] [.arr 9 1 (y.2.1.map aR)] rn | e => Q e σ'))) : Lp F hv Q σ := by
  unfold Lp
  refine ⟨Nat × (List ByteArray) × ByteArray × Int, fun x => cQ.l0 x.1 x.2.1 x.2.2.1 x.2.2.2 D6 = some r ∧ x.1 < k + 1, fun x => x.1, [16], fun x => [(4, .own 0 x.2.1.length), (5, .str x.2.2.1), (7, .int .i64 x.2.2.2)], fun x => [], fun x => [.arr 9 1 (x.2.1.map aR)], ⟨(k, x4, x5, x7), rn, ⟨H, Nat.lt_succ_self _⟩, h1⟩, ?_⟩
  rintro ⟨k, x4, x5, x7⟩ ⟨H, hk⟩
  exact h2 k x4 x5 x7 hk H
theorem cQ.ac {k : Nat} {a0 : ByteArray} {r : (List ByteArray) × Bool} (H : cQ.f k a0 = some r) : cI Tryz.prog G 43 [] [.str a0] [] (.tup [(aM r.1), .bool r.2]) := by
  refine bO tok hP Tryz.func43 rfl (by kernel_rfl) [.tmp 2, .tmp 3] rfl (by kernel_rfl) (Nat.le_of_ble_eq_true rfl) (.l .n (.l .n (.l .n (.l .n (.l (.c .n (.l .n (.l (.l (.l .n (.l (.c .n (.l (.c .n (.l (.c .n .n) .n)) .n)) .n)) (.c .n .n)) .n))) (.l (.l .n (.l (.c .n .n) .n)) (.c .n .n))))))) rfl ?_
  unfold cQ.f at H
  refine Or.inl ?_
  revert H; refine aN (fun D6 A H => (cmk (eH.ac A) rfl rfl (nd_ H (fun c H => (jD 80 [(4, .own 16 0), (5, .str (⟨#[]⟩ : ByteArray)), (6, .str (D6 ++ (⟨#[32]⟩ : ByteArray))), (7, .int .i64 0)] [(16, .arr 9 1 (([] : List ByteArray).map aR))] rfl ⟨.inl rfl, ⟨.inl rfl, ⟨.inl rfl, ⟨.inl rfl, trivial⟩⟩⟩⟩ ⟨fm_, trivial⟩ (cQ.l0_lp (D6 := D6) (k := k) H [some 16] (bR ⟨fY lm_, ⟨.inl ⟨rfl, rfl⟩, ⟨.inl ⟨rfl, rfl⟩, trivial⟩⟩⟩ ⟨rfl, trivial⟩ fi_ trivial rfl) ?_))))))
  intro k x4 x5 x7 hk H; rcases k with _ | k; exact bC H; rw [cQ.l0] at H
  refine bJ H (fun c H => ?_) (fun c H => ?_)
  refine nd_ H (fun c H => (Nd.mk nf_ (iS H (fun c H => ?_) (fun c H => ?_))))
  refine cu 161 [(4, .own 80 x4.length), (5, .str x5), (6, .str (D6 ++ (⟨#[32]⟩ : ByteArray))), (7, .int .i64 x7), (42, .bool (!(decide (x5.toList = (⟨#[]⟩ : ByteArray).toList))))] [(80, .arr 9 1 (x4.map aR))] rfl rfl rfl (iS H (fun c H => ?_) (fun c H => ?_))
  exact ⟨(k, x4, _, wrap64 (x7 + 1)), [some 80], ⟨H, lt_⟩, lt_, (bR ⟨rfl, ⟨.inl ⟨rfl, rfl⟩, ⟨.inl ⟨rfl, rfl⟩, trivial⟩⟩⟩ ⟨rfl, trivial⟩ fi_ trivial rfl)⟩
  refine Or.inl (nd_ H (fun c H => (⟨(k, (x4 ++ ([x5] : List ByteArray)), (⟨#[]⟩ : ByteArray), wrap64 (x7 + 1)), [some 185], ⟨H, lt_⟩, lt_, (bR ⟨fY lm_, ⟨.inl ⟨rfl, rfl⟩, ⟨.inl ⟨rfl, rfl⟩, trivial⟩⟩⟩ ⟨fm_, trivial⟩ fi_ trivial rfl)⟩)))
  refine Nd.mk nf_ (nd_ H (fun c H => (nd_ H (fun c H => (nd_ H (fun c H => (cu 209 [(4, .own 80 x4.length), (5, .str (x5 ++ ((D6 ++ (⟨#[32]⟩ : ByteArray)).extract (x7).toNat (wrap64 (x7 + 1)).toNat))), (6, .str (D6 ++ (⟨#[32]⟩ : ByteArray))), (7, .int .i64 x7)] [(80, .arr 9 1 (x4.map aR))] rfl rfl rfl (Nd.mk nf_ (Nd.mk nf_ ?_)))))))))
  revert H; refine aN (fun W8 A H => (cmk (fO.ac A) rfl rfl (dU H (fun c H => ?_) (fun c H => ?_))))
  refine Br.f ff_ (Br.f ff_ (Br.f ff_ (cu 297 [(4, .own 80 x4.length), (5, .str (x5 ++ ((D6 ++ (⟨#[32]⟩ : ByteArray)).extract (x7).toNat (wrap64 (x7 + 1)).toNat))), (6, .str (D6 ++ (⟨#[32]⟩ : ByteArray))), (7, .int .i64 x7), (39, .bool (decide (((x5 ++ ((D6 ++ (⟨#[32]⟩ : ByteArray)).extract (x7).toNat (wrap64 (x7 + 1)).toNat)).size : Int) > 24)))] [(80, .arr 9 1 (x4.map aR))] rfl rfl rfl (bJ H (fun c H => ?_) (fun c H => ?_)))))
  refine Or.inl (jD 321 [(2, .own 297 0), (3, .bool false)] [(297, .arr 9 1 (([] : List ByteArray).map aR))] rfl ⟨.inl rfl, ⟨.inl rfl, trivial⟩⟩ ⟨fm_, trivial⟩ ?_)
  cases H
  exact eT [297] (bM (qO rfl lm_ lm_ rfl) (bM (fV rfl) (eB)))
  exact ⟨(k, x4, x5 ++ ((D6 ++ (⟨#[32]⟩ : ByteArray)).extract (x7).toNat (wrap64 (x7 + 1)).toNat), wrap64 (x7 + 1)), [some 80], ⟨H, lt_⟩, lt_, (bR ⟨rfl, ⟨.inl ⟨rfl, rfl⟩, ⟨.inl ⟨rfl, rfl⟩, trivial⟩⟩⟩ ⟨rfl, trivial⟩ fi_ trivial rfl)⟩
  refine Br.t ft_ (Br.t ft_ (Br.t ft_ (cu 297 [(4, .own 80 x4.length), (5, .str (x5 ++ ((D6 ++ (⟨#[32]⟩ : ByteArray)).extract (x7).toNat (wrap64 (x7 + 1)).toNat))), (6, .str (D6 ++ (⟨#[32]⟩ : ByteArray))), (7, .int .i64 x7), (39, .bool true)] [(80, .arr 9 1 (x4.map aR))] rfl rfl rfl (Br.t rfl (Or.inl (jD 321 [(2, .own 297 0), (3, .bool false)] [(297, .arr 9 1 (([] : List ByteArray).map aR))] rfl ⟨.inl rfl, ⟨.inl rfl, trivial⟩⟩ ⟨fm_, trivial⟩ ?_))))))
  cases H
  exact eT [297] (bM (qO rfl lm_ lm_ rfl) (bM (fV rfl) (eB)))
  refine bJ H (fun c H => ?_) (fun c H => ?_)
  refine Or.inl (jD 161 [(2, .own 137 0), (3, .bool false)] [(137, .arr 9 1 (([] : List ByteArray).map aR))] rfl ⟨.inl rfl, ⟨.inl rfl, trivial⟩⟩ ⟨fm_, trivial⟩ ?_)
  cases H
  exact eT [137] (bM (qO rfl lm_ lm_ rfl) (bM (fV rfl) (eB)))
  refine cu 161 [(2, .own 80 x4.length), (3, .bool true)] [(80, .arr 9 1 (x4.map aR))] rfl rfl rfl ?_
  cases H
  exact eT [80] (bM (nD rfl rfl) (bM (fV rfl) (eB)))
theorem cX.l0_lp {F : (Exit → St → Prop) → St → Prop} {hv : List Tmp} {Q : Exit → St → Prop} {σ : St} {r : (List ByteArray) × (List aD) × (List aB) × (List aA) × Int × Int} {k : Nat} {E7 : List ByteArray} {x6 : Int} {D2 : List ByteArray} {D3 : List aD} {D4 : List aB} {D5 : List aA} (H : cX.l0 k x6 D2 D3 D4 D5 E7 = some r) (rn : List (Option Nat)) (h1 : cG σ σ [112] [(6, .int .i64 x6)] [(112, .box [(aM D2), (aF D3), (aC D4), (aE D5)])] [] rn)
    (h2 : ∀ (k0 : Nat) (x6 : Int) (D2 : List ByteArray) (D3 : List aD) (D4 : List aB) (D5 : List aA), k0 < k + 1 → cX.l0 k0 x6 D2 D3 D4 D5 E7 = some r → dL σ hv [112] [(6, .int .i64 x6)] [(112, .box [(aM D2), (aF D3), (aC D4), (aE D5)])] [] (F (fun e σ' => match e with | .normal => ∃ (y : Nat × Int × (List ByteArray) × (List aD) × (List aB) × (List aA)) (rn : List (Option Nat)), (cX.l0 y.1 y.2.1 y.2.2.1 y.2.2.2.1 y.2.2.2.2.1 y.2.2.2.2.2 E7 = some r ∧ y.1 < k + 1) ∧ y.1 < k0 ∧ cG σ σ' [112] [(6, .int .i64 y.2.1)] [(112, .box [(aM y.2.2.1), (aF y.2.2.2.1), (aC y.2.2.2.2.1), (aE y.2.2.2.2.2)])] [] rn | e => Q e σ'))) : Lp F hv Q σ := by
  unfold Lp
  refine ⟨Nat × Int × (List ByteArray) × (List aD) × (List aB) × (List aA), fun x => cX.l0 x.1 x.2.1 x.2.2.1 x.2.2.2.1 x.2.2.2.2.1 x.2.2.2.2.2 E7 = some r ∧ x.1 < k + 1, fun x => x.1, [112], fun x => [(6, .int .i64 x.2.1)], fun x => [(112, .box [(aM x.2.2.1), (aF x.2.2.2.1), (aC x.2.2.2.2.1), (aE x.2.2.2.2.2)])], fun x => [], ⟨(k, x6, D2, D3, D4, D5), rn, ⟨H, Nat.lt_succ_self _⟩, h1⟩, ?_⟩
  rintro ⟨k, x6, D2, D3, D4, D5⟩ ⟨H, hk⟩
  exact h2 k x6 D2 D3 D4 D5 hk H
theorem cX.ac {k : Nat} {a0 : ByteArray} {r : (List ByteArray) × (List aD) × (List aB) × (List aA) × Int × Int} (H : cX.f k a0 = some r) : cI Tryz.prog G 16 [] [.str a0] [] (.tup [.agg [(aM r.1), (aF r.2.1), (aC r.2.2.1), (aE r.2.2.2.1)], .agg [.int .i64 r.2.2.2.2.1, .int .i64 r.2.2.2.2.2]]) := by
  refine bO tok hP Tryz.func16 rfl (by kernel_rfl) [.cell 2 28, .cell 3 33] rfl (by kernel_rfl) (Nat.le_of_ble_eq_true rfl) (.l .n (.l .n (.l (.c .n (.l (.c .n .n) .n)) (.l .n (.l (.l .n (.l .n (.l (.c .n (.l .n (.l (.l .n (.l .n (.l .n (.f 0 .n .n)))) (.l .n (.l (.c .n .n) .n))))) .n))) (.c .n .n)))))) rfl ?_
  unfold cX.f at H
  revert H; refine aN (fun E7 A H => (cmk (cH.ac A) rfl rfl (bJ H (fun c H => ?_) (fun c H => ?_))))
  refine Br.t ft_ (Br.t ft_ (Br.t ft_ (cu 104 [(2, .bp 0 0), (3, .bp 8 0), (4, (aM E7)), (19, .bool true)] [(0, .box [.nil, .nil, .nil, .nil]), (8, .box [.int .i64 0, .int .i64 0])] rfl rfl rfl (Br.t rfl (cu 136 [(2, .bp 0 0), (3, .bp 8 0)] [(0, .box [.nil, .nil, .nil, .nil]), (8, .box [.int .i64 0, .int .i64 7])] rfl rfl rfl ?_)))))
  cases H
  exact eT [] (bM (fS (bF (fJ) (bF (fJ) (bF (fJ) (bF (fJ) (fW)))))) (bM (rta rfl) (eB)))
  refine Br.f ff_ (Br.f ff_ (Br.f ff_ (cu 104 [(2, .bp 0 0), (3, .bp 8 0), (4, (aM E7)), (19, .bool (decide ((E7.length : Int) > 200)))] [(0, .box [.nil, .nil, .nil, .nil]), (8, .box [.int .i64 0, .int .i64 0])] rfl rfl rfl (bJ H (fun c H => ?_) (fun c H => ?_)))))
  refine cu 136 [(2, .bp 0 0), (3, .bp 8 0)] [(0, .box [.nil, .nil, .nil, .nil]), (8, .box [.int .i64 0, .int .i64 7])] rfl rfl rfl ?_
  cases H
  exact eT [] (bM (fS (bF (fJ) (bF (fJ) (bF (fJ) (bF (fJ) (fW)))))) (bM (rta rfl) (eB)))
  refine cX.l0_lp (E7 := E7) (k := k) H [] (bR ⟨.inl ⟨rfl, rfl⟩, trivial⟩ trivial fi_ ⟨⟨_, rfl⟩, ⟨_, rfl, ⟨.inr ⟨rfl, _, rfl⟩, ⟨.inr ⟨rfl, _, rfl⟩, ⟨.inr ⟨rfl, _, rfl⟩, ⟨.inr ⟨rfl, _, rfl⟩, trivial⟩⟩⟩⟩⟩, trivial⟩ rfl) ?_
  intro k x6 D2 D3 D4 D5 hk H; rcases k with _ | k; exact bC H; rw [cX.l0] at H
  refine bJ H (fun c H => ?_) (fun c H => ?_)
  refine nd_ H (fun c H => (Nd.mk nf_ (El.mk (aV _ _ nf_ nf_) ?_)))
  revert H; refine aN (fun N6 A H => (cmk (cQ.ac A) rfl rfl (cu 248 [(2, .bp 0 0), (3, .bp 8 0), (4, (aM E7)), (5, .bp 112 0), (6, .int .i64 x6), (7, (aM N6.1)), (8, .bool N6.2)] [(0, .box [.nil, .nil, .nil, .nil]), (8, .box [.int .i64 0, .int .i64 0]), (112, .box [(aM D2), (aF D3), (aC D4), (aE D5)])] rfl rfl rfl (dU H (fun c H => ?_) (fun c H => ?_)))))
  refine bJ H (fun c H => ?_) (fun c H => ?_)
  refine vD 296 [] [(2, .bp 0 0), (3, .bp 8 0), (4, (aM E7)), (5, .bp 112 0), (6, .int .i64 x6), (7, (aM N6.1))] [(0, .box [.nil, .nil, .nil, .nil]), (8, .box [.int .i64 0, .int .i64 0]), (112, .box [(aM D2), (aF D3), (aC D4), (aE D5)])] rfl rfl ⟨.inl (.inl rfl), ⟨.inl (.inl rfl), ⟨.inl (.inl rfl), ⟨.inl (.inl rfl), ⟨.inl (.inl rfl), ⟨.inl (.inl rfl), trivial⟩⟩⟩⟩⟩⟩ ⟨.inl (rfl), ⟨.inl (rfl), ⟨.inl (rfl), trivial⟩⟩⟩ ?_
  revert H; refine aN (fun I5 A H => (cmk (gW.ac A) rfl rfl (iS H (fun c H => ?_) (fun c H => ?_))))
  exact ⟨(k, wrap64 (x6 + 1), I5.1, I5.2.1, I5.2.2.1, I5.2.2.2.1), [], ⟨H, lt_⟩, lt_, (bR ⟨.inl ⟨rfl, rfl⟩, trivial⟩ trivial fi_ ⟨⟨_, rfl⟩, ⟨_, rfl, ⟨.inl ⟨rfl, rfl⟩, ⟨.inl ⟨rfl, rfl⟩, ⟨.inl ⟨rfl, rfl⟩, ⟨.inl ⟨rfl, rfl⟩, trivial⟩⟩⟩⟩⟩, trivial⟩ rfl)⟩
  refine cu 432 [(2, .bp 0 0), (3, .bp 8 0)] [(0, .box [.nil, .nil, .nil, .nil]), (8, .box [.int .i64 (wrap64 (x6 + 1)), .int .i64 I5.2.2.2.2])] rfl rfl rfl ?_
  cases H
  exact eT [] (bM (fS (bF (fJ) (bF (fJ) (bF (fJ) (bF (fJ) (fW)))))) (bM (rta rfl) (eB)))
  refine vD 296 [] [(2, .bp 0 0), (3, .bp 8 0), (4, (aM E7)), (5, .bp 112 0), (6, .int .i64 x6), (9, .int .i64 0)] [(0, .box [.nil, .nil, .nil, .nil]), (8, .box [.int .i64 0, .int .i64 0]), (112, .box [(aM D2), (aF D3), (aC D4), (aE D5)])] rfl rfl ⟨.inl (.inl rfl), ⟨.inl (.inl rfl), ⟨.inl (.inl rfl), ⟨.inl (.inl rfl), ⟨.inl (.inl rfl), ⟨.inl (.inl rfl), trivial⟩⟩⟩⟩⟩⟩ ⟨.inl (rfl), ⟨.inl (rfl), ⟨.inl (rfl), trivial⟩⟩⟩ (Br.f (by decide) (⟨(k, wrap64 (x6 + 1), _, _, _, _), [], ⟨H, lt_⟩, lt_, (bR ⟨.inl ⟨rfl, rfl⟩, trivial⟩ trivial fi_ ⟨⟨_, rfl⟩, ⟨_, rfl, ⟨.inl ⟨rfl, rfl⟩, ⟨.inl ⟨rfl, rfl⟩, ⟨.inl ⟨rfl, rfl⟩, ⟨.inl ⟨rfl, rfl⟩, trivial⟩⟩⟩⟩⟩, trivial⟩ rfl)⟩))
  refine Br.t (by decide) (cu 352 [(2, .bp 0 0), (3, .bp 8 0)] [(0, .box [.nil, .nil, .nil, .nil]), (8, .box [.int .i64 (wrap64 (x6 + 1)), .int .i64 1])] rfl rfl rfl ?_)
  cases H
  exact eT [] (bM (fS (bF (fJ) (bF (fJ) (bF (fJ) (bF (fJ) (fW)))))) (bM (rta rfl) (eB)))
  revert H; refine aN (fun K6 A H => (cmk (dT.ac A) rfl rfl (cu 208 [(2, .bp 0 0), (3, .bp 8 0)] [(0, .box [(aM K6.1), (aF K6.2.1), (aC K6.2.2.1), (aE K6.2.2.2)]), (8, .box [.int .i64 0, .int .i64 0])] rfl rfl rfl ?_)))
  cases H
  exact rts rfl
theorem dW.l0_lp {F : (Exit → St → Prop) → St → Prop} {hv : List Tmp} {Q : Exit → St → Prop} {σ : St} {r : Bool} {k : Nat} {l0 : List ByteArray} {l1 : List ByteArray} {x5 : Int} (H : dW.l0 k l0 l1 x5 = some r) (rn : List (Option Nat)) (h1 : cG σ σ [] [(5, .int .i64 x5)] [] [] rn)
    (h2 : ∀ (k0 : Nat) (x5 : Int), k0 < k + 1 → dW.l0 k0 l0 l1 x5 = some r → dL σ hv [] [(5, .int .i64 x5)] [] [] (F (fun e σ' => match e with | .normal => ∃ (y : Nat × Int) (rn : List (Option Nat)), (dW.l0 y.1 l0 l1 y.2 = some r ∧ y.1 < k + 1) ∧ y.1 < k0 ∧ cG σ σ' [] [(5, .int .i64 y.2)] [] [] rn | e => Q e σ'))) : Lp F hv Q σ := by
  unfold Lp
  refine ⟨Nat × Int, fun x => dW.l0 x.1 l0 l1 x.2 = some r ∧ x.1 < k + 1, fun x => x.1, [], fun x => [(5, .int .i64 x.2)], fun x => [], fun x => [], ⟨(k, x5), rn, ⟨H, Nat.lt_succ_self _⟩, h1⟩, ?_⟩
  rintro ⟨k, x5⟩ ⟨H, hk⟩
  exact h2 k x5 hk H
theorem dW.ac {k : Nat} {l0 : List ByteArray} {l1 : List ByteArray} {r : Bool} (H : dW.f k l0 l1 = some r) : cI Tryz.prog G 33 [] [(aM l0), (aM l1)] [] (.bool r) := by
  refine bO tok hP Tryz.func33 rfl (by kernel_rfl) [.tmp 4] rfl (by kernel_rfl) (Nat.le_of_ble_eq_true rfl) (.l .n (.l .n (.l (.l .n (.l (.c .n .n) (.l (.l .n (.l (.c .n .n) .n)) .n))) .n))) rfl ?_
  unfold dW.f at H
  refine iS H (fun c H => ?_) (fun c H => ?_)
  refine dW.l0_lp (l0 := l0) (l1 := l1) (k := k) H [] (fq rfl rfl fi_ rfl) ?_
  intro k x5 hk H; rcases k with _ | k; exact bC H; rw [dW.l0] at H
  refine cu 88 [(0, (aM l0)), (1, (aM l1)), (5, .int .i64 x5), (14, .bool (decide (x5 < (l0.length : Int))))] [] rfl rfl rfl (bJ H (fun c H => ?_) (fun c H => ?_))
  refine nd_ H (fun c H => (Nd.mk nf_ (El.mk (aV _ _ nf_ nf_) (Nd.mk nf_ (nd_ H (fun c H => (El.mk (aV _ _ nf_ nf_) (iS H (fun c H => ?_) (fun c H => ?_)))))))))
  exact ⟨(k, wrap64 (x5 + 1)), [], ⟨H, lt_⟩, lt_, (fq rfl rfl fi_ rfl)⟩
  refine cu 168 [(4, .bool false)] [] rfl rfl rfl ?_
  cases H
  exact rz rfl
  cases H
  exact rz rfl
  cases H
  exact rz rfl
end Go.Proofs.YtnobkcplpbkigaaGreatDoor.PT
