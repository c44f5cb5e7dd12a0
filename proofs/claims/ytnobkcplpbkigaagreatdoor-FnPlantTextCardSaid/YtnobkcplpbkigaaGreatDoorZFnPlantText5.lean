import Derived.Test.YtnobkcplpbkigaaGreatDoorZFnPlantText4
import Derived.Shelf.Lay
import Derived.Shelf.Sort.AssemblyIn
import Derived.Ground.SoProg
import Derived.Ground.GgsProg
import Derived.Deep.QuietTactic
import Derived.BigQuiet
import Derived.Test.YtnobkcplpbkigaaGreatDoorProg
import Derived.KernelRfl
set_option linter.unusedVariables false
set_option linter.unusedSimpArgs false
namespace Go.Proofs.YtnobkcplpbkigaaGreatDoor.PT
open Go Go.Aw Go.RowKit Go.Proofs
set_option maxRecDepth 100000
set_option maxHeartbeats 40000000
variable {G : Nat → Option Obj}
attribute [local irreducible] jW Lp Sq Cut lH lA cG
theorem bE.l2_lp {F : (Exit → St → Prop) → St → Prop} {hv : List Tmp} {Q : Exit → St → Prop} {σ : St} {r : Bool} {k : Nat} {a7 : List aA} {A8 : List aA} {x7 : Int} (H : bE.l2 k a7 A8 x7 = some r) (rn : List (Option Nat)) (h1 : cG σ σ [] [(7, .int .i64 x7)] [] [] rn)
    (h2 : ∀ (k0 : Nat) (x7 : Int), k0 < k + 1 → bE.l2 k0 a7 A8 x7 = some r → dL σ hv [] [(7, .int .i64 x7)] [] [] (F (fun e σ' => match e with | .normal => ∃ (y : Nat × Int) (rn : List (Option Nat)), (bE.l2 y.1 a7 A8 y.2 = some r ∧ y.1 < k + 1) ∧ y.1 < k0 ∧ cG σ σ' [] [(7, .int .i64 y.2)] [] [] rn | e => Q e σ'))) : Lp F hv Q σ := by
  unfold Lp
  refine ⟨Nat × Int, fun x => bE.l2 x.1 a7 A8 x.2 = some r ∧ x.1 < k + 1, fun x => x.1, [], fun x => [(7, .int .i64 x.2)], fun x => [], fun x => [], ⟨(k, x7), rn, ⟨H, Nat.lt_succ_self _⟩, h1⟩, ?_⟩
  rintro ⟨k, x7⟩ ⟨H, hk⟩
  exact h2 k x7 hk H
theorem bE.l1_lp {F : (Exit → St → Prop) → St → Prop} {hv : List Tmp} {Q : Exit → St → Prop} {σ : St} {r : Bool} {k : Nat} {a9 : List aB} {a7 : List aA} {s9 : List aB} {A8 : List aA} {x6 : Int} (H : bE.l1 k a9 a7 s9 A8 x6 = some r) (rn : List (Option Nat)) (h1 : cG σ σ [] [(6, .int .i64 x6)] [] [] rn)
    (h2 : ∀ (k0 : Nat) (x6 : Int), k0 < k + 1 → bE.l1 k0 a9 a7 s9 A8 x6 = some r → dL σ hv [] [(6, .int .i64 x6)] [] [] (F (fun e σ' => match e with | .normal => ∃ (y : Nat × Int) (rn : List (Option Nat)), (bE.l1 y.1 a9 a7 s9 A8 y.2 = some r ∧ y.1 < k + 1) ∧ y.1 < k0 ∧ cG σ σ' [] [(6, .int .i64 y.2)] [] [] rn | e => Q e σ'))) : Lp F hv Q σ := by
  unfold Lp
  refine ⟨Nat × Int, fun x => bE.l1 x.1 a9 a7 s9 A8 x.2 = some r ∧ x.1 < k + 1, fun x => x.1, [], fun x => [(6, .int .i64 x.2)], fun x => [], fun x => [], ⟨(k, x6), rn, ⟨H, Nat.lt_succ_self _⟩, h1⟩, ?_⟩
  rintro ⟨k, x6⟩ ⟨H, hk⟩
  exact h2 k x6 hk H
theorem bE.l0_lp {F : (Exit → St → Prop) → St → Prop} {hv : List Tmp} {Q : Exit → St → Prop} {σ : St} {r : Bool} {k : Nat} {a8 : List aD} {a9 : List aB} {a7 : List aA} {w6 : List aD} {s9 : List aB} {A8 : List aA} {x5 : Int} (H : bE.l0 k a8 a9 a7 w6 s9 A8 x5 = some r) (rn : List (Option Nat)) (h1 : cG σ σ [] [(5, .int .i64 x5)] [] [] rn)
    (h2 : ∀ (k0 : Nat) (x5 : Int), k0 < k + 1 → bE.l0 k0 a8 a9 a7 w6 s9 A8 x5 = some r → dL σ hv [] [(5, .int .i64 x5)] [] [] (F (fun e σ' => match e with | .normal => ∃ (y : Nat × Int) (rn : List (Option Nat)), (bE.l0 y.1 a8 a9 a7 w6 s9 A8 y.2 = some r ∧ y.1 < k + 1) ∧ y.1 < k0 ∧ cG σ σ' [] [(5, .int .i64 y.2)] [] [] rn | e => Q e σ'))) : Lp F hv Q σ := by
  unfold Lp
  refine ⟨Nat × Int, fun x => bE.l0 x.1 a8 a9 a7 w6 s9 A8 x.2 = some r ∧ x.1 < k + 1, fun x => x.1, [], fun x => [(5, .int .i64 x.2)], fun x => [], fun x => [], ⟨(k, x5), rn, ⟨H, Nat.lt_succ_self _⟩, h1⟩, ?_⟩
  rintro ⟨k, x5⟩ ⟨H, hk⟩
  exact h2 k x5 hk H
theorem bE.ac {k : Nat} {b8 : List ByteArray} {a8 : List aD} {a9 : List aB} {a7 : List aA} {D7 : List ByteArray} {w6 : List aD} {s9 : List aB} {A8 : List aA} {r : Bool} (H : bE.f k b8 a8 a9 a7 D7 w6 s9 A8 = some r) : cI Tryz.prog G 11 [] [.agg [(aM b8), (aF a8), (aC a9), (aE a7)], .agg [(aM D7), (aF w6), (aC s9), (aE A8)]] [] (.bool r) := by
  refine bO tok hP Tryz.func11 rfl (by kernel_rfl) [.tmp 4] rfl (by kernel_rfl) (Nat.le_of_ble_eq_true rfl) (.l .n (.l (.c .n (.l (.c .n .n) .n)) (.l (.c .n (.l .n (.l (.c .n .n) .n))) (.l (.l .n (.l (.c .n .n) (.l (.c .n .n) .n))) (.l (.l .n (.l .n (.l (.c .n .n) .n))) .n))))) rfl ?_
  unfold bE.f at H
  revert H; refine aN (fun W9 A H => (cmk (dW.ac A) rfl rfl (dU H (fun c H => ?_) (fun c H => ?_))))
  refine Br.f ff_ (Br.f ff_ (Br.f ff_ (Br.f ff_ (Br.f ff_ (Br.f ff_ (Br.f ff_ (iS H (fun c H => ?_) (fun c H => ?_))))))))
  refine Br.f ff_ (Br.f ff_ (Br.f ff_ (Br.f ff_ (Br.f ff_ (Br.f ff_ (Br.f ff_ (iS H (fun c H => ?_) (fun c H => ?_))))))))
  refine Br.f ff_ (Br.f ff_ (Br.f ff_ (Br.f ff_ (Br.f ff_ (Br.f ff_ (Br.f ff_ (cu 288 [(2, .bp 0 0), (3, .bp 8 0), (40, .bool (!(decide ((a7.length : Int) = (A8.length : Int)))))] [(0, .box [(aM b8), (aF a8), (aC a9), (aE a7)]), (8, .box [(aM D7), (aF w6), (aC s9), (aE A8)])] rfl rfl rfl (iS H (fun c H => ?_) (fun c H => ?_)))))))))
  refine cu 296 [(2, .bp 0 0), (3, .bp 8 0), (5, .int .i64 0)] [(0, .box [(aM b8), (aF a8), (aC a9), (aE a7)]), (8, .box [(aM D7), (aF w6), (aC s9), (aE A8)])] rfl rfl rfl (bE.l0_lp (a8 := a8) (a9 := a9) (a7 := a7) (w6 := w6) (s9 := s9) (A8 := A8) (k := k) H [] (fq rfl rfl fi_ rfl) ?_)
  intro k x5 hk H; rcases k with _ | k; exact bC H; rw [bE.l0] at H
  refine bJ H (fun c H => ?_) (fun c H => ?_)
  refine nd_ H (fun c H => (Nd.mk nf_ (El.mk (cA _ _ nf_ nf_) (Nd.mk nf_ (nd_ H (fun c H => (El.mk (cA _ _ nf_ nf_) (cu 424 [(2, .bp 0 0), (3, .bp 8 0), (5, .int .i64 x5), (58, .bool (!(decide (((aQ a8 x5).f0).toList = ((aQ w6 x5).f0).toList) && (decide (((aQ a8 x5).f1).toList = ((aQ w6 x5).f1).toList) && true))))] [(0, .box [(aM b8), (aF a8), (aC a9), (aE a7)]), (8, .box [(aM D7), (aF w6), (aC s9), (aE A8)])] rfl rfl rfl (dU H (fun c H => ?_) (fun c H => ?_))))))))))
  exact ⟨(k, wrap64 (x5 + 1)), [], ⟨H, lt_⟩, lt_, (fq rfl rfl fi_ rfl)⟩
  cases H
  exact rz rfl
  refine bE.l1_lp (a9 := a9) (a7 := a7) (s9 := s9) (A8 := A8) (k := k) H [] (fq rfl rfl fi_ rfl) ?_
  intro k x6 hk H; rcases k with _ | k; exact bC H; rw [bE.l1] at H
  refine cu 384 [(2, .bp 0 0), (3, .bp 8 0), (6, .int .i64 x6), (63, .bool (decide (x6 < (a9.length : Int))))] [(0, .box [(aM b8), (aF a8), (aC a9), (aE a7)]), (8, .box [(aM D7), (aF w6), (aC s9), (aE A8)])] rfl rfl rfl (bJ H (fun c H => ?_) (fun c H => ?_))
  refine nd_ H (fun c H => (Nd.mk nf_ (El.mk (cF _ _ nf_ nf_) (Nd.mk nf_ (nd_ H (fun c H => (El.mk (cF _ _ nf_ nf_) (cu 472 [(2, .bp 0 0), (3, .bp 8 0), (6, .int .i64 x6), (76, .bool (!(decide (((aL a9 x6).f0).toList = ((aL s9 x6).f0).toList) && (decide (((aL a9 x6).f1) = ((aL s9 x6).f1)) && (decide (((aL a9 x6).f2).toList = ((aL s9 x6).f2).toList) && true)))))] [(0, .box [(aM b8), (aF a8), (aC a9), (aE a7)]), (8, .box [(aM D7), (aF w6), (aC s9), (aE A8)])] rfl rfl rfl (dU H (fun c H => ?_) (fun c H => ?_))))))))))
  exact ⟨(k, wrap64 (x6 + 1)), [], ⟨H, lt_⟩, lt_, (fq rfl rfl fi_ rfl)⟩
  cases H
  exact rz rfl
  refine bE.l2_lp (a7 := a7) (A8 := A8) (k := k) H [] (fq rfl rfl fi_ rfl) ?_
  intro k x7 hk H; rcases k with _ | k; exact bC H; rw [bE.l2] at H
  refine bJ H (fun c H => ?_) (fun c H => ?_)
  refine nd_ H (fun c H => (Nd.mk nf_ (El.mk (dA _ _ nf_ nf_) (Nd.mk nf_ (nd_ H (fun c H => (El.mk (dA _ _ nf_ nf_) (cu 520 [(2, .bp 0 0), (3, .bp 8 0), (7, .int .i64 x7), (94, .bool (!(decide (((aG a7 x7).f0).toList = ((aG A8 x7).f0).toList) && (decide (((aG a7 x7).f1).toList = ((aG A8 x7).f1).toList) && (decide (((aG a7 x7).f2).toList = ((aG A8 x7).f2).toList) && (decide (((aG a7 x7).f3).toList = ((aG A8 x7).f3).toList) && true))))))] [(0, .box [(aM b8), (aF a8), (aC a9), (aE a7)]), (8, .box [(aM D7), (aF w6), (aC s9), (aE A8)])] rfl rfl rfl (dU H (fun c H => ?_) (fun c H => ?_))))))))))
  exact ⟨(k, wrap64 (x7 + 1)), [], ⟨H, lt_⟩, lt_, (fq rfl rfl fi_ rfl)⟩
  cases H
  exact rz rfl
  cases H
  exact rz rfl
  refine cu 296 [(4, .bool false)] [] rfl rfl rfl ?_
  cases H
  exact rz rfl
  refine Br.t ft_ (Br.t ft_ (Br.t ft_ (Br.t ft_ (Br.t ft_ (Br.t ft_ (Br.t ft_ (cu 288 [(2, .bp 0 0), (3, .bp 8 0), (40, .bool true)] [(0, .box [(aM b8), (aF a8), (aC a9), (aE a7)]), (8, .box [(aM D7), (aF w6), (aC s9), (aE A8)])] rfl rfl rfl (Br.t rfl (cu 296 [(4, .bool false)] [] rfl rfl rfl ?_)))))))))
  cases H
  exact rz rfl
  refine Br.t ft_ (Br.t ft_ (Br.t ft_ (Br.t ft_ (Br.t ft_ (Br.t ft_ (Br.t ft_ (Br.t rfl (Br.t rfl (Br.t rfl (Br.t rfl (Br.t rfl (Br.t rfl (Br.t rfl (Br.t rfl (cu 288 [(2, .bp 0 0), (3, .bp 8 0), (40, .bool true)] [(0, .box [(aM b8), (aF a8), (aC a9), (aE a7)]), (8, .box [(aM D7), (aF w6), (aC s9), (aE A8)])] rfl rfl rfl (Br.t rfl (cu 296 [(4, .bool false)] [] rfl rfl rfl ?_)))))))))))))))))
  cases H
  exact rz rfl
  refine Br.t ft_ (Br.t ft_ (Br.t ft_ (Br.t ft_ (Br.t ft_ (Br.t ft_ (Br.t ft_ (Br.t rfl (Br.t rfl (Br.t rfl (Br.t rfl (Br.t rfl (Br.t rfl (Br.t rfl (Br.t rfl (Br.t rfl (Br.t rfl (Br.t rfl (Br.t rfl (Br.t rfl (Br.t rfl (Br.t rfl (Br.t rfl (cu 288 [(2, .bp 0 0), (3, .bp 8 0), (40, .bool true)] [(0, .box [(aM b8), (aF a8), (aC a9), (aE a7)]), (8, .box [(aM D7), (aF w6), (aC s9), (aE A8)])] rfl rfl rfl ?_)))))))))))))))))))))))
  refine Br.t rfl (cu 296 [(4, .bool false)] [] rfl rfl rfl ?_)
  cases H
  exact rz rfl
theorem eA.l0_lp {F : (Exit → St → Prop) → St → Prop} {hv : List Tmp} {Q : Exit → St → Prop} {σ : St} {r : Bool} {k : Nat} {l0 : List ByteArray} {x3 : Int} (H : eA.l0 k l0 x3 = some r) (rn : List (Option Nat)) (h1 : cG σ σ [] [(3, .int .i64 x3)] [] [] rn)
    (h2 : ∀ (k0 : Nat) (x3 : Int), k0 < k + 1 → eA.l0 k0 l0 x3 = some r → dL σ hv [] [(3, .int .i64 x3)] [] [] (F (fun e σ' => match e with | .normal => ∃ (y : Nat × Int) (rn : List (Option Nat)), (eA.l0 y.1 l0 y.2 = some r ∧ y.1 < k + 1) ∧ y.1 < k0 ∧ cG σ σ' [] [(3, .int .i64 y.2)] [] [] rn | e => Q e σ'))) : Lp F hv Q σ := by
  unfold Lp
  refine ⟨Nat × Int, fun x => eA.l0 x.1 l0 x.2 = some r ∧ x.1 < k + 1, fun x => x.1, [], fun x => [(3, .int .i64 x.2)], fun x => [], fun x => [], ⟨(k, x3), rn, ⟨H, Nat.lt_succ_self _⟩, h1⟩, ?_⟩
  rintro ⟨k, x3⟩ ⟨H, hk⟩
  exact h2 k x3 hk H
theorem eA.ac {k : Nat} {l0 : List ByteArray} {r : Bool} (H : eA.f k l0 = some r) : cI Tryz.prog G 49 [] [(aM l0)] [] (.bool r) := by
  refine bO tok hP Tryz.func49 rfl (by kernel_rfl) [.tmp 2] rfl (by kernel_rfl) (Nat.le_of_ble_eq_true rfl) (.l .n (.l (.l .n (.l .n (.l (.c .n .n) .n))) .n)) rfl ?_
  unfold eA.f at H
  refine eA.l0_lp (l0 := l0) (k := k) H [] (fq rfl rfl fi_ rfl) ?_
  intro k x3 hk H; rcases k with _ | k; exact bC H; rw [eA.l0] at H
  refine bJ H (fun c H => ?_) (fun c H => ?_)
  refine nd_ H (fun c H => (nd_ H (fun c H => (El.mk (aV _ _ nf_ nf_) (nd_ H (fun c H => (Nd.mk nf_ (El.mk (aV _ _ nf_ nf_) (cu 128 [(0, (aM l0)), (3, .int .i64 x3), (19, .bool (!(Op.bytesLess (aP ByteArray.empty l0 (wrap64 (x3 - 1))).toList (aP ByteArray.empty l0 x3).toList)))] [] rfl rfl rfl (dU H (fun c H => ?_) (fun c H => ?_)))))))))))
  exact ⟨(k, wrap64 (x3 + 1)), [], ⟨H, lt_⟩, lt_, (fq rfl rfl fi_ rfl)⟩
  cases H
  exact rz rfl
  cases H
  exact rz rfl
theorem eR.l0_lp {F : (Exit → St → Prop) → St → Prop} {hv : List Tmp} {Q : Exit → St → Prop} {σ : St} {r : Bool} {k : Nat} {l0 : List ByteArray} {x7 : Int} (H : eR.l0 k l0 x7 = some r) (rn : List (Option Nat)) (h1 : cG σ σ [] [(7, .int .i64 x7)] [] [] rn)
    (h2 : ∀ (k0 : Nat) (x7 : Int), k0 < k + 1 → eR.l0 k0 l0 x7 = some r → dL σ hv [] [(7, .int .i64 x7)] [] [] (F (fun e σ' => match e with | .normal => ∃ (y : Nat × Int) (rn : List (Option Nat)), (eR.l0 y.1 l0 y.2 = some r ∧ y.1 < k + 1) ∧ y.1 < k0 ∧ cG σ σ' [] [(7, .int .i64 y.2)] [] [] rn | e => Q e σ'))) : Lp F hv Q σ := by
  unfold Lp
  refine ⟨Nat × Int, fun x => eR.l0 x.1 l0 x.2 = some r ∧ x.1 < k + 1, fun x => x.1, [], fun x => [(7, .int .i64 x.2)], fun x => [], fun x => [], ⟨(k, x7), rn, ⟨H, Nat.lt_succ_self _⟩, h1⟩, ?_⟩
  rintro ⟨k, x7⟩ ⟨H, hk⟩
  exact h2 k x7 hk H
theorem eR.ac {k : Nat} {l0 : List ByteArray} {r : Bool} (H : eR.f k l0 = some r) : cI Tryz.prog G 21 [] [(aM l0)] [] (.bool r) := by
  refine bO tok hP Tryz.func21 rfl (by kernel_rfl) [.tmp 2] rfl (by kernel_rfl) (Nat.le_of_ble_eq_true rfl) (.l .n (.l (.l .n (.l .n (.l .n (.l (.l .n (.c .n .n)) .n)))) .n)) rfl ?_
  unfold eR.f at H
  refine eR.l0_lp (l0 := l0) (k := k) H [] (fq rfl rfl fi_ rfl) ?_
  intro k x7 hk H; rcases k with _ | k; exact bC H; rw [eR.l0] at H
  refine bJ H (fun c H => ?_) (fun c H => ?_)
  refine nd_ H (fun c H => (Nd.mk nf_ (El.mk (aV _ _ nf_ nf_) ?_)))
  revert H; refine aN (fun T4 A H => (cmk (bZ.ac A) rfl rfl (cu 88 [(0, (aM l0)), (5, (aM l0)), (6, .int .i64 (l0.length : Int)), (7, .int .i64 x7), (13, .bool (!T4))] [] rfl rfl rfl (dU H (fun c H => ?_) (fun c H => ?_)))))
  exact ⟨(k, wrap64 (x7 + 1)), [], ⟨H, lt_⟩, lt_, (fq rfl rfl fi_ rfl)⟩
  cases H
  exact rz rfl
  revert H; refine aN (fun X0 A H => (cmk (eA.ac A) rfl rfl ?_))
  cases H
  exact rz rfl
theorem dX.l0_lp {F : (Exit → St → Prop) → St → Prop} {hv : List Tmp} {Q : Exit → St → Prop} {σ : St} {r : Bool} {k : Nat} {l0 : List bW} {a1 : Int} {x9 : Int} (H : dX.l0 k l0 a1 x9 = some r) (rn : List (Option Nat)) (h1 : cG σ σ [] [(9, .int .i64 x9)] [] [] rn)
    (h2 : ∀ (k0 : Nat) (x9 : Int), k0 < k + 1 → dX.l0 k0 l0 a1 x9 = some r → dL σ hv [] [(9, .int .i64 x9)] [] [] (F (fun e σ' => match e with | .normal => ∃ (y : Nat × Int) (rn : List (Option Nat)), (dX.l0 y.1 l0 a1 y.2 = some r ∧ y.1 < k + 1) ∧ y.1 < k0 ∧ cG σ σ' [] [(9, .int .i64 y.2)] [] [] rn | e => Q e σ'))) : Lp F hv Q σ := by
  unfold Lp
  refine ⟨Nat × Int, fun x => dX.l0 x.1 l0 a1 x.2 = some r ∧ x.1 < k + 1, fun x => x.1, [], fun x => [(9, .int .i64 x.2)], fun x => [], fun x => [], ⟨(k, x9), rn, ⟨H, Nat.lt_succ_self _⟩, h1⟩, ?_⟩
  rintro ⟨k, x9⟩ ⟨H, hk⟩
  exact h2 k x9 hk H
theorem dX.ac {k : Nat} {l0 : List bW} {a1 : Int} {r : Bool} (H : dX.f k l0 a1 = some r) : cI Tryz.prog G 22 [] [(dJ l0), .int .i64 a1] [] (.bool r) := by
  refine bO tok hP Tryz.func22 rfl (by kernel_rfl) [.tmp 4] rfl (by kernel_rfl) (Nat.le_of_ble_eq_true rfl) (.l .n (.l (.l .n (.l .n (.l .n (.l (.c .n (.l (.c .n (.l (.c .n .n) .n)) (.c .n (.l (.c .n .n) .n)))) .n)))) (.c .n .n))) rfl ?_
  unfold dX.f at H
  refine dX.l0_lp (l0 := l0) (a1 := a1) (k := k) H [] (fq rfl rfl fi_ rfl) ?_
  intro k x9 hk H; rcases k with _ | k; exact bC H; rw [dX.l0] at H
  refine bJ H (fun c H => ?_) (fun c H => ?_)
  refine nd_ H (fun c H => (Nd.mk nf_ (El.mk (gT _ _ nf_ nf_) (cu 88 [(0, (dJ l0)), (1, .int .i64 a1), (5, .int .i64 x9), (6, .bp 64 0), (7, (dJ l0)), (8, .int .i64 (l0.length : Int)), (9, .int .i64 x9)] [(64, .box [.str ((cL l0 x9).f0), .str ((cL l0 x9).f1)])] rfl rfl rfl ?_))))
  revert H; refine aN (fun X1 A H => (cmk (bZ.ac A) rfl rfl (dU H (fun c H => ?_) (fun c H => ?_))))
  refine Br.f ff_ (Br.f ff_ ?_)
  revert H; refine aN (fun X2 A H => (cmk (bZ.ac A) rfl rfl (Br.f ff_ (Br.f ff_ (dU H (fun c H => ?_) (fun c H => ?_))))))
  refine Br.f ff_ (Br.f ff_ (Br.f ff_ (Br.f ff_ (Br.f ff_ (cu 224 [(0, (dJ l0)), (1, .int .i64 a1), (5, .int .i64 x9), (6, .bp 64 0), (7, (dJ l0)), (8, .int .i64 (l0.length : Int)), (9, .int .i64 x9), (30, .bool (!(Op.bytesLess ((cL l0 x9).f0).toList ((cL l0 x9).f1).toList)))] [(64, .box [.str ((cL l0 x9).f0), .str ((cL l0 x9).f1)])] rfl rfl rfl (dU H (fun c H => ?_) (fun c H => ?_)))))))
  refine bJ H (fun c H => ?_) (fun c H => ?_)
  refine Br.t ft_ (Br.t ft_ (Br.t ft_ (nd_ H (fun c H => (nd_ H (fun c H => (El.mk (gT _ _ nf_ nf_) (Br.t ft_ (Br.t ft_ (Br.t ft_ (Br.t ft_ (Br.t ft_ (Br.t ft_ (kN H (fun c H => ?_) (fun c H => ?_)))))))))))))))
  refine Br.t ft_ (Br.t ft_ (Br.t ft_ (Br.t ft_ (Br.t ft_ (Br.t ft_ (Br.t ft_ (Br.t ft_ (Br.t ft_ (Br.t ft_ (Br.t ft_ (Br.t ft_ (Br.t ft_ (cu 504 [(0, (dJ l0)), (1, .int .i64 a1), (7, (dJ l0)), (8, .int .i64 (l0.length : Int)), (9, .int .i64 x9), (65, .bool true)] [] rfl rfl rfl (Br.t rfl (cu 512 [(4, .bool false)] [] rfl rfl rfl ?_)))))))))))))))
  cases H
  exact rz rfl
  refine Br.f ff_ (Br.f ff_ (Br.f ff_ (Nd.mk nf_ (Nd.mk nf_ (El.mk (gT _ _ nf_ nf_) (Br.f ff_ (Br.f ff_ (Br.f ff_ (Br.f ff_ (Br.f ff_ (Br.f ff_ (bJ H (fun c H => ?_) (fun c H => ?_)))))))))))))
  refine Br.t ft_ (Br.t ft_ (Br.t ft_ (Nd.mk nf_ (Nd.mk nf_ (El.mk (gT _ _ nf_ nf_) (Br.t ft_ (Br.t ft_ (Br.t ft_ (Br.t ft_ (Br.t ft_ (Br.f ff_ (Br.t ft_ (Br.t ft_ (Br.f ff_ (Br.t ft_ (cu 504 [(0, (dJ l0)), (1, .int .i64 a1), (7, (dJ l0)), (8, .int .i64 (l0.length : Int)), (9, .int .i64 x9), (65, .bool (!(Op.bytesLess ((cL l0 (wrap64 (x9 - 1))).f1).toList ((cL l0 x9).f1).toList)))] [] rfl rfl rfl (dU H (fun c H => ?_) (fun c H => ?_))))))))))))))))))
  exact ⟨(k, wrap64 (x9 + 1)), [], ⟨H, lt_⟩, lt_, (fq rfl rfl fi_ rfl)⟩
  refine cu 512 [(4, .bool false)] [] rfl rfl rfl ?_
  cases H
  exact rz rfl
  refine Br.f ff_ (Br.f ff_ (Br.f ff_ (Br.f ff_ (Br.f ff_ (Br.f ff_ (Br.f ff_ (Br.f ff_ (Br.f ff_ (Br.f ff_ (Br.t ft_ (Br.f ff_ (Br.t ft_ (cu 504 [(0, (dJ l0)), (1, .int .i64 a1), (7, (dJ l0)), (8, .int .i64 (l0.length : Int)), (9, .int .i64 x9), (65, .bool false)] [] rfl rfl rfl (Br.f rfl (⟨(k, wrap64 (x9 + 1)), [], ⟨H, lt_⟩, lt_, (fq rfl rfl fi_ rfl)⟩)))))))))))))))
  refine Br.f ff_ (Br.f ff_ (Br.f ff_ (Br.f ff_ (Br.f ff_ (Br.f ff_ (Br.f ff_ (Br.f ff_ (Br.f ff_ (Br.f ff_ (Br.f ff_ (cu 504 [(0, (dJ l0)), (1, .int .i64 a1), (7, (dJ l0)), (8, .int .i64 (l0.length : Int)), (9, .int .i64 x9), (65, .bool false)] [] rfl rfl rfl (Br.f rfl (⟨(k, wrap64 (x9 + 1)), [], ⟨H, lt_⟩, lt_, (fq rfl rfl fi_ rfl)⟩)))))))))))))
  refine cu 232 [(4, .bool false)] [] rfl rfl rfl ?_
  cases H
  exact rz rfl
  refine Br.t ft_ (Br.t ft_ (Br.t ft_ (Br.t ft_ (Br.t ft_ (cu 224 [(0, (dJ l0)), (1, .int .i64 a1), (5, .int .i64 x9), (6, .bp 64 0), (7, (dJ l0)), (8, .int .i64 (l0.length : Int)), (9, .int .i64 x9), (30, .bool true)] [(64, .box [.str ((cL l0 x9).f0), .str ((cL l0 x9).f1)])] rfl rfl rfl (Br.t rfl (cu 232 [(4, .bool false)] [] rfl rfl rfl ?_)))))))
  cases H
  exact rz rfl
  refine Br.t ft_ (Br.t ft_ (Br.t ft_ (Br.t ft_ (Br.t rfl (Br.t rfl (Br.t rfl (Br.t rfl (Br.t rfl (Br.t rfl (cu 224 [(0, (dJ l0)), (1, .int .i64 a1), (5, .int .i64 x9), (6, .bp 64 0), (7, (dJ l0)), (8, .int .i64 (l0.length : Int)), (9, .int .i64 x9), (30, .bool true)] [(64, .box [.str ((cL l0 x9).f0), .str ((cL l0 x9).f1)])] rfl rfl rfl (Br.t rfl (cu 232 [(4, .bool false)] [] rfl rfl rfl ?_))))))))))))
  cases H
  exact rz rfl
  refine cu 80 [(4, .bool (decide ((l0.length : Int) ≤ a1)))] [] rfl rfl rfl ?_
  cases H
  exact rz rfl
theorem aU.j0_sq {F : (Exit → St → Prop) → St → Prop} {hv : List Tmp} {K : St → Prop} {Q : Exit → St → Prop} {σ : St} {r : Bool} {KK : Nat} {b8 : List ByteArray} {a8 : List aD} {a9 : List aB} {a7 : List aA} {A9 : Int}
    (h1 : F (fun e σ' => match e with | .normal => ∃ (y : Nat × Bool) (rn : List (Option Nat)), (aU.j0 y.1 b8 a8 a9 a7 A9 y.2 = some r ∧ y.1 < KK) ∧ cG σ σ' [] [(170, .bool y.2)] [] [] rn | e => Q e σ') σ)
    (h2 : ∀ (k : Nat) (O9 : Bool), k < KK → aU.j0 k b8 a8 a9 a7 A9 O9 = some r → dL σ hv [] [(170, .bool O9)] [] [] K) : Sq F hv K Q σ := by
  unfold Sq
  refine ⟨Nat × Bool, fun x => aU.j0 x.1 b8 a8 a9 a7 A9 x.2 = some r ∧ x.1 < KK, [], fun x => [(170, .bool x.2)], fun x => [], fun x => [], h1, ?_⟩
  rintro ⟨k, O9⟩ ⟨H, hk⟩
  exact h2 k O9 hk H
theorem aU.l2_lp {F : (Exit → St → Prop) → St → Prop} {hv : List Tmp} {Q : Exit → St → Prop} {σ : St} {r : Bool} {k : Nat} {b8 : List ByteArray} {a8 : List aD} {a9 : List aB} {a7 : List aA} {A9 : Int} (H : aU.l2 k b8 a8 a9 a7 A9 = some r) (rn : List (Option Nat)) (h1 : cG σ σ [] [(111, .int .i64 A9)] [] [] rn)
    (h2 : ∀ (k0 : Nat) (A9 : Int), k0 < k + 1 → aU.l2 k0 b8 a8 a9 a7 A9 = some r → dL σ hv [] [(111, .int .i64 A9)] [] [] (F (fun e σ' => match e with | .normal => ∃ (y : Nat × Int) (rn : List (Option Nat)), (aU.l2 y.1 b8 a8 a9 a7 y.2 = some r ∧ y.1 < k + 1) ∧ y.1 < k0 ∧ cG σ σ' [] [(111, .int .i64 y.2)] [] [] rn | e => Q e σ'))) : Lp F hv Q σ := by
  unfold Lp
  refine ⟨Nat × Int, fun x => aU.l2 x.1 b8 a8 a9 a7 x.2 = some r ∧ x.1 < k + 1, fun x => x.1, [], fun x => [(111, .int .i64 x.2)], fun x => [], fun x => [], ⟨(k, A9), rn, ⟨H, Nat.lt_succ_self _⟩, h1⟩, ?_⟩
  rintro ⟨k, A9⟩ ⟨H, hk⟩
  exact h2 k A9 hk H
theorem aU.l1_lp {F : (Exit → St → Prop) → St → Prop} {hv : List Tmp} {Q : Exit → St → Prop} {σ : St} {r : Bool} {k : Nat} {b8 : List ByteArray} {a8 : List aD} {a9 : List aB} {a7 : List aA} {x66 : Int} (H : aU.l1 k b8 a8 a9 a7 x66 = some r) (rn : List (Option Nat)) (h1 : cG σ σ [] [(66, .int .i64 x66)] [] [] rn)
    (h2 : ∀ (k0 : Nat) (x66 : Int), k0 < k + 1 → aU.l1 k0 b8 a8 a9 a7 x66 = some r → dL σ hv [] [(66, .int .i64 x66)] [] [] (F (fun e σ' => match e with | .normal => ∃ (y : Nat × Int) (rn : List (Option Nat)), (aU.l1 y.1 b8 a8 a9 a7 y.2 = some r ∧ y.1 < k + 1) ∧ y.1 < k0 ∧ cG σ σ' [] [(66, .int .i64 y.2)] [] [] rn | e => Q e σ'))) : Lp F hv Q σ := by
  unfold Lp
  refine ⟨Nat × Int, fun x => aU.l1 x.1 b8 a8 a9 a7 x.2 = some r ∧ x.1 < k + 1, fun x => x.1, [], fun x => [(66, .int .i64 x.2)], fun x => [], fun x => [], ⟨(k, x66), rn, ⟨H, Nat.lt_succ_self _⟩, h1⟩, ?_⟩
  rintro ⟨k, x66⟩ ⟨H, hk⟩
  exact h2 k x66 hk H
theorem aU.l0_lp {F : (Exit → St → Prop) → St → Prop} {hv : List Tmp} {Q : Exit → St → Prop} {σ : St} {r : Bool} {k : Nat} {b8 : List ByteArray} {a8 : List aD} {a9 : List aB} {a7 : List aA} {x44 : Int} (H : aU.l0 k b8 a8 a9 a7 x44 = some r) (rn : List (Option Nat)) (h1 : cG σ σ [] [(44, .int .i64 x44)] [] [] rn)
    (h2 : ∀ (k0 : Nat) (x44 : Int), k0 < k + 1 → aU.l0 k0 b8 a8 a9 a7 x44 = some r → dL σ hv [] [(44, .int .i64 x44)] [] [] (F (fun e σ' => match e with | .normal => ∃ (y : Nat × Int) (rn : List (Option Nat)), (aU.l0 y.1 b8 a8 a9 a7 y.2 = some r ∧ y.1 < k + 1) ∧ y.1 < k0 ∧ cG σ σ' [] [(44, .int .i64 y.2)] [] [] rn | e => Q e σ'))) : Lp F hv Q σ := by
  unfold Lp
  refine ⟨Nat × Int, fun x => aU.l0 x.1 b8 a8 a9 a7 x.2 = some r ∧ x.1 < k + 1, fun x => x.1, [], fun x => [(44, .int .i64 x.2)], fun x => [], fun x => [], ⟨(k, x44), rn, ⟨H, Nat.lt_succ_self _⟩, h1⟩, ?_⟩
  rintro ⟨k, x44⟩ ⟨H, hk⟩
  exact h2 k x44 hk H
theorem aU.ac {k : Nat} {b8 : List ByteArray} {a8 : List aD} {a9 : List aB} {a7 : List aA} {r : Bool} (H : aU.f k b8 a8 a9 a7 = some r) : cI Tryz.prog G 8 [] [.agg [(aM b8), (aF a8), (aC a9), (aE a7)]] [] (.bool r) := by
  refine bO tok hP Tryz.func8 rfl (by kernel_rfl) [.tmp 2] rfl (by kernel_rfl) (Nat.le_of_ble_eq_true rfl) (.l .n (.l (.c .n (.l (.c .n .n) .n)) (.l (.l .n (.l .n (.l .n (.l (.l .n (.c .n (.l (.c .n .n) .n))) .n)))) (.l (.l .n (.c .n (.l .n (.l (.l .n (.c .n (.l (.c .n .n) .n))) .n)))) (.l (.l .n (.l .n (.l .n (.l (.c .n (.l .n (.c .n (.j .n (.l (.c .n .n) .n))))) .n)))) .n))))) rfl ?_
  unfold aU.f at H
  refine bJ H (fun c H => ?_) (fun c H => ?_)
  refine Br.t ft_ (Br.t ft_ (Br.t ft_ (Br.t ft_ (Br.t rfl (Br.t rfl (Br.t rfl (Br.t rfl (Br.t rfl (Br.t rfl (Br.t rfl (Br.t rfl (Br.t rfl (Br.t rfl (Br.t rfl (Br.t rfl (Br.t rfl (Br.t rfl (Br.t rfl (cu 240 [(1, .bp 0 0), (40, .bool true)] [(0, .box [(aM b8), (aF a8), (aC a9), (aE a7)])] rfl rfl rfl (Br.t rfl (cu 248 [(2, .bool false)] [] rfl rfl rfl ?_)))))))))))))))))))))
  cases H
  exact rz rfl
  refine Br.f ff_ (Br.f ff_ ?_)
  revert H; refine aN (fun X8 A H => (cmk (eR.ac A) rfl rfl (Br.f ff_ (Br.f ff_ (dU H (fun c H => ?_) (fun c H => ?_))))))
  refine Br.f ff_ ?_
  revert H; refine aN (fun X9 A H => (cmk (bK.ac A) rfl rfl (Br.f ff_ ?_)))
  revert H; refine aN (fun Y0 A H => (cmk (dX.ac A) rfl rfl (Br.f ff_ (Br.f ff_ (dU H (fun c H => ?_) (fun c H => ?_))))))
  refine Br.f ff_ (Br.f ff_ (Br.f ff_ (Br.f ff_ (bJ H (fun c H => ?_) (fun c H => ?_)))))
  refine Br.t ft_ (Br.t ft_ (Br.t ft_ (Br.t ft_ (cu 240 [(1, .bp 0 0), (40, .bool true)] [(0, .box [(aM b8), (aF a8), (aC a9), (aE a7)])] rfl rfl rfl (Br.t rfl (cu 248 [(2, .bool false)] [] rfl rfl rfl ?_))))))
  cases H
  exact rz rfl
  refine Br.f ff_ (Br.f ff_ (Br.f ff_ (Br.f ff_ (cu 240 [(1, .bp 0 0), (40, .bool (decide ((a7.length : Int) > 18)))] [(0, .box [(aM b8), (aF a8), (aC a9), (aE a7)])] rfl rfl rfl (bJ H (fun c H => ?_) (fun c H => ?_))))))
  refine cu 248 [(2, .bool false)] [] rfl rfl rfl ?_
  cases H
  exact rz rfl
  refine aU.l0_lp (b8 := b8) (a8 := a8) (a9 := a9) (a7 := a7) (k := k) H [] (fq rfl rfl fi_ rfl) ?_
  intro k x44 hk H; rcases k with _ | k; exact bC H; rw [aU.l0] at H
  refine bJ H (fun c H => ?_) (fun c H => ?_)
  refine nd_ H (fun c H => (Nd.mk nf_ (El.mk (cA _ _ nf_ nf_) ?_)))
  revert H; refine aN (fun X7 A H => (cmk (gF.ac A) rfl rfl (dU H (fun c H => ?_) (fun c H => ?_))))
  refine Br.f ff_ (Br.f ff_ (Br.f ff_ (Br.f ff_ ?_)))
  revert H; refine aN (fun T7 A H => (cmk (gF.ac A) rfl rfl (Br.f ff_ (Br.f ff_ (cu 424 [(1, .bp 0 0), (42, (aF a8)), (43, .int .i64 (a8.length : Int)), (44, .int .i64 x44), (61, .bool (!T7))] [(0, .box [(aM b8), (aF a8), (aC a9), (aE a7)])] rfl rfl rfl (dU H (fun c H => ?_) (fun c H => ?_)))))))
  exact ⟨(k, wrap64 (x44 + 1)), [], ⟨H, lt_⟩, lt_, (fq rfl rfl fi_ rfl)⟩
  refine cu 432 [(2, .bool false)] [] rfl rfl rfl ?_
  cases H
  exact rz rfl
  refine Br.t ft_ (Br.t ft_ (Br.t ft_ (Br.t ft_ (Br.t ft_ (Br.t ft_ (cu 424 [(1, .bp 0 0), (42, (aF a8)), (43, .int .i64 (a8.length : Int)), (44, .int .i64 x44), (61, .bool true)] [(0, .box [(aM b8), (aF a8), (aC a9), (aE a7)])] rfl rfl rfl (Br.t rfl (cu 432 [(2, .bool false)] [] rfl rfl rfl ?_))))))))
  cases H
  exact rz rfl
  refine aU.l1_lp (b8 := b8) (a8 := a8) (a9 := a9) (a7 := a7) (k := k) H [] (fq rfl rfl fi_ rfl) ?_
  intro k x66 hk H; rcases k with _ | k; exact bC H; rw [aU.l1] at H
  refine cu 320 [(1, .bp 0 0), (64, (aC a9)), (65, .int .i64 (a9.length : Int)), (66, .int .i64 x66), (67, .bool (decide (x66 < (a9.length : Int))))] [(0, .box [(aM b8), (aF a8), (aC a9), (aE a7)])] rfl rfl rfl (bJ H (fun c H => ?_) (fun c H => ?_))
  refine nd_ H (fun c H => (Nd.mk nf_ (El.mk (cF _ _ nf_ nf_) ?_)))
  revert H; refine aN (fun X5 A H => (cmk (bZ.ac A) rfl rfl (dU H (fun c H => ?_) (fun c H => ?_))))
  refine Br.f ff_ (Br.f ff_ (Br.f ff_ (bJ H (fun c H => ?_) (fun c H => ?_))))
  refine Br.t ft_ (Br.t ft_ (Br.t ft_ (Br.t rfl (Br.t rfl (Br.t rfl (Br.t rfl (Br.t rfl (Br.t rfl (Br.t rfl (Br.t rfl (Br.t rfl (Br.t rfl (cu 656 [(1, .bp 0 0), (64, (aC a9)), (65, .int .i64 (a9.length : Int)), (66, .int .i64 x66), (106, .bool true)] [(0, .box [(aM b8), (aF a8), (aC a9), (aE a7)])] rfl rfl rfl (Br.t rfl (cu 664 [(2, .bool false)] [] rfl rfl rfl ?_)))))))))))))))
  cases H
  exact rz rfl
  refine Br.f ff_ (Br.f ff_ (Br.f ff_ (bJ H (fun c H => ?_) (fun c H => ?_))))
  refine Br.t ft_ (Br.t ft_ (Br.t ft_ (Br.t ft_ (Br.t rfl (Br.t rfl (Br.t rfl (Br.t rfl (Br.t rfl (cu 656 [(1, .bp 0 0), (64, (aC a9)), (65, .int .i64 (a9.length : Int)), (66, .int .i64 x66), (106, .bool true)] [(0, .box [(aM b8), (aF a8), (aC a9), (aE a7)])] rfl rfl rfl (Br.t rfl (cu 664 [(2, .bool false)] [] rfl rfl rfl ?_)))))))))))
  cases H
  exact rz rfl
  refine Br.f ff_ (Br.f ff_ ?_)
  revert H; refine aN (fun X6 A H => (cmk (bZ.ac A) rfl rfl (Br.f ff_ (Br.f ff_ (dU H (fun c H => ?_) (fun c H => ?_))))))
  refine Br.f ff_ (Br.f ff_ (bJ H (fun c H => ?_) (fun c H => ?_)))
  refine Br.t ft_ (Br.t ft_ (Br.t ft_ (Br.t ft_ (nd_ H (fun c H => (nd_ H (fun c H => (El.mk (cF _ _ nf_ nf_) (Br.t ft_ (Br.t ft_ (Br.t ft_ (Br.t ft_ (Br.t ft_ (Br.f ff_ (Br.t ft_ (Br.f ff_ (cu 656 [(1, .bp 0 0), (64, (aC a9)), (65, .int .i64 (a9.length : Int)), (66, .int .i64 x66), (106, .bool (!(Op.bytesLess ((aL a9 (wrap64 (x66 - 1))).f0).toList ((aL a9 x66).f0).toList)))] [(0, .box [(aM b8), (aF a8), (aC a9), (aE a7)])] rfl rfl rfl (dU H (fun c H => ?_) (fun c H => ?_)))))))))))))))))))
  exact ⟨(k, wrap64 (x66 + 1)), [], ⟨H, lt_⟩, lt_, (fq rfl rfl fi_ rfl)⟩
  refine cu 664 [(2, .bool false)] [] rfl rfl rfl ?_
  cases H
  exact rz rfl
  refine Br.f ff_ (Br.f ff_ (Br.f ff_ (Br.f ff_ (Br.f ff_ (Br.f ff_ (Br.f ff_ (Br.f ff_ (Br.f ff_ (Br.f ff_ (Br.f ff_ (Br.f ff_ (cu 656 [(1, .bp 0 0), (64, (aC a9)), (65, .int .i64 (a9.length : Int)), (66, .int .i64 x66), (106, .bool false)] [(0, .box [(aM b8), (aF a8), (aC a9), (aE a7)])] rfl rfl rfl (Br.f rfl (⟨(k, wrap64 (x66 + 1)), [], ⟨H, lt_⟩, lt_, (fq rfl rfl fi_ rfl)⟩))))))))))))))
  refine Br.t ft_ (Br.t ft_ (Br.t ft_ (Br.t ft_ (cu 656 [(1, .bp 0 0), (64, (aC a9)), (65, .int .i64 (a9.length : Int)), (66, .int .i64 x66), (106, .bool true)] [(0, .box [(aM b8), (aF a8), (aC a9), (aE a7)])] rfl rfl rfl (Br.t rfl (cu 664 [(2, .bool false)] [] rfl rfl rfl ?_))))))
  cases H
  exact rz rfl
  refine Br.t ft_ (Br.t ft_ (Br.t ft_ (Br.t rfl (Br.t rfl (Br.t rfl (Br.t rfl (Br.t rfl (Br.t rfl (Br.t rfl (Br.t rfl (Br.t rfl (Br.t rfl (Br.t rfl (Br.t rfl (Br.t rfl (Br.t rfl (cu 656 [(1, .bp 0 0), (64, (aC a9)), (65, .int .i64 (a9.length : Int)), (66, .int .i64 x66), (106, .bool true)] [(0, .box [(aM b8), (aF a8), (aC a9), (aE a7)])] rfl rfl rfl (Br.t rfl (cu 664 [(2, .bool false)] [] rfl rfl rfl ?_)))))))))))))))))))
  cases H
  exact rz rfl
  refine aU.l2_lp (b8 := b8) (a8 := a8) (a9 := a9) (a7 := a7) (k := k) H [] (fq rfl rfl fi_ rfl) ?_
  intro k A9 hk H; rcases k with _ | k; exact bC H; rw [aU.l2] at H
  refine bJ H (fun c H => ?_) (fun c H => ?_)
  refine nd_ H (fun c H => (Nd.mk nf_ (El.mk (dA _ _ nf_ nf_) (cu 408 [(1, .bp 0 0), (7, .int .i64 A9), (8, .bp 384 0), (109, (aE a7)), (110, .int .i64 (a7.length : Int)), (111, .int .i64 A9)] [(0, .box [(aM b8), (aF a8), (aC a9), (aE a7)]), (384, .box [.str ((aG a7 A9).f0), .str ((aG a7 A9).f1), .str ((aG a7 A9).f2), .str ((aG a7 A9).f3)])] rfl rfl rfl ?_))))
  revert H; refine aN (fun T5 A H => (cmk (bN.ac A) rfl rfl ?_))
  revert H; refine aN (fun T6 A H => (cmk (bN.ac A) rfl rfl (cu 568 [(1, .bp 0 0), (7, .int .i64 A9), (8, .bp 384 0), (10, .bool T5.2.2.2), (12, .bool T6.2.2.2), (109, (aE a7)), (110, .int .i64 (a7.length : Int)), (111, .int .i64 A9)] [(0, .box [(aM b8), (aF a8), (aC a9), (aE a7)]), (384, .box [.str ((aG a7 A9).f0), .str ((aG a7 A9).f1), .str ((aG a7 A9).f2), .str ((aG a7 A9).f3)])] rfl rfl rfl (aU.j0_sq (b8 := b8) (a8 := a8) (a9 := a9) (a7 := a7) (A9 := A9) (KK := k + 1) (r := r) ?_ ?_))))
  revert H; refine aN (fun X3 A H => (cmk (bZ.ac A) rfl rfl (dU H (fun c H => ?_) (fun c H => ?_))))
  refine Br.f ff_ (Br.f ff_ (dU H (fun c H => ?_) (fun c H => ?_)))
  refine Br.f ff_ (Br.f ff_ (dU H (fun c H => ?_) (fun c H => ?_)))
  refine Br.f ff_ (Br.f ff_ (Br.f ff_ (Br.f ff_ (Br.f ff_ (dU H (fun c H => ?_) (fun c H => ?_))))))
  refine Br.f ff_ (Br.f ff_ ?_)
  revert H; refine aN (fun X4 A H => (cmk (bZ.ac A) rfl rfl (Br.f ff_ (Br.f ff_ (dU H (fun c H => ?_) (fun c H => ?_))))))
  refine Br.f ff_ (Br.f ff_ (bJ H (fun c H => ?_) (fun c H => ?_)))
  refine Br.t ft_ (Br.t ft_ (Br.t ft_ (Br.t ft_ (nd_ H (fun c H => (nd_ H (fun c H => (El.mk (dA _ _ nf_ nf_) (Br.t ft_ (Br.t ft_ (Br.t ft_ (Br.t ft_ (Br.t ft_ (Br.f ff_ (Br.t ft_ (Br.f ff_ (⟨(k, !(Op.bytesLess ((aG a7 (wrap64 (A9 - 1))).f0).toList ((aG a7 A9).f0).toList)), [], ⟨H, lt_⟩, (fq rfl rfl fi_ rfl)⟩)))))))))))))))))
  refine Br.f ff_ (Br.f ff_ (Br.f ff_ (Br.f ff_ (Br.f ff_ (Br.f ff_ (Br.f ff_ (Br.f ff_ (Br.f ff_ (Br.f ff_ (Br.f ff_ (Br.f ff_ (⟨(k, false), [], ⟨H, lt_⟩, (fq rfl rfl fi_ rfl)⟩))))))))))))
  refine Br.t ft_ (Br.t ft_ (Br.t ft_ (Br.t ft_ (⟨(k, true), [], ⟨H, lt_⟩, (fq rfl rfl fi_ rfl)⟩))))
  refine Br.t ft_ (Br.t ft_ (Br.t ft_ (Br.t ft_ (Br.t rfl (Br.t rfl (Br.t rfl (Br.t rfl (Br.t rfl (⟨(k, true), [], ⟨H, lt_⟩, (fq rfl rfl fi_ rfl)⟩)))))))))
  refine Br.t ft_ (Br.t ft_ (Br.t ft_ (Br.t ft_ (Br.t ft_ (Br.t rfl (Br.t rfl (Br.t rfl (Br.t rfl (Br.t rfl (Br.t rfl (Br.t rfl (Br.t rfl (Br.t rfl (Br.t rfl (⟨(k, true), [], ⟨H, lt_⟩, (fq rfl rfl fi_ rfl)⟩)))))))))))))))
  refine Br.t ft_ (Br.t ft_ (Br.t rfl (Br.t rfl (Br.t rfl (Br.t rfl (Br.t rfl (Br.t rfl (Br.t rfl (Br.t rfl (Br.t rfl (Br.t rfl (Br.t rfl (Br.t rfl (Br.t rfl (Br.t rfl (Br.t rfl (Br.t rfl (⟨(k, true), [], ⟨H, lt_⟩, (fq rfl rfl fi_ rfl)⟩))))))))))))))))))
  refine Br.t ft_ (Br.t ft_ (Br.t rfl (Br.t rfl (Br.t rfl (Br.t rfl (Br.t rfl (Br.t rfl (Br.t rfl (Br.t rfl (Br.t rfl (Br.t rfl (Br.t rfl (Br.t rfl (Br.t rfl (Br.t rfl (Br.t rfl (Br.t rfl (Br.t rfl (Br.t rfl (Br.t rfl (⟨(k, true), [], ⟨H, lt_⟩, (fq rfl rfl fi_ rfl)⟩)))))))))))))))))))))
  intro k O9 hk H; rcases k with _ | k; exact bC H; rw [aU.j0] at H
  refine kN H (fun c H => ?_) (fun c H => ?_)
  refine cu 576 [(2, .bool false)] [] rfl rfl rfl ?_
  cases H
  exact rz rfl
  exact ⟨(k, wrap64 (A9 + 1)), [], ⟨H, lt_⟩, lt_, (fq rfl rfl fi_ rfl)⟩
  cases H
  exact rz rfl
  refine Br.t ft_ (Br.t ft_ (Br.t ft_ (Br.t ft_ (Br.t rfl (Br.t rfl (Br.t rfl (Br.t rfl (Br.t rfl (cu 240 [(1, .bp 0 0), (40, .bool true)] [(0, .box [(aM b8), (aF a8), (aC a9), (aE a7)])] rfl rfl rfl (Br.t rfl (cu 248 [(2, .bool false)] [] rfl rfl rfl ?_)))))))))))
  cases H
  exact rz rfl
  refine Br.t ft_ (Br.t ft_ (Br.t ft_ (Br.t ft_ (Br.t rfl (Br.t rfl (Br.t rfl (Br.t rfl (Br.t rfl (Br.t rfl (Br.t rfl (Br.t rfl (Br.t rfl (Br.t rfl (cu 240 [(1, .bp 0 0), (40, .bool true)] [(0, .box [(aM b8), (aF a8), (aC a9), (aE a7)])] rfl rfl rfl (Br.t rfl (cu 248 [(2, .bool false)] [] rfl rfl rfl ?_))))))))))))))))
  cases H
  exact rz rfl
end Go.Proofs.YtnobkcplpbkigaaGreatDoor.PT
namespace Go.Proofs
open Go.Shelf Go.Sort Go.RowKit in
shelf_lay LaysM.n171 Nm 171 at Tryz as Tryz.gx171
end Go.Proofs
namespace Go.Proofs.YtnobkcplpbkigaaGreatDoor.PT
open Go Go.Aw Go.RowKit Go.Proofs
set_option maxRecDepth 100000
set_option maxHeartbeats 40000000
variable {G : Nat → Option Obj}
attribute [local irreducible] jW Lp Sq Cut lH lA cG
theorem strconv_Itoa.ac [GvOk G] {x0 : Int} {r : ByteArray} (H : strconv_Itoa.f x0 = some r) : cI Tryz.prog G 19 [] [.int .i64 x0] [] (.str r) := by
  exact aGC Tryz.gx171 ⟨_, Tryz.func19, by kernel_rfl, by kernel_rfl⟩ GvOk.t rfl (by kernel_rfl) H
theorem aT.l3_lp {F : (Exit → St → Prop) → St → Prop} {hv : List Tmp} {Q : Exit → St → Prop} {σ : St} {r : ByteArray} {k : Nat} {a7 : List aA} {D9 : ByteArray} {x85 : Int} (H : aT.l3 k a7 D9 x85 = some r) (rn : List (Option Nat)) (h1 : cG σ σ [0] [(3, .str D9), (85, .int .i64 x85)] [] [] rn)
    (h2 : ∀ (k0 : Nat) (D9 : ByteArray) (x85 : Int), k0 < k + 1 → aT.l3 k0 a7 D9 x85 = some r → dL σ hv [0] [(3, .str D9), (85, .int .i64 x85)] [] [] (F (fun e σ' => match e with | .normal => ∃ (y : Nat × ByteArray × Int) (rn : List (Option Nat)), (aT.l3 y.1 a7 y.2.1 y.2.2 = some r ∧ y.1 < k + 1) ∧ y.1 < k0 ∧ cG σ σ' [0] [(3, .str y.2.1), (85, .int .i64 y.2.2)] [] [] rn | e => Q e σ'))) : Lp F hv Q σ := by
  unfold Lp
  refine ⟨Nat × ByteArray × Int, fun x => aT.l3 x.1 a7 x.2.1 x.2.2 = some r ∧ x.1 < k + 1, fun x => x.1, [0], fun x => [(3, .str x.2.1), (85, .int .i64 x.2.2)], fun x => [], fun x => [], ⟨(k, D9, x85), rn, ⟨H, Nat.lt_succ_self _⟩, h1⟩, ?_⟩
  rintro ⟨k, D9, x85⟩ ⟨H, hk⟩
  exact h2 k D9 x85 hk H
theorem aT.l2_lp {F : (Exit → St → Prop) → St → Prop} {hv : List Tmp} {Q : Exit → St → Prop} {σ : St} {r : ByteArray} {k : Nat} {a9 : List aB} {a7 : List aA} {D1 : ByteArray} {x49 : Int} (H : aT.l2 k a9 a7 D1 x49 = some r) (rn : List (Option Nat)) (h1 : cG σ σ [] [(3, .str D1), (49, .int .i64 x49)] [] [] rn)
    (h2 : ∀ (k0 : Nat) (D1 : ByteArray) (x49 : Int), k0 < k + 1 → aT.l2 k0 a9 a7 D1 x49 = some r → dL σ hv [] [(3, .str D1), (49, .int .i64 x49)] [] [] (F (fun e σ' => match e with | .normal => ∃ (y : Nat × ByteArray × Int) (rn : List (Option Nat)), (aT.l2 y.1 a9 a7 y.2.1 y.2.2 = some r ∧ y.1 < k + 1) ∧ y.1 < k0 ∧ cG σ σ' [] [(3, .str y.2.1), (49, .int .i64 y.2.2)] [] [] rn | e => Q e σ'))) : Lp F hv Q σ := by
  unfold Lp
  refine ⟨Nat × ByteArray × Int, fun x => aT.l2 x.1 a9 a7 x.2.1 x.2.2 = some r ∧ x.1 < k + 1, fun x => x.1, [], fun x => [(3, .str x.2.1), (49, .int .i64 x.2.2)], fun x => [], fun x => [], ⟨(k, D1, x49), rn, ⟨H, Nat.lt_succ_self _⟩, h1⟩, ?_⟩
  rintro ⟨k, D1, x49⟩ ⟨H, hk⟩
  exact h2 k D1 x49 hk H
theorem aT.l1_lp {F : (Exit → St → Prop) → St → Prop} {hv : List Tmp} {Q : Exit → St → Prop} {σ : St} {r : ByteArray} {k : Nat} {a8 : List aD} {a9 : List aB} {a7 : List aA} {d7 : ByteArray} {x31 : Int} (H : aT.l1 k a8 a9 a7 d7 x31 = some r) (rn : List (Option Nat)) (h1 : cG σ σ [] [(3, .str d7), (31, .int .i64 x31)] [] [] rn)
    (h2 : ∀ (k0 : Nat) (d7 : ByteArray) (x31 : Int), k0 < k + 1 → aT.l1 k0 a8 a9 a7 d7 x31 = some r → dL σ hv [] [(3, .str d7), (31, .int .i64 x31)] [] [] (F (fun e σ' => match e with | .normal => ∃ (y : Nat × ByteArray × Int) (rn : List (Option Nat)), (aT.l1 y.1 a8 a9 a7 y.2.1 y.2.2 = some r ∧ y.1 < k + 1) ∧ y.1 < k0 ∧ cG σ σ' [] [(3, .str y.2.1), (31, .int .i64 y.2.2)] [] [] rn | e => Q e σ'))) : Lp F hv Q σ := by
  unfold Lp
  refine ⟨Nat × ByteArray × Int, fun x => aT.l1 x.1 a8 a9 a7 x.2.1 x.2.2 = some r ∧ x.1 < k + 1, fun x => x.1, [], fun x => [(3, .str x.2.1), (31, .int .i64 x.2.2)], fun x => [], fun x => [], ⟨(k, d7, x31), rn, ⟨H, Nat.lt_succ_self _⟩, h1⟩, ?_⟩
  rintro ⟨k, d7, x31⟩ ⟨H, hk⟩
  exact h2 k d7 x31 hk H
theorem aT.l0_lp {F : (Exit → St → Prop) → St → Prop} {hv : List Tmp} {Q : Exit → St → Prop} {σ : St} {r : ByteArray} {k : Nat} {b8 : List ByteArray} {a8 : List aD} {a9 : List aB} {a7 : List aA} {x3 : ByteArray} {x18 : Int} (H : aT.l0 k b8 a8 a9 a7 x3 x18 = some r) (rn : List (Option Nat)) (h1 : cG σ σ [] [(3, .str x3), (18, .int .i64 x18)] [] [] rn)
    (h2 : ∀ (k0 : Nat) (x3 : ByteArray) (x18 : Int), k0 < k + 1 → aT.l0 k0 b8 a8 a9 a7 x3 x18 = some r → dL σ hv [] [(3, .str x3), (18, .int .i64 x18)] [] [] (F (fun e σ' => match e with | .normal => ∃ (y : Nat × ByteArray × Int) (rn : List (Option Nat)), (aT.l0 y.1 b8 a8 a9 a7 y.2.1 y.2.2 = some r ∧ y.1 < k + 1) ∧ y.1 < k0 ∧ cG σ σ' [] [(3, .str y.2.1), (18, .int .i64 y.2.2)] [] [] rn | e => Q e σ'))) : Lp F hv Q σ := by
  unfold Lp
  refine ⟨Nat × ByteArray × Int, fun x => aT.l0 x.1 b8 a8 a9 a7 x.2.1 x.2.2 = some r ∧ x.1 < k + 1, fun x => x.1, [], fun x => [(3, .str x.2.1), (18, .int .i64 x.2.2)], fun x => [], fun x => [], ⟨(k, x3, x18), rn, ⟨H, Nat.lt_succ_self _⟩, h1⟩, ?_⟩
  rintro ⟨k, x3, x18⟩ ⟨H, hk⟩
  exact h2 k x3 x18 hk H
theorem aT.ac [GvOk G] {k : Nat} {b8 : List ByteArray} {a8 : List aD} {a9 : List aB} {a7 : List aA} {r : ByteArray} (H : aT.f k b8 a8 a9 a7 = some r) : cI Tryz.prog G 6 [] [.agg [(aM b8), (aF a8), (aC a9), (aE a7)]] [] (.str r) := by
  refine bO tok hP Tryz.func6 rfl (by kernel_rfl) [.tmp 2] rfl (by kernel_rfl) (Nat.le_of_ble_eq_true rfl) (.l .n (.l .n (.l .n (.l (.c .n (.l .n (.l .n (.c .n .n)))) (.l (.l .n (.l .n (.l .n (.c .n .n)))) (.l (.c .n (.l .n (.l .n (.c .n .n)))) (.l (.l .n (.l .n (.l .n (.c .n .n)))) .n))))))) rfl ?_
  unfold aT.f at H
  revert H; refine aN (fun Y1 A H => (cmk (aU.ac A) rfl rfl (dU H (fun c H => ?_) (fun c H => ?_))))
  refine cu 80 [(1, .bp 0 0), (3, .str (⟨#[]⟩ : ByteArray)), (16, (aM b8)), (17, .int .i64 (b8.length : Int)), (18, .int .i64 0)] [(0, .box [(aM b8), (aF a8), (aC a9), (aE a7)])] rfl rfl rfl (aT.l0_lp (b8 := b8) (a8 := a8) (a9 := a9) (a7 := a7) (k := k) H [] (fq rfl rfl fi_ rfl) ?_)
  intro k x3 x18 hk H; rcases k with _ | k; exact bC H; rw [aT.l0] at H
  refine bJ H (fun c H => ?_) (fun c H => ?_)
  refine nd_ H (fun c H => (Nd.mk nf_ (El.mk (aV _ _ nf_ nf_) (nd_ H (fun c H => (nd_ H (fun c H => (nd_ H (fun c H => (cu 160 [(1, .bp 0 0), (3, .str (x3 ++ (((⟨#[115, 116, 117, 102, 102, 32]⟩ : ByteArray) ++ (aP ByteArray.empty b8 x18)) ++ (⟨#[10]⟩ : ByteArray)))), (16, (aM b8)), (17, .int .i64 (b8.length : Int)), (18, .int .i64 x18)] [(0, .box [(aM b8), (aF a8), (aC a9), (aE a7)])] rfl rfl rfl (⟨(k, x3 ++ (((⟨#[115, 116, 117, 102, 102, 32]⟩ : ByteArray) ++ (aP ByteArray.empty b8 x18)) ++ (⟨#[10]⟩ : ByteArray)), wrap64 (x18 + 1)), [], ⟨H, lt_⟩, lt_, (fq rfl rfl fi_ rfl)⟩)))))))))))
  refine aT.l1_lp (a8 := a8) (a9 := a9) (a7 := a7) (k := k) H [] (fq rfl rfl fi_ rfl) ?_
  intro k d7 x31 hk H; rcases k with _ | k; exact bC H; rw [aT.l1] at H
  refine bJ H (fun c H => ?_) (fun c H => ?_)
  refine nd_ H (fun c H => (Nd.mk nf_ (El.mk (cA _ _ nf_ nf_) (nd_ H (fun c H => (nd_ H (fun c H => (nd_ H (fun c H => (nd_ H (fun c H => (nd_ H (fun c H => (cu 248 [(1, .bp 0 0), (3, .str (d7 ++ (((((⟨#[102, 111, 101, 32]⟩ : ByteArray) ++ ((aQ a8 x31).f0)) ++ (⟨#[32]⟩ : ByteArray)) ++ ((aQ a8 x31).f1)) ++ (⟨#[10]⟩ : ByteArray)))), (29, (aF a8)), (30, .int .i64 (a8.length : Int)), (31, .int .i64 x31)] [(0, .box [(aM b8), (aF a8), (aC a9), (aE a7)])] rfl rfl rfl (⟨(k, d7 ++ (((((⟨#[102, 111, 101, 32]⟩ : ByteArray) ++ ((aQ a8 x31).f0)) ++ (⟨#[32]⟩ : ByteArray)) ++ ((aQ a8 x31).f1)) ++ (⟨#[10]⟩ : ByteArray)), wrap64 (x31 + 1)), [], ⟨H, lt_⟩, lt_, (fq rfl rfl fi_ rfl)⟩)))))))))))))))
  refine cu 160 [(1, .bp 0 0), (3, .str d7), (47, (aC a9)), (48, .int .i64 (a9.length : Int)), (49, .int .i64 0)] [(0, .box [(aM b8), (aF a8), (aC a9), (aE a7)])] rfl rfl rfl (aT.l2_lp (a9 := a9) (a7 := a7) (k := k) H [] (fq rfl rfl fi_ rfl) ?_)
  intro k D1 x49 hk H; rcases k with _ | k; exact bC H; rw [aT.l2] at H
  refine bJ H (fun c H => ?_) (fun c H => ?_)
  refine nd_ H (fun c H => (Nd.mk nf_ (El.mk (cF _ _ nf_ nf_) (bJ H (fun c H => ?_) (fun c H => ?_)))))
  refine nd_ H (fun c H => (nd_ H (fun c H => ?_)))
  revert H; refine aN (fun K7 A H => (cmk (strconv_Itoa.ac A) rfl rfl (nd_ H (fun c H => (nd_ H (fun c H => (nd_ H (fun c H => (nd_ H (fun c H => (nd_ H (fun c H => (cu 352 [(1, .bp 0 0), (3, .str (D1 ++ (((((((⟨#[118, 101, 115, 115, 101, 108, 32]⟩ : ByteArray) ++ ((aL a9 x49).f0)) ++ (⟨#[32]⟩ : ByteArray)) ++ K7) ++ (⟨#[32]⟩ : ByteArray)) ++ ((aL a9 x49).f2)) ++ (⟨#[10]⟩ : ByteArray)))), (47, (aC a9)), (48, .int .i64 (a9.length : Int)), (49, .int .i64 x49)] [(0, .box [(aM b8), (aF a8), (aC a9), (aE a7)])] rfl rfl rfl (⟨(k, D1 ++ (((((((⟨#[118, 101, 115, 115, 101, 108, 32]⟩ : ByteArray) ++ ((aL a9 x49).f0)) ++ (⟨#[32]⟩ : ByteArray)) ++ K7) ++ (⟨#[32]⟩ : ByteArray)) ++ ((aL a9 x49).f2)) ++ (⟨#[10]⟩ : ByteArray)), wrap64 (x49 + 1)), [], ⟨H, lt_⟩, lt_, (fq rfl rfl fi_ rfl)⟩))))))))))))))
  refine nd_ H (fun c H => (nd_ H (fun c H => (nd_ H (fun c H => (nd_ H (fun c H => (nd_ H (fun c H => (cu 312 [(1, .bp 0 0), (3, .str (D1 ++ (((((⟨#[106, 111, 105, 110, 116, 32]⟩ : ByteArray) ++ ((aL a9 x49).f0)) ++ (⟨#[32]⟩ : ByteArray)) ++ ((aL a9 x49).f2)) ++ (⟨#[10]⟩ : ByteArray)))), (47, (aC a9)), (48, .int .i64 (a9.length : Int)), (49, .int .i64 x49)] [(0, .box [(aM b8), (aF a8), (aC a9), (aE a7)])] rfl rfl rfl (⟨(k, D1 ++ (((((⟨#[106, 111, 105, 110, 116, 32]⟩ : ByteArray) ++ ((aL a9 x49).f0)) ++ (⟨#[32]⟩ : ByteArray)) ++ ((aL a9 x49).f2)) ++ (⟨#[10]⟩ : ByteArray)), wrap64 (x49 + 1)), [], ⟨H, lt_⟩, lt_, (fq rfl rfl fi_ rfl)⟩)))))))))))
  refine aT.l3_lp (a7 := a7) (k := k) H [] (fq rfl rfl fi_ rfl) ?_
  intro k D9 x85 hk H; rcases k with _ | k; exact bC H; rw [aT.l3] at H
  refine bJ H (fun c H => ?_) (fun c H => ?_)
  refine nd_ H (fun c H => (Nd.mk nf_ (El.mk (dA _ _ nf_ nf_) (nd_ H (fun c H => (nd_ H (fun c H => (nd_ H (fun c H => (nd_ H (fun c H => (nd_ H (fun c H => (nd_ H (fun c H => (nd_ H (fun c H => (nd_ H (fun c H => (nd_ H (fun c H => (cu 392 [(3, .str (D9 ++ (((((((((⟨#[118, 97, 108, 118, 101, 32]⟩ : ByteArray) ++ ((aG a7 x85).f0)) ++ (⟨#[32]⟩ : ByteArray)) ++ ((aG a7 x85).f1)) ++ (⟨#[32]⟩ : ByteArray)) ++ ((aG a7 x85).f2)) ++ (⟨#[32]⟩ : ByteArray)) ++ ((aG a7 x85).f3)) ++ (⟨#[10]⟩ : ByteArray)))), (83, (aE a7)), (84, .int .i64 (a7.length : Int)), (85, .int .i64 x85)] [] rfl rfl rfl (⟨(k, D9 ++ (((((((((⟨#[118, 97, 108, 118, 101, 32]⟩ : ByteArray) ++ ((aG a7 x85).f0)) ++ (⟨#[32]⟩ : ByteArray)) ++ ((aG a7 x85).f1)) ++ (⟨#[32]⟩ : ByteArray)) ++ ((aG a7 x85).f2)) ++ (⟨#[32]⟩ : ByteArray)) ++ ((aG a7 x85).f3)) ++ (⟨#[10]⟩ : ByteArray)), wrap64 (x85 + 1)), [], ⟨H, lt_⟩, lt_, (fq rfl rfl fi_ rfl)⟩)))))))))))))))))))))))
  cases H
  exact rz rfl
  cases H
  exact rz rfl
theorem cT.l0_lp {F : (Exit → St → Prop) → St → Prop} {hv : List Tmp} {Q : Exit → St → Prop} {σ : St} {r : Bool} {k : Nat} {l0 : List Int} {D8 : ByteArray} {b9 : (List ByteArray) × (List aD) × (List aB) × (List aA) × Int × Int} {x10 : Int} {x11 : ByteArray} {x12 : Int} (H : cT.l0 k l0 x10 x11 x12 D8 b9 = some r) (rn : List (Option Nat)) (h1 : cG σ σ [] [(10, .int .i64 x10), (11, .str x11), (12, .int .i64 x12)] [] [] rn)
    (h2 : ∀ (k0 : Nat) (x10 : Int) (x11 : ByteArray) (x12 : Int), k0 < k + 1 → cT.l0 k0 l0 x10 x11 x12 D8 b9 = some r → dL σ hv [] [(10, .int .i64 x10), (11, .str x11), (12, .int .i64 x12)] [] [] (F (fun e σ' => match e with | .normal => ∃ (y : Nat × Int × ByteArray × Int) (rn : List (Option Nat)), (cT.l0 y.1 l0 y.2.1 y.2.2.1 y.2.2.2 D8 b9 = some r ∧ y.1 < k + 1) ∧ y.1 < k0 ∧ cG σ σ' [] [(10, .int .i64 y.2.1), (11, .str y.2.2.1), (12, .int .i64 y.2.2.2)] [] [] rn | e => Q e σ'))) : Lp F hv Q σ := by
  unfold Lp
  refine ⟨Nat × Int × ByteArray × Int, fun x => cT.l0 x.1 l0 x.2.1 x.2.2.1 x.2.2.2 D8 b9 = some r ∧ x.1 < k + 1, fun x => x.1, [], fun x => [(10, .int .i64 x.2.1), (11, .str x.2.2.1), (12, .int .i64 x.2.2.2)], fun x => [], fun x => [], ⟨(k, x10, x11, x12), rn, ⟨H, Nat.lt_succ_self _⟩, h1⟩, ?_⟩
  rintro ⟨k, x10, x11, x12⟩ ⟨H, hk⟩
  exact h2 k x10 x11 x12 hk H
theorem cT.ac [GvOk G] {k : Nat} {l0 : List Int} {r : Bool} (H : cT.f k l0 = some r) : cI Tryz.prog G 4 [] [(bV l0)] [] (.bool r) := by
  refine bO tok hP Tryz.func4 rfl (by kernel_rfl) [.tmp 2] rfl (by kernel_rfl) (Nat.le_of_ble_eq_true rfl) (.l .n (.l .n (.l .n (.c .n (.l .n (.l (.c .n (.l (.c .n .n) .n)) (.l (.c .n (.l (.l .n (.c .n .n)) .n)) (.l .n (.l .n (.l (.l .n (.l (.c .n .n) (.l (.c .n .n) .n))) (.l .n (.c .n .n)))))))))))) rfl ?_
  unfold cT.f at H
  refine bJ H (fun c H => ?_) (fun c H => ?_)
  cases H
  exact rz rfl
  revert H; refine aN (fun D8 A H => (cmk (cP.ac A) rfl rfl ?_))
  revert H; refine aN (fun b9 A H => (cmk (cB.ac A) rfl rfl (cu 128 [(3, .str D8), (4, .bp 96 0), (5, .bp 104 0)] [(96, .box [(aM b9.1), (aF b9.2.1), (aC b9.2.2.1), (aE b9.2.2.2.1)]), (104, .box [.int .i64 b9.2.2.2.2.1, .int .i64 b9.2.2.2.2.2])] rfl rfl rfl ?_)))
  revert H; refine aN (fun N7 A H => (cmk (cX.ac A) rfl rfl (dU H (fun c H => ?_) (fun c H => ?_))))
  refine Br.f ff_ (Br.f ff_ ?_)
  revert H; refine aN (fun U0 A H => (cmk (bE.ac A) rfl rfl (Br.f ff_ (Br.f ff_ (cu 272 [(3, .str D8), (4, .bp 96 0), (5, .bp 104 0), (38, .bool (!U0))] [(96, .box [(aM b9.1), (aF b9.2.1), (aC b9.2.2.1), (aE b9.2.2.2.1)]), (104, .box [.int .i64 b9.2.2.2.2.1, .int .i64 b9.2.2.2.2.2])] rfl rfl rfl (dU H (fun c H => ?_) (fun c H => ?_)))))))
  refine cu 296 [(3, .str D8), (4, .bp 96 0), (5, .bp 104 0), (41, .bool (decide (b9.2.2.2.2.2 = 0)))] [(96, .box [(aM b9.1), (aF b9.2.1), (aC b9.2.2.1), (aE b9.2.2.2.1)]), (104, .box [.int .i64 b9.2.2.2.2.1, .int .i64 b9.2.2.2.2.2])] rfl rfl rfl (bJ H (fun c H => ?_) (fun c H => ?_))
  revert H; refine aN (fun Y4 A H => (cmk (aT.ac A) rfl rfl ?_))
  revert H; refine aN (fun O6 A H => (cmk (cB.ac A) rfl rfl ?_))
  revert H; refine aN (fun Y5 A H => (cmk (aU.ac A) rfl rfl (kN H (fun c H => ?_) (fun c H => ?_))))
  refine Br.t ft_ (Br.t ft_ (Br.t ft_ (bJ H (fun c H => ?_) (fun c H => ?_))))
  refine Br.t ft_ (Br.t ft_ ?_)
  revert H; refine aN (fun U1 A H => (cmk (bE.ac A) rfl rfl (Br.t ft_ (cu 480 [(2, .bool U1)] [] rfl rfl rfl ?_))))
  cases H
  exact rz rfl
  refine Br.f ff_ (Br.f ff_ (Br.f ff_ (cu 480 [(2, .bool false)] [] rfl rfl rfl ?_)))
  cases H
  exact rz rfl
  refine Br.f ff_ (Br.f ff_ (Br.f ff_ (Br.f rfl (Br.f rfl (Br.f rfl (Br.f rfl (cu 480 [(2, .bool false)] [] rfl rfl rfl ?_)))))))
  cases H
  exact rz rfl
  refine cT.l0_lp (l0 := l0) (D8 := D8) (b9 := b9) (k := k) H [] (fq rfl rfl fi_ rfl) ?_
  intro k x10 x11 x12 hk H; rcases k with _ | k; exact bC H; rw [cT.l0] at H
  refine bJ H (fun c H => ?_) (fun c H => ?_)
  refine Br.t ft_ (Br.t ft_ (Br.t ft_ (Br.t ft_ (cu 400 [(3, .str D8), (4, .bp 96 0), (5, .bp 104 0), (10, .int .i64 x10), (11, .str x11), (12, .int .i64 x12), (69, .bool (decide (x10 < b9.2.2.2.2.1)))] [(96, .box [(aM b9.1), (aF b9.2.1), (aC b9.2.2.1), (aE b9.2.2.2.1)]), (104, .box [.int .i64 b9.2.2.2.2.1, .int .i64 b9.2.2.2.2.2])] rfl rfl rfl (bJ H (fun c H => ?_) (fun c H => ?_))))))
  refine nd_ H (fun c H => (Nd.mk nf_ (cu 432 [(3, .str D8), (4, .bp 96 0), (5, .bp 104 0), (10, .int .i64 x10), (11, .str x11), (12, .int .i64 x12), (75, .bool (decide ((bt D8 x12) = 10)))] [(96, .box [(aM b9.1), (aF b9.2.1), (aC b9.2.2.1), (aE b9.2.2.2.1)]), (104, .box [.int .i64 b9.2.2.2.2.1, .int .i64 b9.2.2.2.2.2])] rfl rfl rfl (bJ H (fun c H => ?_) (fun c H => ?_)))))
  refine nd_ H (fun c H => (nd_ H (fun c H => (⟨(k, wrap64 (x10 + 1), (D8.extract 0 (wrap64 (x12 + 1)).toNat), wrap64 (x12 + 1)), [], ⟨H, lt_⟩, lt_, (fq rfl rfl fi_ rfl)⟩))))
  exact ⟨(k, _, _, wrap64 (x12 + 1)), [], ⟨H, lt_⟩, lt_, (fq rfl rfl fi_ rfl)⟩
  revert H; refine aN (fun T8 A H => (cmk (cB.ac A) rfl rfl ?_))
  revert H; refine aN (fun Y2 A H => (fA (bE.ac A) (bP (fH (bB (bQ rfl) (bB (bQ rfl) (bB (bQ rfl) (bB (bQ rfl) (fG)))))) (bP (fH (bB (nU) (bB (nU) (bB (nU) (bB (nU) (fG)))))) (eK))) (Or.inl rfl) rfl rfl (Nat.le_of_ble_eq_true rfl) (kN H (fun c H => ?_) (fun c H => ?_))))
  refine Br.t ft_ (Br.t ft_ (Br.t ft_ (bJ H (fun c H => ?_) (fun c H => ?_))))
  refine Br.t ft_ (Br.t ft_ (Br.t ft_ (Br.t ft_ (Br.t ft_ (cu 584 [(2, .bool true)] [] rfl rfl rfl ?_)))))
  cases H
  exact rz rfl
  refine Br.f ff_ (Br.f ff_ (Br.t ft_ (Br.f ff_ (Br.t ft_ (cu 584 [(2, .bool (decide (T8.2.2.2.2.2 = 0)))] [] rfl rfl rfl ?_)))))
  cases H
  exact rz rfl
  refine Br.f ff_ (Br.f ff_ (Br.f ff_ (Br.f ff_ (Br.f ff_ (cu 584 [(2, .bool false)] [] rfl rfl rfl ?_)))))
  cases H
  exact rz rfl
  refine Br.f ff_ (Br.f ff_ (Br.f ff_ (Br.f ff_ (cu 400 [(3, .str D8), (4, .bp 96 0), (5, .bp 104 0), (10, .int .i64 x10), (11, .str x11), (12, .int .i64 x12), (69, .bool false)] [(96, .box [(aM b9.1), (aF b9.2.1), (aC b9.2.2.1), (aE b9.2.2.2.1)]), (104, .box [.int .i64 b9.2.2.2.2.1, .int .i64 b9.2.2.2.2.2])] rfl rfl rfl (Br.f rfl ?_)))))
  revert H; refine aN (fun T9 A H => (cmk (cB.ac A) rfl rfl ?_))
  revert H; refine aN (fun Y3 A H => (fA (bE.ac A) (bP (fH (bB (bQ rfl) (bB (bQ rfl) (bB (bQ rfl) (bB (bQ rfl) (fG)))))) (bP (fH (bB (nU) (bB (nU) (bB (nU) (bB (nU) (fG)))))) (eK))) (Or.inl rfl) rfl rfl (Nat.le_of_ble_eq_true rfl) (kN H (fun c H => ?_) (fun c H => ?_))))
  refine Br.t ft_ (Br.t ft_ (Br.t ft_ (bJ H (fun c H => ?_) (fun c H => ?_))))
  refine Br.t ft_ (Br.t ft_ (Br.t ft_ (Br.t ft_ (Br.t ft_ (cu 584 [(2, .bool true)] [] rfl rfl rfl ?_)))))
  cases H
  exact rz rfl
  refine Br.f ff_ (Br.f ff_ (Br.t ft_ (Br.f ff_ (Br.t ft_ (cu 584 [(2, .bool (decide (T9.2.2.2.2.2 = 0)))] [] rfl rfl rfl ?_)))))
  cases H
  exact rz rfl
  refine Br.f ff_ (Br.f ff_ (Br.f ff_ (Br.f ff_ (Br.f ff_ (cu 584 [(2, .bool false)] [] rfl rfl rfl ?_)))))
  cases H
  exact rz rfl
  refine cu 280 [(2, .bool false)] [] rfl rfl rfl ?_
  cases H
  exact rz rfl
  refine Br.t ft_ (Br.t ft_ (Br.t ft_ (Br.t ft_ (cu 272 [(3, .str D8), (4, .bp 96 0), (5, .bp 104 0), (38, .bool true)] [(96, .box [(aM b9.1), (aF b9.2.1), (aC b9.2.2.1), (aE b9.2.2.2.1)]), (104, .box [.int .i64 b9.2.2.2.2.1, .int .i64 b9.2.2.2.2.2])] rfl rfl rfl (Br.t rfl (cu 280 [(2, .bool false)] [] rfl rfl rfl ?_))))))
  cases H
  exact rz rfl
end Go.Proofs.YtnobkcplpbkigaaGreatDoor.PT
