import Derived.Test.YtnobkcplpbkigaaGreatDoorZFnPlantPrint2
import Derived.Shelf.Lay
import Derived.Shelf.Sort.AssemblyIn
import Derived.Ground.SoProg
import Derived.Ground.GgsProg
import Derived.Deep.QuietTactic
import Derived.BigQuiet
import Derived.Test.YtnobkcplpbkigaaGreatDoorProg
import Derived.KernelRfl
set_option linter.unusedVariables false
set_option linter.unusedSimpArgs false
namespace Go.Proofs.YtnobkcplpbkigaaGreatDoor.VP
open Go Go.Aw Go.RowKit Go.Proofs
set_option maxRecDepth 100000
set_option maxHeartbeats 40000000
variable {G : Nat → Option Obj}
attribute [local irreducible] jK Lp Sq Cut kR kJ cJ
theorem aT.l2_lp {F : (Exit → St → Prop) → St → Prop} {hv : List Tmp} {Q : Exit → St → Prop} {σ : St} {r : (List ByteArray) × (List aC) × (List aB) × (List aA) × (List Int) × Int} {k : Nat} {t8641 : Int × (List Int) × Int} {x14 : Int} {x1033000_3 : List ByteArray} {x1033001_3 : List aC} {x1033002_3 : List aB} {x1033003_3 : List aA} (H : aT.l2 k x14 x1033000_3 x1033001_3 x1033002_3 x1033003_3 t8641 = some r) (rn : List (Option Nat)) (h1 : cJ σ σ [25, 26, 27, 28, 33] [(14, .int .i64 x14)] [(33, .box [.own 0 x1033000_3.length, .own 1 x1033001_3.length, .own 2 x1033002_3.length, .own 3 x1033003_3.length])] [.arr 9 1 (x1033000_3.map aW), .arr 47 2 (x1033001_3.map aJ), .arr 49 3 (x1033002_3.map aH), .arr 52 4 (x1033003_3.map aG)] rn)
    (h2 : ∀ (k0 : Nat) (x14 : Int) (x1033000_3 : List ByteArray) (x1033001_3 : List aC) (x1033002_3 : List aB) (x1033003_3 : List aA), k0 < k + 1 → aT.l2 k0 x14 x1033000_3 x1033001_3 x1033002_3 x1033003_3 t8641 = some r → dE σ hv [25, 26, 27, 28, 33] [(14, .int .i64 x14)] [(33, .box [.own 0 x1033000_3.length, .own 1 x1033001_3.length, .own 2 x1033002_3.length, .own 3 x1033003_3.length])] [.arr 9 1 (x1033000_3.map aW), .arr 47 2 (x1033001_3.map aJ), .arr 49 3 (x1033002_3.map aH), .arr 52 4 (x1033003_3.map aG)] (F (fun e σ' => match e with | .normal => ∃ (y : Nat × Int × (List ByteArray) × (List aC) × (List aB) × (List aA)) (rn : List (Option Nat)), (aT.l2 y.1 y.2.1 y.2.2.1 y.2.2.2.1 y.2.2.2.2.1 y.2.2.2.2.2 t8641 = some r ∧ y.1 < k + 1) ∧ y.1 < k0 ∧ cJ σ σ' [25, 26, 27, 28, 33] [(14, .int .i64 y.2.1)] [(33, .box [.own 0 y.2.2.1.length, .own 1 y.2.2.2.1.length, .own 2 y.2.2.2.2.1.length, .own 3 y.2.2.2.2.2.length])] [.arr 9 1 (y.2.2.1.map aW), .arr 47 2 (y.2.2.2.1.map aJ), .arr 49 3 (y.2.2.2.2.1.map aH), .arr 52 4 (y.2.2.2.2.2.map aG)] rn | e => Q e σ'))) : Lp F hv Q σ := by
  unfold Lp
  refine ⟨Nat × Int × (List ByteArray) × (List aC) × (List aB) × (List aA), fun x => aT.l2 x.1 x.2.1 x.2.2.1 x.2.2.2.1 x.2.2.2.2.1 x.2.2.2.2.2 t8641 = some r ∧ x.1 < k + 1, fun x => x.1, [25, 26, 27, 28, 33], fun x => [(14, .int .i64 x.2.1)], fun x => [(33, .box [.own 0 x.2.2.1.length, .own 1 x.2.2.2.1.length, .own 2 x.2.2.2.2.1.length, .own 3 x.2.2.2.2.2.length])], fun x => [.arr 9 1 (x.2.2.1.map aW), .arr 47 2 (x.2.2.2.1.map aJ), .arr 49 3 (x.2.2.2.2.1.map aH), .arr 52 4 (x.2.2.2.2.2.map aG)], ⟨(k, x14, x1033000_3, x1033001_3, x1033002_3, x1033003_3), rn, ⟨H, Nat.lt_succ_self _⟩, h1⟩, ?_⟩
  rintro ⟨k, x14, x1033000_3, x1033001_3, x1033002_3, x1033003_3⟩ ⟨H, hk⟩
  exact h2 k x14 x1033000_3 x1033001_3 x1033002_3 x1033003_3 hk H
theorem aT.j1_sq {F : (Exit → St → Prop) → St → Prop} {hv : List Tmp} {K : St → Prop} {Q : Exit → St → Prop} {σ : St} {r : (List ByteArray) × (List aC) × (List aB) × (List aA) × (List Int) × Int} {KK : Nat} {t8555 : (List ByteArray) × (List aC) × (List aB) × (List aA)} {t8620 : Int × (List Int) × Int}
    (h1 : F (fun e σ' => match e with | .normal => ∃ (y : Nat × Bool) (rn : List (Option Nat)), (aT.j1 y.1 y.2 t8555 t8620 = some r ∧ y.1 < KK) ∧ cJ σ σ' [] [(137, .bool y.2)] [] [] rn | e => Q e σ') σ)
    (h2 : ∀ (k : Nat) (x137 : Bool), k < KK → aT.j1 k x137 t8555 t8620 = some r → dE σ hv [] [(137, .bool x137)] [] [] K) : Sq F hv K Q σ := by
  unfold Sq
  refine ⟨Nat × Bool, fun x => aT.j1 x.1 x.2 t8555 t8620 = some r ∧ x.1 < KK, [], fun x => [(137, .bool x.2)], fun x => [], fun x => [], h1, ?_⟩
  rintro ⟨k, x137⟩ ⟨H, hk⟩
  exact h2 k x137 hk H
theorem aT.ac {k : Nat} {a0_0 : List Int} {a0_1 : Int} {a1_0 : List ByteArray} {a1_1 : List aC} {a1_2 : List aB} {a1_3 : List aA} {r : (List ByteArray) × (List aC) × (List aB) × (List aA) × (List Int) × Int} (H : aT.f k a0_0 a0_1 a1_0 a1_1 a1_2 a1_3 = some r) : cI Tryz.prog G 47 [.box [(bV a0_0), .int .i64 a0_1]] [.bp 0 0, .agg [(aM a1_0), (aF a1_1), (aD a1_2), (aE a1_3)]] [.box [(bV r.2.2.2.2.1), .int .i64 r.2.2.2.2.2]] (.agg [(aM r.1), (aF r.2.1), (aD r.2.2.1), (aE r.2.2.2.1)]) := by
  refine bO tok hP Tryz.func47 rfl (by kernel_rfl) [.cell 4 28] rfl (by kernel_rfl) (Nat.le_of_ble_eq_true rfl) (.l .n (.l .n (.j (.l .n (.l .n (.l .n (.c .n (.l .n (.l .n (.l (.l .n (.l (.c .n .n) .n)) (.l .n (.l (.l .n (.l (.c .n .n) .n)) (.l .n (.l (.c .n .n) (.j .n (.l (.c .n (.l (.l .n (.l .n (.c .n .n))) .n)) (.l .n (.l (.c .n (.l .n (.l .n (.c .n .n)))) (.c .n (.l (.l .n (.l .n (.l (.c .n .n) (.c .n .n)))) (.l .n (.l .n (.l (.c .n .n) (.c .n .n))))))))))))))))))))) (.c .n .n)))) rfl ?_
  unfold aT.f at H
  revert H; refine aN (fun t8555 A H => (cmk (dD.acO A) rfl rfl (aT.j0_sq (KK := k + 1) (r := r) ?_ ?_)))
  revert H; refine aN (fun t8620 A H => (bW [0] (aS.ac A) ⟨rfl, trivial⟩ rfl rfl rfl rfl rfl rfl rfl rfl (bM H (fun c H => ?_) (fun c H => ?_))))
  refine Or.inr (Or.inl ?_)
  revert H; refine aN (fun t8621 A H => (bW [0] (bA.ac A) ⟨rfl, trivial⟩ rfl rfl rfl rfl rfl (gR ⟨rfl, ⟨kU rfl lm_ lm_, trivial⟩⟩) rfl rfl (Or.inl (nd_ H (fun c H => (⟨(k, (t8555.1 ++ ([t8621.1] : List ByteArray)), t8555.2.1, t8555.2.2.1, t8555.2.2.2, t8621.2.1, t8621.2.2), [some 129, some 26, some 27, some 28], ⟨H, lt_⟩, (bX trivial ⟨fm_, ⟨rfl, ⟨rfl, ⟨rfl, trivial⟩⟩⟩⟩ fi_ ⟨⟨_, rfl⟩, ⟨_, rfl, ⟨gA lm_, ⟨rfl, ⟨rfl, ⟨rfl, trivial⟩⟩⟩⟩⟩, ⟨⟨_, rfl⟩, ⟨_, rfl, ⟨.inl ⟨rfl, rfl⟩, ⟨.inl ⟨rfl, rfl⟩, trivial⟩⟩⟩, trivial⟩⟩ rfl)⟩))))))
  refine cu 97 [(0, .bp 0 0), (4, .bp 9 0), (5, .bp 33 0), (18, .int .i64 t8620.1), (65, .bool (decide (t8620.1 = 1)))] [(0, .box [(bV t8620.2.1), .int .i64 t8620.2.2]), (9, .box [.nil, .nil, .nil, .nil]), (25, .arr 9 1 (t8555.1.map aW)), (26, .arr 47 2 (t8555.2.1.map aJ)), (27, .arr 49 3 (t8555.2.2.1.map aH)), (28, .arr 52 4 (t8555.2.2.2.map aG)), (33, .box [.own 25 t8555.1.length, .own 26 t8555.2.1.length, .own 27 t8555.2.2.1.length, .own 28 t8555.2.2.2.length])] rfl rfl rfl (bM H (fun c H => ?_) (fun c H => ?_))
  refine Or.inr (Or.inl ?_)
  revert H; refine aN (fun t8622 A H => (bW [0] (bA.ac A) ⟨rfl, trivial⟩ rfl rfl rfl rfl rfl (gR ⟨rfl, ⟨kU rfl lm_ lm_, trivial⟩⟩) rfl rfl (Or.inr (Or.inl ?_))))
  revert H; refine aN (fun t8623 A H => (bW [0] (bA.ac A) ⟨rfl, trivial⟩ rfl rfl rfl rfl rfl (gR ⟨rfl, ⟨kU rfl lm_ lm_, trivial⟩⟩) rfl rfl (Or.inl (nd_ H (fun c H => (⟨(k, t8555.1, (t8555.2.1 ++ ([(⟨t8622.1, t8623.1⟩ : aC)] : List aC)), t8555.2.2.1, t8555.2.2.2, t8623.2.1, t8623.2.2), [some 25, some 177, some 27, some 28], ⟨H, lt_⟩, (bX trivial ⟨rfl, ⟨fm_, ⟨rfl, ⟨rfl, trivial⟩⟩⟩⟩ fi_ ⟨⟨_, rfl⟩, ⟨_, rfl, ⟨rfl, ⟨gA lm_, ⟨rfl, ⟨rfl, trivial⟩⟩⟩⟩⟩, ⟨⟨_, rfl⟩, ⟨_, rfl, ⟨.inl ⟨rfl, rfl⟩, ⟨.inl ⟨rfl, rfl⟩, trivial⟩⟩⟩, trivial⟩⟩ rfl)⟩))))))
  refine bM H (fun c H => ?_) (fun c H => ?_)
  refine bM H (fun c H => ?_) (fun c H => ?_)
  revert H; refine aN (fun t8624 A H => (bW [0] (aS.ac A) ⟨rfl, trivial⟩ rfl rfl rfl rfl rfl rfl rfl rfl (cu 193 [(0, .bp 0 0), (4, .bp 9 0), (5, .bp 33 0), (6, .int .i64 t8624.1)] [(0, .box [(bV t8624.2.1), .int .i64 t8624.2.2]), (9, .box [.nil, .nil, .nil, .nil]), (25, .arr 9 1 (t8555.1.map aW)), (26, .arr 47 2 (t8555.2.1.map aJ)), (27, .arr 49 3 (t8555.2.2.1.map aH)), (28, .arr 52 4 (t8555.2.2.2.map aG)), (33, .box [.own 25 t8555.1.length, .own 26 t8555.2.1.length, .own 27 t8555.2.2.1.length, .own 28 t8555.2.2.2.length])] rfl rfl rfl (Or.inr (Or.inl ?_)))))
  revert H; refine aN (fun t8625 A H => (bW [0] (bA.ac A) ⟨rfl, trivial⟩ rfl rfl rfl rfl rfl (gR ⟨rfl, ⟨kU rfl lm_ lm_, trivial⟩⟩) rfl rfl (nd_ H (fun c H => (nd_ H (fun c H => (El.mk (bJ _ _ nf_ nf_) (⟨(k, t8555.1, t8555.2.1, (t8555.2.2.1.set (t8624.1).toNat (⟨t8625.1, (aK t8555.2.2.1 t8624.1).f1, (aK t8555.2.2.1 t8624.1).f2⟩ : aB)), t8555.2.2.2, t8625.2.1, t8625.2.2), [some 25, some 26, some 27, some 28], ⟨H, lt_⟩, (bX trivial ⟨rfl, ⟨rfl, ⟨fm_, ⟨rfl, trivial⟩⟩⟩⟩ fi_ ⟨⟨_, rfl⟩, ⟨_, rfl, ⟨rfl, ⟨rfl, ⟨gA lm_, ⟨rfl, trivial⟩⟩⟩⟩⟩, ⟨⟨_, rfl⟩, ⟨_, rfl, ⟨.inl ⟨rfl, rfl⟩, ⟨.inl ⟨rfl, rfl⟩, trivial⟩⟩⟩, trivial⟩⟩ rfl)⟩))))))))
  exact ⟨(k, t8555.1, t8555.2.1, t8555.2.2.1, t8555.2.2.2, t8620.2.1, t8620.2.2), [some 25, some 26, some 27, some 28], ⟨H, lt_⟩, (bX trivial ⟨rfl, ⟨rfl, ⟨rfl, ⟨rfl, trivial⟩⟩⟩⟩ fi_ ⟨⟨_, rfl⟩, ⟨_, rfl, ⟨rfl, ⟨rfl, ⟨rfl, ⟨rfl, trivial⟩⟩⟩⟩⟩, ⟨⟨_, rfl⟩, ⟨_, rfl, ⟨.inl ⟨rfl, rfl⟩, ⟨.inl ⟨rfl, rfl⟩, trivial⟩⟩⟩, trivial⟩⟩ rfl)⟩
  refine bM H (fun c H => ?_) (fun c H => ?_)
  refine bM H (fun c H => ?_) (fun c H => ?_)
  revert H; refine aN (fun t8626 A H => (bW [0] (aS.ac A) ⟨rfl, trivial⟩ rfl rfl rfl rfl rfl rfl rfl rfl (cu 209 [(0, .bp 0 0), (4, .bp 9 0), (5, .bp 33 0), (7, .int .i64 t8626.1)] [(0, .box [(bV t8626.2.1), .int .i64 t8626.2.2]), (9, .box [.nil, .nil, .nil, .nil]), (25, .arr 9 1 (t8555.1.map aW)), (26, .arr 47 2 (t8555.2.1.map aJ)), (27, .arr 49 3 (t8555.2.2.1.map aH)), (28, .arr 52 4 (t8555.2.2.2.map aG)), (33, .box [.own 25 t8555.1.length, .own 26 t8555.2.1.length, .own 27 t8555.2.2.1.length, .own 28 t8555.2.2.2.length])] rfl rfl rfl (Or.inl ?_))))
  revert H; refine aN (fun t8627 A H => (bW [0] (aS.ac A) ⟨rfl, trivial⟩ rfl rfl rfl rfl rfl rfl rfl rfl (nd_ H (fun c H => (nd_ H (fun c H => (El.mk (aLB (ys := ([(-1), 0, 1000, 1001] : List Int).map zG) lm_ (zC _ _ nf_ nf_)) (nd_ H (fun c H => (nd_ H (fun c H => (El.mk (bJ _ _ nf_ nf_) (⟨(k, t8555.1, t8555.2.1, (t8555.2.2.1.set (t8626.1).toNat (⟨(aK t8555.2.2.1 t8626.1).f0, rd ([(-1), 0, 1000, 1001] : List Int) t8627.1, (aK t8555.2.2.1 t8626.1).f2⟩ : aB)), t8555.2.2.2, t8627.2.1, t8627.2.2), [some 25, some 26, some 27, some 28], ⟨H, lt_⟩, (bX trivial ⟨rfl, ⟨rfl, ⟨fm_, ⟨rfl, trivial⟩⟩⟩⟩ fi_ ⟨⟨_, rfl⟩, ⟨_, rfl, ⟨rfl, ⟨rfl, ⟨gA lm_, ⟨rfl, trivial⟩⟩⟩⟩⟩, ⟨⟨_, rfl⟩, ⟨_, rfl, ⟨.inl ⟨rfl, rfl⟩, ⟨.inl ⟨rfl, rfl⟩, trivial⟩⟩⟩, trivial⟩⟩ rfl)⟩)))))))))))))
  exact ⟨(k, t8555.1, t8555.2.1, t8555.2.2.1, t8555.2.2.2, t8620.2.1, t8620.2.2), [some 25, some 26, some 27, some 28], ⟨H, lt_⟩, (bX trivial ⟨rfl, ⟨rfl, ⟨rfl, ⟨rfl, trivial⟩⟩⟩⟩ fi_ ⟨⟨_, rfl⟩, ⟨_, rfl, ⟨rfl, ⟨rfl, ⟨rfl, ⟨rfl, trivial⟩⟩⟩⟩⟩, ⟨⟨_, rfl⟩, ⟨_, rfl, ⟨.inl ⟨rfl, rfl⟩, ⟨.inl ⟨rfl, rfl⟩, trivial⟩⟩⟩, trivial⟩⟩ rfl)⟩
  refine bM H (fun c H => ?_) (fun c H => ?_)
  refine cu 177 [(0, .bp 0 0), (4, .bp 9 0), (5, .bp 33 0), (124, .bool (decide ((t8555.2.2.1.length : Int) > 0)))] [(0, .box [(bV t8620.2.1), .int .i64 t8620.2.2]), (9, .box [.nil, .nil, .nil, .nil]), (25, .arr 9 1 (t8555.1.map aW)), (26, .arr 47 2 (t8555.2.1.map aJ)), (27, .arr 49 3 (t8555.2.2.1.map aH)), (28, .arr 52 4 (t8555.2.2.2.map aG)), (33, .box [.own 25 t8555.1.length, .own 26 t8555.2.1.length, .own 27 t8555.2.2.1.length, .own 28 t8555.2.2.2.length])] rfl rfl rfl (bM H (fun c H => ?_) (fun c H => ?_))
  revert H; refine aN (fun t8628 A H => (bW [0] (aS.ac A) ⟨rfl, trivial⟩ rfl rfl rfl rfl rfl rfl rfl rfl (Or.inr (Or.inl ?_))))
  revert H; refine aN (fun t8629 A H => (bW [0] (bA.ac A) ⟨rfl, trivial⟩ rfl rfl rfl rfl rfl (gR ⟨rfl, ⟨kU rfl lm_ lm_, trivial⟩⟩) rfl rfl (nd_ H (fun c H => (nd_ H (fun c H => (El.mk (bJ _ _ nf_ nf_) (⟨(k, t8555.1, t8555.2.1, (t8555.2.2.1.set (t8628.1).toNat (⟨(aK t8555.2.2.1 t8628.1).f0, (aK t8555.2.2.1 t8628.1).f1, t8629.1⟩ : aB)), t8555.2.2.2, t8629.2.1, t8629.2.2), [some 25, some 26, some 27, some 28], ⟨H, lt_⟩, (bX trivial ⟨rfl, ⟨rfl, ⟨fm_, ⟨rfl, trivial⟩⟩⟩⟩ fi_ ⟨⟨_, rfl⟩, ⟨_, rfl, ⟨rfl, ⟨rfl, ⟨gA lm_, ⟨rfl, trivial⟩⟩⟩⟩⟩, ⟨⟨_, rfl⟩, ⟨_, rfl, ⟨.inl ⟨rfl, rfl⟩, ⟨.inl ⟨rfl, rfl⟩, trivial⟩⟩⟩, trivial⟩⟩ rfl)⟩))))))))
  exact ⟨(k, t8555.1, t8555.2.1, t8555.2.2.1, t8555.2.2.2, t8620.2.1, t8620.2.2), [some 25, some 26, some 27, some 28], ⟨H, lt_⟩, (bX trivial ⟨rfl, ⟨rfl, ⟨rfl, ⟨rfl, trivial⟩⟩⟩⟩ fi_ ⟨⟨_, rfl⟩, ⟨_, rfl, ⟨rfl, ⟨rfl, ⟨rfl, ⟨rfl, trivial⟩⟩⟩⟩⟩, ⟨⟨_, rfl⟩, ⟨_, rfl, ⟨.inl ⟨rfl, rfl⟩, ⟨.inl ⟨rfl, rfl⟩, trivial⟩⟩⟩, trivial⟩⟩ rfl)⟩
  refine aT.j1_sq (t8555 := t8555) (t8620 := t8620) (KK := k + 1) (r := r) ?_ ?_
  refine bM H (fun c H => ?_) (fun c H => ?_)
  exact ⟨(k, decide (t8620.1 = 5)), [], ⟨H, lt_⟩, (fq rfl rfl fi_ rfl)⟩
  exact ⟨(k, decide (t8620.1 = 6)), [], ⟨H, lt_⟩, (fq rfl rfl fi_ rfl)⟩
  intro k x137 hk H; rcases k with _ | k; exact bC H; rw [aT.j1] at H
  refine jF H (fun c H => ?_) (fun c H => ?_)
  refine cu 177 [(0, .bp 0 0), (4, .bp 9 0), (5, .bp 33 0), (143, .bool (decide ((t8555.2.2.2.length : Int) > 0)))] [(0, .box [(bV t8620.2.1), .int .i64 t8620.2.2]), (9, .box [.nil, .nil, .nil, .nil]), (25, .arr 9 1 (t8555.1.map aW)), (26, .arr 47 2 (t8555.2.1.map aJ)), (27, .arr 49 3 (t8555.2.2.1.map aH)), (28, .arr 52 4 (t8555.2.2.2.map aG)), (33, .box [.own 25 t8555.1.length, .own 26 t8555.2.1.length, .own 27 t8555.2.2.1.length, .own 28 t8555.2.2.2.length])] rfl rfl rfl (bM H (fun c H => ?_) (fun c H => ?_))
  revert H; refine aN (fun t8630 A H => (bW [0] (aS.ac A) ⟨rfl, trivial⟩ rfl rfl rfl rfl rfl rfl rfl rfl ?_))
  revert H; refine aN (fun t8631 A H => (bW [0] (aS.ac A) ⟨rfl, trivial⟩ rfl rfl rfl rfl rfl rfl rfl rfl (cu 257 [(0, .bp 0 0), (4, .bp 9 0), (5, .bp 33 0), (8, .int .i64 t8630.1), (150, .int .i64 t8631.1), (156, .bool (decide (t8631.1 = 0)))] [(0, .box [(bV t8631.2.1), .int .i64 t8631.2.2]), (9, .box [.nil, .nil, .nil, .nil]), (25, .arr 9 1 (t8555.1.map aW)), (26, .arr 47 2 (t8555.2.1.map aJ)), (27, .arr 49 3 (t8555.2.2.1.map aH)), (28, .arr 52 4 (t8555.2.2.2.map aG)), (33, .box [.own 25 t8555.1.length, .own 26 t8555.2.1.length, .own 27 t8555.2.2.1.length, .own 28 t8555.2.2.2.length])] rfl rfl rfl (bM H (fun c H => ?_) (fun c H => ?_)))))
  refine Or.inr (Or.inl ?_)
  revert H; refine aN (fun t8632 A H => (bW [0] (bA.ac A) ⟨rfl, trivial⟩ rfl rfl rfl rfl rfl (gR ⟨rfl, ⟨kU rfl lm_ lm_, trivial⟩⟩) rfl rfl (nd_ H (fun c H => (nd_ H (fun c H => (El.mk (bQ _ _ nf_ nf_) (⟨(k, t8555.1, t8555.2.1, t8555.2.2.1, (t8555.2.2.2.set (t8630.1).toNat (⟨t8632.1, (aI t8555.2.2.2 t8630.1).f1, (aI t8555.2.2.2 t8630.1).f2, (aI t8555.2.2.2 t8630.1).f3⟩ : aA)), t8632.2.1, t8632.2.2), [some 25, some 26, some 27, some 28], ⟨H, lt_⟩, (bX trivial ⟨rfl, ⟨rfl, ⟨rfl, ⟨fm_, trivial⟩⟩⟩⟩ fi_ ⟨⟨_, rfl⟩, ⟨_, rfl, ⟨rfl, ⟨rfl, ⟨rfl, ⟨gA lm_, trivial⟩⟩⟩⟩⟩, ⟨⟨_, rfl⟩, ⟨_, rfl, ⟨.inl ⟨rfl, rfl⟩, ⟨.inl ⟨rfl, rfl⟩, trivial⟩⟩⟩, trivial⟩⟩ rfl)⟩))))))))
  refine bM H (fun c H => ?_) (fun c H => ?_)
  refine nd_ H (fun c H => (nd_ H (fun c H => (El.mk (bQ _ _ nf_ nf_) (Or.inr (Or.inl ?_))))))
  revert H; refine aN (fun t8633 A H => (bW [0] (bA.ac A) ⟨rfl, trivial⟩ rfl rfl rfl rfl rfl (gR ⟨rfl, ⟨kU rfl lm_ lm_, trivial⟩⟩) rfl rfl (Nd.mk nf_ (Nd.mk nf_ (El.mk (bQ _ _ nf_ nf_) (⟨(k, t8555.1, t8555.2.1, t8555.2.2.1, (t8555.2.2.2.set (t8630.1).toNat (⟨(aI t8555.2.2.2 t8630.1).f0, t8633.1, (aI t8555.2.2.2 t8630.1).f2, (aI t8555.2.2.2 t8630.1).f3⟩ : aA)), t8633.2.1, t8633.2.2), [some 25, some 26, some 27, some 28], ⟨H, lt_⟩, (bX trivial ⟨rfl, ⟨rfl, ⟨rfl, ⟨fm_, trivial⟩⟩⟩⟩ fi_ ⟨⟨_, rfl⟩, ⟨_, rfl, ⟨rfl, ⟨rfl, ⟨rfl, ⟨gA lm_, trivial⟩⟩⟩⟩⟩, ⟨⟨_, rfl⟩, ⟨_, rfl, ⟨.inl ⟨rfl, rfl⟩, ⟨.inl ⟨rfl, rfl⟩, trivial⟩⟩⟩, trivial⟩⟩ rfl)⟩))))))
  refine bM H (fun c H => ?_) (fun c H => ?_)
  refine Or.inr (Or.inl ?_)
  revert H; refine aN (fun t8634 A H => (bW [0] (bA.ac A) ⟨rfl, trivial⟩ rfl rfl rfl rfl rfl (gR ⟨rfl, ⟨kU rfl lm_ lm_, trivial⟩⟩) rfl rfl (nd_ H (fun c H => (nd_ H (fun c H => (El.mk (bQ _ _ nf_ nf_) (⟨(k, t8555.1, t8555.2.1, t8555.2.2.1, (t8555.2.2.2.set (t8630.1).toNat (⟨(aI t8555.2.2.2 t8630.1).f0, (aI t8555.2.2.2 t8630.1).f1, t8634.1, (aI t8555.2.2.2 t8630.1).f3⟩ : aA)), t8634.2.1, t8634.2.2), [some 25, some 26, some 27, some 28], ⟨H, lt_⟩, (bX trivial ⟨rfl, ⟨rfl, ⟨rfl, ⟨fm_, trivial⟩⟩⟩⟩ fi_ ⟨⟨_, rfl⟩, ⟨_, rfl, ⟨rfl, ⟨rfl, ⟨rfl, ⟨gA lm_, trivial⟩⟩⟩⟩⟩, ⟨⟨_, rfl⟩, ⟨_, rfl, ⟨.inl ⟨rfl, rfl⟩, ⟨.inl ⟨rfl, rfl⟩, trivial⟩⟩⟩, trivial⟩⟩ rfl)⟩))))))))
  refine nd_ H (fun c H => (nd_ H (fun c H => (El.mk (bQ _ _ nf_ nf_) (⟨(k, t8555.1, t8555.2.1, t8555.2.2.1, (t8555.2.2.2.set (t8630.1).toNat (⟨(aI t8555.2.2.2 t8630.1).f0, (aI t8555.2.2.2 t8630.1).f1, (aI t8555.2.2.2 t8630.1).f2, (⟨#[]⟩ : ByteArray)⟩ : aA)), t8631.2.1, t8631.2.2), [some 25, some 26, some 27, some 28], ⟨H, lt_⟩, (bX trivial ⟨rfl, ⟨rfl, ⟨rfl, ⟨fm_, trivial⟩⟩⟩⟩ fi_ ⟨⟨_, rfl⟩, ⟨_, rfl, ⟨rfl, ⟨rfl, ⟨rfl, ⟨gA lm_, trivial⟩⟩⟩⟩⟩, ⟨⟨_, rfl⟩, ⟨_, rfl, ⟨.inl ⟨rfl, rfl⟩, ⟨.inl ⟨rfl, rfl⟩, trivial⟩⟩⟩, trivial⟩⟩ rfl)⟩)))))
  exact ⟨(k, t8555.1, t8555.2.1, t8555.2.2.1, t8555.2.2.2, t8620.2.1, t8620.2.2), [some 25, some 26, some 27, some 28], ⟨H, lt_⟩, (bX trivial ⟨rfl, ⟨rfl, ⟨rfl, ⟨rfl, trivial⟩⟩⟩⟩ fi_ ⟨⟨_, rfl⟩, ⟨_, rfl, ⟨rfl, ⟨rfl, ⟨rfl, ⟨rfl, trivial⟩⟩⟩⟩⟩, ⟨⟨_, rfl⟩, ⟨_, rfl, ⟨.inl ⟨rfl, rfl⟩, ⟨.inl ⟨rfl, rfl⟩, trivial⟩⟩⟩, trivial⟩⟩ rfl)⟩
  refine bM H (fun c H => ?_) (fun c H => ?_)
  revert H; refine aN (fun t8635 A H => (bW [0] (aS.ac A) ⟨rfl, trivial⟩ rfl rfl rfl rfl rfl rfl rfl rfl (cu 193 [(4, .bp 9 0), (5, .bp 33 0), (9, .int .i64 (wrap64 (8 + t8635.1)))] [(0, .box [(bV t8635.2.1), .int .i64 t8635.2.2]), (9, .box [.nil, .nil, .nil, .nil]), (25, .arr 9 1 (t8555.1.map aW)), (26, .arr 47 2 (t8555.2.1.map aJ)), (27, .arr 49 3 (t8555.2.2.1.map aH)), (28, .arr 52 4 (t8555.2.2.2.map aG)), (33, .box [.own 25 t8555.1.length, .own 26 t8555.2.1.length, .own 27 t8555.2.2.1.length, .own 28 t8555.2.2.2.length])] rfl rfl rfl (aT.l0_lp (t8635 := t8635) (k := k) H [some 25, some 26, some 27, some 28] (bX ⟨.inl ⟨rfl, rfl⟩, trivial⟩ ⟨rfl, ⟨rfl, ⟨rfl, ⟨rfl, trivial⟩⟩⟩⟩ fi_ ⟨⟨_, rfl⟩, ⟨_, rfl, ⟨rfl, ⟨rfl, ⟨rfl, ⟨rfl, trivial⟩⟩⟩⟩⟩, trivial⟩ rfl) ?_))))
  intro k x10 x1033000_1 x1033001_1 x1033002_1 x1033003_1 hk H; rcases k with _ | k; exact bC H; rw [aT.l0] at H
  refine bM H (fun c H => ?_) (fun c H => ?_)
  revert H; refine aN (fun t8637 A H => (cmk (cD.ac A) rfl rfl (nd_ H (fun c H => (Or.inl (nd_ H (fun c H => (jW 325 [(4, .bp 9 0), (5, .bp 33 0), (9, .int .i64 (wrap64 (8 + t8635.1))), (10, .int .i64 x10)] [(0, .box [(bV t8635.2.1), .int .i64 t8635.2.2]), (9, .box [.nil, .nil, .nil, .nil]), (33, .box [.own 301 (x1033000_1.length + 1), .own 202 x1033001_1.length, .own 203 x1033002_1.length, .own 204 x1033003_1.length]), (202, .arr 47 2 (x1033001_1.map aJ)), (203, .arr 49 3 (x1033002_1.map aH)), (204, .arr 52 4 (x1033003_1.map aG)), (301, .arr 9 1 ((x1033000_1 ++ ([(⟨#[122]⟩ : ByteArray) ++ t8637] : List ByteArray)).map aW))] rfl ⟨.inl rfl, ⟨.inl rfl, ⟨.inl rfl, ⟨.inl rfl, trivial⟩⟩⟩⟩ ⟨rfl, ⟨rfl, ⟨rfl, ⟨rfl, ⟨rfl, ⟨rfl, ⟨fm_, trivial⟩⟩⟩⟩⟩⟩⟩ (⟨(k, wrap64 (x10 + 1), (x1033000_1 ++ ([(⟨#[122]⟩ : ByteArray) ++ t8637] : List ByteArray)), x1033001_1, x1033002_1, x1033003_1), [some 301, some 202, some 203, some 204], ⟨H, lt_⟩, lt_, (bX ⟨.inl ⟨rfl, rfl⟩, trivial⟩ ⟨rfl, ⟨rfl, ⟨rfl, ⟨rfl, trivial⟩⟩⟩⟩ fi_ ⟨⟨_, rfl⟩, ⟨_, rfl, ⟨gA lm_, ⟨rfl, ⟨rfl, ⟨rfl, trivial⟩⟩⟩⟩⟩, trivial⟩ rfl)⟩)))))))))
  exact ⟨(k, x1033000_1, x1033001_1, x1033002_1, x1033003_1, t8635.2.1, t8635.2.2), [some 201, some 202, some 203, some 204], ⟨H, lt_⟩, (bX trivial ⟨rfl, ⟨rfl, ⟨rfl, ⟨rfl, trivial⟩⟩⟩⟩ fi_ ⟨⟨_, rfl⟩, ⟨_, rfl, ⟨rfl, ⟨rfl, ⟨rfl, ⟨rfl, trivial⟩⟩⟩⟩⟩, ⟨⟨_, rfl⟩, ⟨_, rfl, ⟨.inl ⟨rfl, rfl⟩, ⟨.inl ⟨rfl, rfl⟩, trivial⟩⟩⟩, trivial⟩⟩ rfl)⟩
  refine cu 177 [(0, .bp 0 0), (4, .bp 9 0), (5, .bp 33 0), (213, .bool (decide (t8620.1 = 8)))] [(0, .box [(bV t8620.2.1), .int .i64 t8620.2.2]), (9, .box [.nil, .nil, .nil, .nil]), (25, .arr 9 1 (t8555.1.map aW)), (26, .arr 47 2 (t8555.2.1.map aJ)), (27, .arr 49 3 (t8555.2.2.1.map aH)), (28, .arr 52 4 (t8555.2.2.2.map aG)), (33, .box [.own 25 t8555.1.length, .own 26 t8555.2.1.length, .own 27 t8555.2.2.1.length, .own 28 t8555.2.2.2.length])] rfl rfl rfl (bM H (fun c H => ?_) (fun c H => ?_))
  revert H; refine aN (fun t8638 A H => (bW [0] (aS.ac A) ⟨rfl, trivial⟩ rfl rfl rfl rfl rfl rfl rfl rfl (aT.l1_lp (t8638 := t8638) (k := k) H [some 25, some 26, some 27, some 28] (bX ⟨.inl ⟨rfl, rfl⟩, trivial⟩ ⟨rfl, ⟨rfl, ⟨rfl, ⟨rfl, trivial⟩⟩⟩⟩ fi_ ⟨⟨_, rfl⟩, ⟨_, rfl, ⟨rfl, ⟨rfl, ⟨rfl, ⟨rfl, trivial⟩⟩⟩⟩⟩, trivial⟩ rfl) ?_)))
  intro k x12 x1033000_2 x1033001_2 x1033002_2 x1033003_2 hk H; rcases k with _ | k; exact bC H; rw [aT.l1] at H
  refine cu 261 [(4, .bp 9 0), (5, .bp 33 0), (11, .int .i64 (wrap64 (14 + t8638.1))), (12, .int .i64 x12), (222, .bool (decide ((x1033002_2.length : Int) < (wrap64 (14 + t8638.1)))))] [(0, .box [(bV t8638.2.1), .int .i64 t8638.2.2]), (9, .box [.nil, .nil, .nil, .nil]), (33, .box [.own 217 x1033000_2.length, .own 218 x1033001_2.length, .own 219 x1033002_2.length, .own 220 x1033003_2.length]), (217, .arr 9 1 (x1033000_2.map aW)), (218, .arr 47 2 (x1033001_2.map aJ)), (219, .arr 49 3 (x1033002_2.map aH)), (220, .arr 52 4 (x1033003_2.map aG))] rfl rfl rfl (bM H (fun c H => ?_) (fun c H => ?_))
  revert H; refine aN (fun t8640 A H => (cmk (cD.ac A) rfl rfl (nd_ H (fun c H => (Or.inl (nd_ H (fun c H => (jW 349 [(4, .bp 9 0), (5, .bp 33 0), (11, .int .i64 (wrap64 (14 + t8638.1))), (12, .int .i64 x12)] [(0, .box [(bV t8638.2.1), .int .i64 t8638.2.2]), (9, .box [.nil, .nil, .nil, .nil]), (33, .box [.own 217 x1033000_2.length, .own 218 x1033001_2.length, .own 325 (x1033002_2.length + 1), .own 220 x1033003_2.length]), (217, .arr 9 1 (x1033000_2.map aW)), (218, .arr 47 2 (x1033001_2.map aJ)), (220, .arr 52 4 (x1033003_2.map aG)), (325, .arr 49 3 ((x1033002_2 ++ ([(⟨(⟨#[122, 122]⟩ : ByteArray) ++ t8640, 0, (⟨#[115]⟩ : ByteArray)⟩ : aB)] : List aB)).map aH))] rfl ⟨.inl rfl, ⟨.inl rfl, ⟨.inl rfl, ⟨.inl rfl, trivial⟩⟩⟩⟩ ⟨rfl, ⟨rfl, ⟨rfl, ⟨rfl, ⟨rfl, ⟨rfl, ⟨fm_, trivial⟩⟩⟩⟩⟩⟩⟩ (⟨(k, wrap64 (x12 + 1), x1033000_2, x1033001_2, (x1033002_2 ++ ([(⟨(⟨#[122, 122]⟩ : ByteArray) ++ t8640, 0, (⟨#[115]⟩ : ByteArray)⟩ : aB)] : List aB)), x1033003_2), [some 217, some 218, some 325, some 220], ⟨H, lt_⟩, lt_, (bX ⟨.inl ⟨rfl, rfl⟩, trivial⟩ ⟨rfl, ⟨rfl, ⟨rfl, ⟨rfl, trivial⟩⟩⟩⟩ fi_ ⟨⟨_, rfl⟩, ⟨_, rfl, ⟨rfl, ⟨rfl, ⟨gA lm_, ⟨rfl, trivial⟩⟩⟩⟩⟩, trivial⟩ rfl)⟩)))))))))
  exact ⟨(k, x1033000_2, x1033001_2, x1033002_2, x1033003_2, t8638.2.1, t8638.2.2), [some 217, some 218, some 219, some 220], ⟨H, lt_⟩, (bX trivial ⟨rfl, ⟨rfl, ⟨rfl, ⟨rfl, trivial⟩⟩⟩⟩ fi_ ⟨⟨_, rfl⟩, ⟨_, rfl, ⟨rfl, ⟨rfl, ⟨rfl, ⟨rfl, trivial⟩⟩⟩⟩⟩, ⟨⟨_, rfl⟩, ⟨_, rfl, ⟨.inl ⟨rfl, rfl⟩, ⟨.inl ⟨rfl, rfl⟩, trivial⟩⟩⟩, trivial⟩⟩ rfl)⟩
  revert H; refine aN (fun t8641 A H => (bW [0] (aS.ac A) ⟨rfl, trivial⟩ rfl rfl rfl rfl rfl rfl rfl rfl (aT.l2_lp (t8641 := t8641) (k := k) H [some 25, some 26, some 27, some 28] (bX ⟨.inl ⟨rfl, rfl⟩, trivial⟩ ⟨rfl, ⟨rfl, ⟨rfl, ⟨rfl, trivial⟩⟩⟩⟩ fi_ ⟨⟨_, rfl⟩, ⟨_, rfl, ⟨rfl, ⟨rfl, ⟨rfl, ⟨rfl, trivial⟩⟩⟩⟩⟩, trivial⟩ rfl) ?_)))
  intro k x14 x1033000_3 x1033001_3 x1033002_3 x1033003_3 hk H; rcases k with _ | k; exact bC H; rw [aT.l2] at H
  refine bM H (fun c H => ?_) (fun c H => ?_)
  refine Br.t ft_ (Br.t ft_ (Br.t ft_ (Br.t ft_ (cu 309 [(4, .bp 9 0), (5, .bp 33 0), (13, .int .i64 (wrap64 (18 + t8641.1))), (14, .int .i64 x14), (32, .bool (decide ((x1033002_3.length : Int) > 1)))] [(0, .box [(bV t8641.2.1), .int .i64 t8641.2.2]), (9, .box [.nil, .nil, .nil, .nil]), (33, .box [.own 217 x1033000_3.length, .own 218 x1033001_3.length, .own 219 x1033002_3.length, .own 220 x1033003_3.length]), (217, .arr 9 1 (x1033000_3.map aW)), (218, .arr 47 2 (x1033001_3.map aJ)), (219, .arr 49 3 (x1033002_3.map aH)), (220, .arr 52 4 (x1033003_3.map aG))] rfl rfl rfl (bM H (fun c H => ?_) (fun c H => ?_))))))
  revert H; refine aN (fun t8643 A H => (cmk (cD.ac A) rfl rfl (nd_ H (fun c H => (Nd.mk (by decide) (nd_ H (fun c H => (El.mk (bJ _ _ nf_ nf_) (Nd.mk (by decide) (nd_ H (fun c H => (El.mk (bJ _ _ nf_ nf_) (Or.inl (nd_ H (fun c H => (jW 477 [(4, .bp 9 0), (5, .bp 33 0), (13, .int .i64 (wrap64 (18 + t8641.1))), (14, .int .i64 x14)] [(0, .box [(bV t8641.2.1), .int .i64 t8641.2.2]), (9, .box [.nil, .nil, .nil, .nil]), (33, .box [.own 217 x1033000_3.length, .own 218 x1033001_3.length, .own 219 x1033002_3.length, .own 453 (x1033003_3.length + 1)]), (217, .arr 9 1 (x1033000_3.map aW)), (218, .arr 47 2 (x1033001_3.map aJ)), (219, .arr 49 3 (x1033002_3.map aH)), (453, .arr 52 4 ((x1033003_3 ++ ([(⟨(⟨#[122, 122]⟩ : ByteArray) ++ t8643, (aK x1033002_3 0).f0, (aK x1033002_3 1).f0, (⟨#[115]⟩ : ByteArray)⟩ : aA)] : List aA)).map aG))] rfl ⟨.inl rfl, ⟨.inl rfl, ⟨.inl rfl, ⟨.inl rfl, trivial⟩⟩⟩⟩ ⟨rfl, ⟨rfl, ⟨rfl, ⟨rfl, ⟨rfl, ⟨rfl, ⟨fm_, trivial⟩⟩⟩⟩⟩⟩⟩ (⟨(k, wrap64 (x14 + 1), x1033000_3, x1033001_3, x1033002_3, (x1033003_3 ++ ([(⟨(⟨#[122, 122]⟩ : ByteArray) ++ t8643, (aK x1033002_3 0).f0, (aK x1033002_3 1).f0, (⟨#[115]⟩ : ByteArray)⟩ : aA)] : List aA))), [some 217, some 218, some 219, some 453], ⟨H, lt_⟩, lt_, (bX ⟨.inl ⟨rfl, rfl⟩, trivial⟩ ⟨rfl, ⟨rfl, ⟨rfl, ⟨rfl, trivial⟩⟩⟩⟩ fi_ ⟨⟨_, rfl⟩, ⟨_, rfl, ⟨rfl, ⟨rfl, ⟨rfl, ⟨gA lm_, trivial⟩⟩⟩⟩⟩, trivial⟩ rfl)⟩)))))))))))))))))
  exact ⟨(k, x1033000_3, x1033001_3, x1033002_3, x1033003_3, t8641.2.1, t8641.2.2), [some 217, some 218, some 219, some 220], ⟨H, lt_⟩, (bX trivial ⟨rfl, ⟨rfl, ⟨rfl, ⟨rfl, trivial⟩⟩⟩⟩ fi_ ⟨⟨_, rfl⟩, ⟨_, rfl, ⟨rfl, ⟨rfl, ⟨rfl, ⟨rfl, trivial⟩⟩⟩⟩⟩, ⟨⟨_, rfl⟩, ⟨_, rfl, ⟨.inl ⟨rfl, rfl⟩, ⟨.inl ⟨rfl, rfl⟩, trivial⟩⟩⟩, trivial⟩⟩ rfl)⟩
  refine Br.f ff_ (Br.f ff_ (Br.f ff_ (Br.f ff_ (cu 309 [(4, .bp 9 0), (5, .bp 33 0), (13, .int .i64 (wrap64 (18 + t8641.1))), (14, .int .i64 x14), (32, .bool false)] [(0, .box [(bV t8641.2.1), .int .i64 t8641.2.2]), (9, .box [.nil, .nil, .nil, .nil]), (33, .box [.own 217 x1033000_3.length, .own 218 x1033001_3.length, .own 219 x1033002_3.length, .own 220 x1033003_3.length]), (217, .arr 9 1 (x1033000_3.map aW)), (218, .arr 47 2 (x1033001_3.map aJ)), (219, .arr 49 3 (x1033002_3.map aH)), (220, .arr 52 4 (x1033003_3.map aG))] rfl rfl rfl (Br.f rfl (⟨(k, x1033000_3, x1033001_3, x1033002_3, x1033003_3, t8641.2.1, t8641.2.2), [some 217, some 218, some 219, some 220], ⟨H, lt_⟩, (bX trivial ⟨rfl, ⟨rfl, ⟨rfl, ⟨rfl, trivial⟩⟩⟩⟩ fi_ ⟨⟨_, rfl⟩, ⟨_, rfl, ⟨rfl, ⟨rfl, ⟨rfl, ⟨rfl, trivial⟩⟩⟩⟩⟩, ⟨⟨_, rfl⟩, ⟨_, rfl, ⟨.inl ⟨rfl, rfl⟩, ⟨.inl ⟨rfl, rfl⟩, trivial⟩⟩⟩, trivial⟩⟩ rfl)⟩))))))
  intro k x1033000 x1033001 x1033002 x1033003 x1000000 x1000001 hk H; rcases k with _ | k; exact bC H; rw [aT.j0] at H
  refine cu 69 [(4, .bp 9 0)] [(0, .box [(bV x1000000), .int .i64 x1000001]), (9, .box [.own 49 x1033000.length, .own 50 x1033001.length, .own 51 x1033002.length, .own 52 x1033003.length]), (49, .arr 9 1 (x1033000.map aW)), (50, .arr 47 2 (x1033001.map aJ)), (51, .arr 49 3 (x1033002.map aH)), (52, .arr 52 4 (x1033003.map aG))] rfl rfl rfl ?_
  cases H
  exact fO [some 0] [49, 50, 51, 52] ((fM (bH (nD rfl rfl) (bH (nD rfl rfl) (bH (nD rfl rfl) (bH (nD rfl rfl) (fN))))))) ⟨rfl, trivial⟩ rfl
theorem hZ.ac {k : Nat} {a0_0 : List Int} {a0_1 : Int} {r : (List ByteArray) × (List aC) × (List aB) × (List aA) × (List Int) × Int} (H : hZ.f k a0_0 a0_1 = some r) : cI Tryz.prog G 17 [.box [(bV a0_0), .int .i64 a0_1]] [.bp 0 0] [.box [(bV r.2.2.2.2.1), .int .i64 r.2.2.2.2.2]] (.agg [(aM r.1), (aF r.2.1), (aD r.2.2.1), (aE r.2.2.2.1)]) := by
  refine bO tok hP Tryz.func17 rfl (by kernel_rfl) [.cell 2 28] rfl (by kernel_rfl) (Nat.le_of_ble_eq_true rfl) (.l .n (.l .n (.l (.l .n (.l (.c .n .n) .n)) .n))) rfl ?_
  unfold hZ.f at H
  revert H; refine aN (fun t8645 A H => (bW [0] (aL.ac A) ⟨rfl, trivial⟩ rfl rfl rfl rfl rfl rfl rfl rfl ?_))
  revert H; refine aN (fun t8650 A H => (bW [0] (aS.ac A) ⟨rfl, trivial⟩ rfl rfl rfl rfl rfl rfl rfl rfl (bM H (fun c H => ?_) (fun c H => ?_))))
  revert H; refine aN (fun t8651 A H => (bW [0] (aT.ac A) ⟨rfl, trivial⟩ rfl rfl rfl rfl rfl rfl rfl rfl (cu 97 [(2, .bp 1 0)] [(0, .box [(bV t8651.2.2.2.2.1), .int .i64 t8651.2.2.2.2.2]), (1, .box [(aM t8651.1), (aF t8651.2.1), (aD t8651.2.2.1), (aE t8651.2.2.2.1)])] rfl rfl rfl ?_)))
  cases H
  exact fO [some 0] [] ((rta rfl)) ⟨rfl, trivial⟩ rfl
  cases H
  exact fO [some 0] [] ((rta rfl)) ⟨rfl, trivial⟩ rfl
theorem eO.ac {k : Nat} {l0 : List Int} {r : (List ByteArray) × (List aC) × (List aB) × (List aA)} (H : eO.f k l0 = some r) : cI Tryz.prog G 5 [] [(bV l0)] [] (.agg [(aM r.1), (aF r.2.1), (aD r.2.2.1), (aE r.2.2.2)]) := by
  refine bO tok hP Tryz.func5 rfl (by kernel_rfl) [.cell 2 28] rfl (by kernel_rfl) (Nat.le_of_ble_eq_true rfl) .n rfl ?_
  unfold eO.f at H
  revert H; refine aN (fun t8654 A H => (cmk (gN.ac A) rfl rfl ?_))
  revert H; refine aN (fun t8655 A H => (bW [16] (hZ.ac A) ⟨rfl, trivial⟩ rfl rfl rfl rfl rfl rfl rfl rfl ?_))
  cases H
  exact pG [] (rta rfl)
theorem bU.l0_lp {F : (Exit → St → Prop) → St → Prop} {hv : List Tmp} {Q : Exit → St → Prop} {σ : St} {r : Bool} {k : Nat} {a0 : ByteArray} {x7 : Int} (H : bU.l0 k a0 x7 = some r) (rn : List (Option Nat)) (h1 : cJ σ σ [] [(7, .int .i64 x7)] [] [] rn)
    (h2 : ∀ (k0 : Nat) (x7 : Int), k0 < k + 1 → bU.l0 k0 a0 x7 = some r → dE σ hv [] [(7, .int .i64 x7)] [] [] (F (fun e σ' => match e with | .normal => ∃ (y : Nat × Int) (rn : List (Option Nat)), (bU.l0 y.1 a0 y.2 = some r ∧ y.1 < k + 1) ∧ y.1 < k0 ∧ cJ σ σ' [] [(7, .int .i64 y.2)] [] [] rn | e => Q e σ'))) : Lp F hv Q σ := by
  unfold Lp
  refine ⟨Nat × Int, fun x => bU.l0 x.1 a0 x.2 = some r ∧ x.1 < k + 1, fun x => x.1, [], fun x => [(7, .int .i64 x.2)], fun x => [], fun x => [], ⟨(k, x7), rn, ⟨H, Nat.lt_succ_self _⟩, h1⟩, ?_⟩
  rintro ⟨k, x7⟩ ⟨H, hk⟩
  exact h2 k x7 hk H
theorem bU.ac {k : Nat} {a0 : ByteArray} {r : Bool} (H : bU.f k a0 = some r) : cI Tryz.prog G 25 [] [.str a0] [] (.bool r) := by
  refine bO tok hP Tryz.func25 rfl (by kernel_rfl) [.tmp 2] rfl (by kernel_rfl) (Nat.le_of_ble_eq_true rfl) (.l .n (.l (.l .n (.l .n (.l .n (.l (.l .n (.c .n (.c .n (.l (.c .n .n) .n)))) .n)))) (.c .n .n))) rfl ?_
  unfold bU.f at H
  refine bU.l0_lp (a0 := a0) (k := k) H [] (fq rfl rfl fi_ rfl) ?_
  intro k x7 hk H; rcases k with _ | k; exact bC H; rw [bU.l0] at H
  refine bM H (fun c H => ?_) (fun c H => ?_)
  refine nd_ H (fun c H => (Nd.mk nf_ (cu 88 [(0, .str a0), (4, .int .u8 (bt a0 x7)), (6, .int .i64 (a0.size : Int)), (7, .int .i64 x7)] [] rfl rfl rfl (bM H (fun c H => ?_) (fun c H => ?_)))))
  refine Br.t ft_ (Br.t ft_ (Br.t rfl (Br.t rfl (Br.t rfl (bM H (fun c H => ?_) (fun c H => ?_))))))
  refine Br.t ft_ (Br.t rfl (Br.t ft_ (Br.t rfl (Br.t rfl (Br.t rfl (Br.t rfl (cu 232 [(0, .str a0), (6, .int .i64 (a0.size : Int)), (7, .int .i64 x7), (30, .bool (!(decide ((bt a0 x7) = 45))))] [] rfl rfl rfl (iI H (fun c H => ?_) (fun c H => ?_)))))))))
  exact ⟨(k, wrap64 (x7 + 1)), [], ⟨H, lt_⟩, lt_, (fq rfl rfl fi_ rfl)⟩
  refine cu 240 [(2, .bool false)] [] rfl rfl rfl ?_
  cases H
  exact rz rfl
  refine Br.f ff_ (Br.t rfl (Br.f ff_ (Br.t rfl (bM H (fun c H => ?_) (fun c H => ?_)))))
  refine Br.t ft_ (Br.t ft_ (cu 232 [(0, .str a0), (6, .int .i64 (a0.size : Int)), (7, .int .i64 x7), (30, .bool (!(decide ((bt a0 x7) = 45))))] [] rfl rfl rfl (iI H (fun c H => ?_) (fun c H => ?_))))
  exact ⟨(k, wrap64 (x7 + 1)), [], ⟨H, lt_⟩, lt_, (fq rfl rfl fi_ rfl)⟩
  refine cu 240 [(2, .bool false)] [] rfl rfl rfl ?_
  cases H
  exact rz rfl
  refine Br.f ff_ (Br.f ff_ (cu 232 [(0, .str a0), (6, .int .i64 (a0.size : Int)), (7, .int .i64 x7), (30, .bool false)] [] rfl rfl rfl (Br.f rfl (⟨(k, wrap64 (x7 + 1)), [], ⟨H, lt_⟩, lt_, (fq rfl rfl fi_ rfl)⟩))))
  refine Br.f ff_ (Br.f ff_ (bM H (fun c H => ?_) (fun c H => ?_)))
  refine Br.t ft_ (Br.t ft_ (bM H (fun c H => ?_) (fun c H => ?_)))
  refine Br.t ft_ (Br.t ft_ (Br.t ft_ (Br.t ft_ (Br.t rfl (Br.t rfl (Br.t rfl (cu 232 [(0, .str a0), (6, .int .i64 (a0.size : Int)), (7, .int .i64 x7), (30, .bool (!(decide ((bt a0 x7) = 45))))] [] rfl rfl rfl (iI H (fun c H => ?_) (fun c H => ?_)))))))))
  exact ⟨(k, wrap64 (x7 + 1)), [], ⟨H, lt_⟩, lt_, (fq rfl rfl fi_ rfl)⟩
  refine cu 240 [(2, .bool false)] [] rfl rfl rfl ?_
  cases H
  exact rz rfl
  refine Br.f ff_ (Br.t ft_ (Br.f ff_ (Br.t ft_ (bM H (fun c H => ?_) (fun c H => ?_)))))
  refine Br.t ft_ (Br.t ft_ (cu 232 [(0, .str a0), (6, .int .i64 (a0.size : Int)), (7, .int .i64 x7), (30, .bool (!(decide ((bt a0 x7) = 45))))] [] rfl rfl rfl (iI H (fun c H => ?_) (fun c H => ?_))))
  exact ⟨(k, wrap64 (x7 + 1)), [], ⟨H, lt_⟩, lt_, (fq rfl rfl fi_ rfl)⟩
  refine cu 240 [(2, .bool false)] [] rfl rfl rfl ?_
  cases H
  exact rz rfl
  refine Br.f ff_ (Br.f ff_ (cu 232 [(0, .str a0), (6, .int .i64 (a0.size : Int)), (7, .int .i64 x7), (30, .bool false)] [] rfl rfl rfl (Br.f rfl (⟨(k, wrap64 (x7 + 1)), [], ⟨H, lt_⟩, lt_, (fq rfl rfl fi_ rfl)⟩))))
  refine Br.f ff_ (Br.f ff_ (Br.f ff_ (Br.f ff_ (Br.f rfl (Br.f rfl (Br.f rfl (cu 232 [(0, .str a0), (6, .int .i64 (a0.size : Int)), (7, .int .i64 x7), (30, .bool false)] [] rfl rfl rfl (Br.f rfl (⟨(k, wrap64 (x7 + 1)), [], ⟨H, lt_⟩, lt_, (fq rfl rfl fi_ rfl)⟩)))))))))
  refine bM H (fun c H => ?_) (fun c H => ?_)
  refine Br.t ft_ (Br.t ft_ (Br.t ft_ (cu 112 [(2, .bool (decide ((a0.size : Int) ≤ 8)))] [] rfl rfl rfl ?_)))
  cases H
  exact rz rfl
  refine Br.f ff_ (Br.f ff_ (Br.f ff_ (cu 112 [(2, .bool false)] [] rfl rfl rfl ?_)))
  cases H
  exact rz rfl
theorem dS.l0_lp {F : (Exit → St → Prop) → St → Prop} {hv : List Tmp} {Q : Exit → St → Prop} {σ : St} {r : Bool} {k : Nat} {l0 : List ByteArray} {x3 : Int} (H : dS.l0 k l0 x3 = some r) (rn : List (Option Nat)) (h1 : cJ σ σ [] [(3, .int .i64 x3)] [] [] rn)
    (h2 : ∀ (k0 : Nat) (x3 : Int), k0 < k + 1 → dS.l0 k0 l0 x3 = some r → dE σ hv [] [(3, .int .i64 x3)] [] [] (F (fun e σ' => match e with | .normal => ∃ (y : Nat × Int) (rn : List (Option Nat)), (dS.l0 y.1 l0 y.2 = some r ∧ y.1 < k + 1) ∧ y.1 < k0 ∧ cJ σ σ' [] [(3, .int .i64 y.2)] [] [] rn | e => Q e σ'))) : Lp F hv Q σ := by
  unfold Lp
  refine ⟨Nat × Int, fun x => dS.l0 x.1 l0 x.2 = some r ∧ x.1 < k + 1, fun x => x.1, [], fun x => [(3, .int .i64 x.2)], fun x => [], fun x => [], ⟨(k, x3), rn, ⟨H, Nat.lt_succ_self _⟩, h1⟩, ?_⟩
  rintro ⟨k, x3⟩ ⟨H, hk⟩
  exact h2 k x3 hk H
theorem dS.ac {k : Nat} {l0 : List ByteArray} {r : Bool} (H : dS.f k l0 = some r) : cI Tryz.prog G 49 [] [(aM l0)] [] (.bool r) := by
  refine bO tok hP Tryz.func49 rfl (by kernel_rfl) [.tmp 2] rfl (by kernel_rfl) (Nat.le_of_ble_eq_true rfl) (.l .n (.l (.l .n (.l .n (.l (.c .n .n) .n))) .n)) rfl ?_
  unfold dS.f at H
  refine dS.l0_lp (l0 := l0) (k := k) H [] (fq rfl rfl fi_ rfl) ?_
  intro k x3 hk H; rcases k with _ | k; exact bC H; rw [dS.l0] at H
  refine bM H (fun c H => ?_) (fun c H => ?_)
  refine nd_ H (fun c H => (nd_ H (fun c H => (El.mk (aX _ _ nf_ nf_) (nd_ H (fun c H => (Nd.mk nf_ (El.mk (aX _ _ nf_ nf_) (cu 128 [(0, (aM l0)), (3, .int .i64 x3), (19, .bool (!(Op.bytesLess (aV ByteArray.empty l0 (wrap64 (x3 - 1))).toList (aV ByteArray.empty l0 x3).toList)))] [] rfl rfl rfl (dM H (fun c H => ?_) (fun c H => ?_)))))))))))
  exact ⟨(k, wrap64 (x3 + 1)), [], ⟨H, lt_⟩, lt_, (fq rfl rfl fi_ rfl)⟩
  cases H
  exact rz rfl
  cases H
  exact rz rfl
theorem eE.l0_lp {F : (Exit → St → Prop) → St → Prop} {hv : List Tmp} {Q : Exit → St → Prop} {σ : St} {r : Bool} {k : Nat} {l0 : List ByteArray} {x7 : Int} (H : eE.l0 k l0 x7 = some r) (rn : List (Option Nat)) (h1 : cJ σ σ [] [(7, .int .i64 x7)] [] [] rn)
    (h2 : ∀ (k0 : Nat) (x7 : Int), k0 < k + 1 → eE.l0 k0 l0 x7 = some r → dE σ hv [] [(7, .int .i64 x7)] [] [] (F (fun e σ' => match e with | .normal => ∃ (y : Nat × Int) (rn : List (Option Nat)), (eE.l0 y.1 l0 y.2 = some r ∧ y.1 < k + 1) ∧ y.1 < k0 ∧ cJ σ σ' [] [(7, .int .i64 y.2)] [] [] rn | e => Q e σ'))) : Lp F hv Q σ := by
  unfold Lp
  refine ⟨Nat × Int, fun x => eE.l0 x.1 l0 x.2 = some r ∧ x.1 < k + 1, fun x => x.1, [], fun x => [(7, .int .i64 x.2)], fun x => [], fun x => [], ⟨(k, x7), rn, ⟨H, Nat.lt_succ_self _⟩, h1⟩, ?_⟩
  rintro ⟨k, x7⟩ ⟨H, hk⟩
  exact h2 k x7 hk H
theorem eE.ac {k : Nat} {l0 : List ByteArray} {r : Bool} (H : eE.f k l0 = some r) : cI Tryz.prog G 21 [] [(aM l0)] [] (.bool r) := by
  refine bO tok hP Tryz.func21 rfl (by kernel_rfl) [.tmp 2] rfl (by kernel_rfl) (Nat.le_of_ble_eq_true rfl) (.l .n (.l (.l .n (.l .n (.l .n (.l (.l .n (.c .n .n)) .n)))) .n)) rfl ?_
  unfold eE.f at H
  refine eE.l0_lp (l0 := l0) (k := k) H [] (fq rfl rfl fi_ rfl) ?_
  intro k x7 hk H; rcases k with _ | k; exact bC H; rw [eE.l0] at H
  refine bM H (fun c H => ?_) (fun c H => ?_)
  refine nd_ H (fun c H => (Nd.mk nf_ (El.mk (aX _ _ nf_ nf_) ?_)))
  revert H; refine aN (fun t8763 A H => (cmk (bU.ac A) rfl rfl (cu 88 [(0, (aM l0)), (5, (aM l0)), (6, .int .i64 (l0.length : Int)), (7, .int .i64 x7), (13, .bool (!t8763))] [] rfl rfl rfl (dM H (fun c H => ?_) (fun c H => ?_)))))
  exact ⟨(k, wrap64 (x7 + 1)), [], ⟨H, lt_⟩, lt_, (fq rfl rfl fi_ rfl)⟩
  cases H
  exact rz rfl
  revert H; refine aN (fun t8765 A H => (cmk (dS.ac A) rfl rfl ?_))
  cases H
  exact rz rfl
theorem bI.l0_lp {F : (Exit → St → Prop) → St → Prop} {hv : List Tmp} {Q : Exit → St → Prop} {σ : St} {r : List bR} {k : Nat} {a0_1 : List aC} {x2 : List bR} {x8 : Int} (H : bI.l0 k a0_1 x2 x8 = some r) (rn : List (Option Nat)) (h1 : cJ σ σ [0] [(2, .own 0 x2.length), (8, .int .i64 x8)] [] [.arr 79 2 (x2.map dV)] rn)
    (h2 : ∀ (k0 : Nat) (x2 : List bR) (x8 : Int), k0 < k + 1 → bI.l0 k0 a0_1 x2 x8 = some r → dE σ hv [0] [(2, .own 0 x2.length), (8, .int .i64 x8)] [] [.arr 79 2 (x2.map dV)] (F (fun e σ' => match e with | .normal => ∃ (y : Nat × (List bR) × Int) (rn : List (Option Nat)), (bI.l0 y.1 a0_1 y.2.1 y.2.2 = some r ∧ y.1 < k + 1) ∧ y.1 < k0 ∧ cJ σ σ' [0] [(2, .own 0 y.2.1.length), (8, .int .i64 y.2.2)] [] [.arr 79 2 (y.2.1.map dV)] rn | e => Q e σ'))) : Lp F hv Q σ := by
  unfold Lp
  refine ⟨Nat × (List bR) × Int, fun x => bI.l0 x.1 a0_1 x.2.1 x.2.2 = some r ∧ x.1 < k + 1, fun x => x.1, [0], fun x => [(2, .own 0 x.2.1.length), (8, .int .i64 x.2.2)], fun x => [], fun x => [.arr 79 2 (x.2.1.map dV)], ⟨(k, x2, x8), rn, ⟨H, Nat.lt_succ_self _⟩, h1⟩, ?_⟩
  rintro ⟨k, x2, x8⟩ ⟨H, hk⟩
  exact h2 k x2 x8 hk H
theorem bI.ac {k : Nat} {a0_0 : List ByteArray} {a0_1 : List aC} {a0_2 : List aB} {a0_3 : List aA} {r : List bR} (H : bI.f k a0_0 a0_1 a0_2 a0_3 = some r) : cI Tryz.prog G 23 [] [.agg [(aM a0_0), (aF a0_1), (aD a0_2), (aE a0_3)]] [] ((cZ r)) := by
  refine bO tok hP Tryz.func23 rfl (by kernel_rfl) [.tmp 2] rfl (by kernel_rfl) (Nat.le_of_ble_eq_true rfl) (.l .n (.l (.l .n (.l .n (.l .n (.l (.c .n .n) .n)))) .n)) rfl ?_
  unfold bI.f at H
  refine bI.l0_lp (a0_1 := a0_1) (k := k) H [none] (bX ⟨⟨rfl, rfl⟩, ⟨.inl ⟨rfl, rfl⟩, trivial⟩⟩ ⟨rfl, trivial⟩ fi_ trivial rfl) ?_
  intro k x2 x8 hk H; rcases k with _ | k; exact bC H; rw [bI.l0] at H
  refine bM H (fun c H => ?_) (fun c H => ?_)
  refine nd_ H (fun c H => (Nd.mk nf_ (El.mk (bP _ _ nf_ nf_) (cu 89 [(2, .own 48 x2.length), (4, .bp 73 0), (6, (aF a0_1)), (7, .int .i64 (a0_1.length : Int)), (8, .int .i64 x8)] [(48, .arr 79 2 (x2.map dV)), (73, .box [.str ((aO a0_1 x8).f0), .str ((aO a0_1 x8).f1)])] rfl rfl rfl (Or.inl (nd_ H (fun c H => (⟨(k, (x2 ++ ([(⟨(aO a0_1 x8).f0, (aO a0_1 x8).f1⟩ : bR)] : List bR)), wrap64 (x8 + 1)), [some 145], ⟨H, lt_⟩, lt_, (bX ⟨gA lm_, ⟨.inl ⟨rfl, rfl⟩, trivial⟩⟩ ⟨fm_, trivial⟩ fi_ trivial rfl)⟩))))))))
  cases H
  exact pG [48] (aAT rfl rfl)
theorem bI.l0_lpO {F : (Exit → St → Prop) → St → Prop} {hv : List Tmp} {Q : Exit → St → Prop} {σ : St} {r : List bR} {k : Nat} {a0_1 : List aC} {x2 : List bR} {x8 : Int} (H : bI.l0 k a0_1 x2 x8 = some r) (rn : List (Option Nat)) (h1 : cJ σ σ [0] [(2, .own 0 x2.length), (8, .int .i64 x8)] [] [.arr 79 2 (x2.map dV)] rn)
    (h2 : ∀ (k0 : Nat) (x2 : List bR) (x8 : Int), k0 < k + 1 → bI.l0 k0 a0_1 x2 x8 = some r → dE σ hv [0] [(2, .own 0 x2.length), (8, .int .i64 x8)] [] [.arr 79 2 (x2.map dV)] (F (fun e σ' => match e with | .normal => ∃ (y : Nat × (List bR) × Int) (rn : List (Option Nat)), (bI.l0 y.1 a0_1 y.2.1 y.2.2 = some r ∧ y.1 < k + 1) ∧ y.1 < k0 ∧ cJ σ σ' [0] [(2, .own 0 y.2.1.length), (8, .int .i64 y.2.2)] [] [.arr 79 2 (y.2.1.map dV)] rn | e => Q e σ'))) : Lp F hv Q σ := by
  unfold Lp
  refine ⟨Nat × (List bR) × Int, fun x => bI.l0 x.1 a0_1 x.2.1 x.2.2 = some r ∧ x.1 < k + 1, fun x => x.1, [0], fun x => [(2, .own 0 x.2.1.length), (8, .int .i64 x.2.2)], fun x => [], fun x => [.arr 79 2 (x.2.1.map dV)], ⟨(k, x2, x8), rn, ⟨H, Nat.lt_succ_self _⟩, h1⟩, ?_⟩
  rintro ⟨k, x2, x8⟩ ⟨H, hk⟩
  exact h2 k x2 x8 hk H
theorem bI.acO {k : Nat} {a0_0 : List ByteArray} {a0_1 : List aC} {a0_2 : List aB} {a0_3 : List aA} {r : List bR} (H : bI.f k a0_0 a0_1 a0_2 a0_3 = some r) : cI Tryz.prog G 23 [] [.agg [(aM a0_0), (aF a0_1), (aD a0_2), (aE a0_3)]] [.arr 79 2 (r.map dV)] (.own 0 r.length) := by
  refine bO tok hP Tryz.func23 rfl (by kernel_rfl) [.tmp 2] rfl (by kernel_rfl) (Nat.le_of_ble_eq_true rfl) (.l .n (.l (.l .n (.l .n (.l .n (.l (.c .n .n) .n)))) .n)) rfl ?_
  unfold bI.f at H
  refine bI.l0_lpO (a0_1 := a0_1) (k := k) H [none] (bX ⟨⟨rfl, rfl⟩, ⟨.inl ⟨rfl, rfl⟩, trivial⟩⟩ ⟨rfl, trivial⟩ fi_ trivial rfl) ?_
  intro k x2 x8 hk H; rcases k with _ | k; exact bC H; rw [bI.l0] at H
  refine bM H (fun c H => ?_) (fun c H => ?_)
  refine nd_ H (fun c H => (Nd.mk nf_ (El.mk (bP _ _ nf_ nf_) (cu 89 [(2, .own 48 x2.length), (4, .bp 73 0), (6, (aF a0_1)), (7, .int .i64 (a0_1.length : Int)), (8, .int .i64 x8)] [(48, .arr 79 2 (x2.map dV)), (73, .box [.str ((aO a0_1 x8).f0), .str ((aO a0_1 x8).f1)])] rfl rfl rfl (Or.inl (nd_ H (fun c H => (⟨(k, (x2 ++ ([(⟨(aO a0_1 x8).f0, (aO a0_1 x8).f1⟩ : bR)] : List bR)), wrap64 (x8 + 1)), [some 145], ⟨H, lt_⟩, lt_, (bX ⟨gA lm_, ⟨.inl ⟨rfl, rfl⟩, trivial⟩⟩ ⟨fm_, trivial⟩ fi_ trivial rfl)⟩))))))))
  cases H
  exact fO [some 48] [] ((rfl)) ⟨rfl, trivial⟩ rfl
theorem dQ.l0_lp {F : (Exit → St → Prop) → St → Prop} {hv : List Tmp} {Q : Exit → St → Prop} {σ : St} {r : Bool} {k : Nat} {l0 : List bR} {a1 : Int} {x9 : Int} (H : dQ.l0 k l0 a1 x9 = some r) (rn : List (Option Nat)) (h1 : cJ σ σ [] [(9, .int .i64 x9)] [] [] rn)
    (h2 : ∀ (k0 : Nat) (x9 : Int), k0 < k + 1 → dQ.l0 k0 l0 a1 x9 = some r → dE σ hv [] [(9, .int .i64 x9)] [] [] (F (fun e σ' => match e with | .normal => ∃ (y : Nat × Int) (rn : List (Option Nat)), (dQ.l0 y.1 l0 a1 y.2 = some r ∧ y.1 < k + 1) ∧ y.1 < k0 ∧ cJ σ σ' [] [(9, .int .i64 y.2)] [] [] rn | e => Q e σ'))) : Lp F hv Q σ := by
  unfold Lp
  refine ⟨Nat × Int, fun x => dQ.l0 x.1 l0 a1 x.2 = some r ∧ x.1 < k + 1, fun x => x.1, [], fun x => [(9, .int .i64 x.2)], fun x => [], fun x => [], ⟨(k, x9), rn, ⟨H, Nat.lt_succ_self _⟩, h1⟩, ?_⟩
  rintro ⟨k, x9⟩ ⟨H, hk⟩
  exact h2 k x9 hk H
theorem dQ.ac {k : Nat} {l0 : List bR} {a1 : Int} {r : Bool} (H : dQ.f k l0 a1 = some r) : cI Tryz.prog G 22 [] [(cZ l0), .int .i64 a1] [] (.bool r) := by
  refine bO tok hP Tryz.func22 rfl (by kernel_rfl) [.tmp 4] rfl (by kernel_rfl) (Nat.le_of_ble_eq_true rfl) (.l .n (.l (.l .n (.l .n (.l .n (.l (.c .n (.l (.c .n (.l (.c .n .n) .n)) (.c .n (.l (.c .n .n) .n)))) .n)))) (.c .n .n))) rfl ?_
  unfold dQ.f at H
  refine dQ.l0_lp (l0 := l0) (a1 := a1) (k := k) H [] (fq rfl rfl fi_ rfl) ?_
  intro k x9 hk H; rcases k with _ | k; exact bC H; rw [dQ.l0] at H
  refine bM H (fun c H => ?_) (fun c H => ?_)
  refine nd_ H (fun c H => (Nd.mk nf_ (El.mk (gE _ _ nf_ nf_) (cu 88 [(0, (cZ l0)), (1, .int .i64 a1), (5, .int .i64 x9), (6, .bp 64 0), (7, (cZ l0)), (8, .int .i64 (l0.length : Int)), (9, .int .i64 x9)] [(64, .box [.str ((cH l0 x9).f0), .str ((cH l0 x9).f1)])] rfl rfl rfl ?_))))
  revert H; refine aN (fun t8817 A H => (cmk (bU.ac A) rfl rfl (dM H (fun c H => ?_) (fun c H => ?_))))
  refine Br.f ff_ (Br.f ff_ ?_)
  revert H; refine aN (fun t8818 A H => (cmk (bU.ac A) rfl rfl (Br.f ff_ (Br.f ff_ (dM H (fun c H => ?_) (fun c H => ?_))))))
  refine Br.f ff_ (Br.f ff_ (Br.f ff_ (Br.f ff_ (Br.f ff_ (cu 224 [(0, (cZ l0)), (1, .int .i64 a1), (5, .int .i64 x9), (6, .bp 64 0), (7, (cZ l0)), (8, .int .i64 (l0.length : Int)), (9, .int .i64 x9), (30, .bool (!(Op.bytesLess ((cH l0 x9).f0).toList ((cH l0 x9).f1).toList)))] [(64, .box [.str ((cH l0 x9).f0), .str ((cH l0 x9).f1)])] rfl rfl rfl (dM H (fun c H => ?_) (fun c H => ?_)))))))
  refine bM H (fun c H => ?_) (fun c H => ?_)
  refine Br.t ft_ (Br.t ft_ (Br.t ft_ (nd_ H (fun c H => (nd_ H (fun c H => (El.mk (gE _ _ nf_ nf_) (Br.t ft_ (Br.t ft_ (Br.t ft_ (Br.t ft_ (Br.t ft_ (Br.t ft_ (jF H (fun c H => ?_) (fun c H => ?_)))))))))))))))
  refine Br.t ft_ (Br.t ft_ (Br.t ft_ (Br.t ft_ (Br.t ft_ (Br.t ft_ (Br.t ft_ (Br.t ft_ (Br.t ft_ (Br.t ft_ (Br.t ft_ (Br.t ft_ (Br.t ft_ (cu 504 [(0, (cZ l0)), (1, .int .i64 a1), (7, (cZ l0)), (8, .int .i64 (l0.length : Int)), (9, .int .i64 x9), (65, .bool true)] [] rfl rfl rfl (Br.t rfl (cu 512 [(4, .bool false)] [] rfl rfl rfl ?_)))))))))))))))
  cases H
  exact rz rfl
  refine Br.f ff_ (Br.f ff_ (Br.f ff_ (Nd.mk nf_ (Nd.mk nf_ (El.mk (gE _ _ nf_ nf_) (Br.f ff_ (Br.f ff_ (Br.f ff_ (Br.f ff_ (Br.f ff_ (Br.f ff_ (bM H (fun c H => ?_) (fun c H => ?_)))))))))))))
  refine Br.t ft_ (Br.t ft_ (Br.t ft_ (Nd.mk nf_ (Nd.mk nf_ (El.mk (gE _ _ nf_ nf_) (Br.t ft_ (Br.t ft_ (Br.t ft_ (Br.t ft_ (Br.t ft_ (Br.f ff_ (Br.t ft_ (Br.t ft_ (Br.f ff_ (Br.t ft_ (cu 504 [(0, (cZ l0)), (1, .int .i64 a1), (7, (cZ l0)), (8, .int .i64 (l0.length : Int)), (9, .int .i64 x9), (65, .bool (!(Op.bytesLess ((cH l0 (wrap64 (x9 - 1))).f1).toList ((cH l0 x9).f1).toList)))] [] rfl rfl rfl (dM H (fun c H => ?_) (fun c H => ?_))))))))))))))))))
  exact ⟨(k, wrap64 (x9 + 1)), [], ⟨H, lt_⟩, lt_, (fq rfl rfl fi_ rfl)⟩
  refine cu 512 [(4, .bool false)] [] rfl rfl rfl ?_
  cases H
  exact rz rfl
  refine Br.f ff_ (Br.f ff_ (Br.f ff_ (Br.f ff_ (Br.f ff_ (Br.f ff_ (Br.f ff_ (Br.f ff_ (Br.f ff_ (Br.f ff_ (Br.t ft_ (Br.f ff_ (Br.t ft_ (cu 504 [(0, (cZ l0)), (1, .int .i64 a1), (7, (cZ l0)), (8, .int .i64 (l0.length : Int)), (9, .int .i64 x9), (65, .bool false)] [] rfl rfl rfl (Br.f rfl (⟨(k, wrap64 (x9 + 1)), [], ⟨H, lt_⟩, lt_, (fq rfl rfl fi_ rfl)⟩)))))))))))))))
  refine Br.f ff_ (Br.f ff_ (Br.f ff_ (Br.f ff_ (Br.f ff_ (Br.f ff_ (Br.f ff_ (Br.f ff_ (Br.f ff_ (Br.f ff_ (Br.f ff_ (cu 504 [(0, (cZ l0)), (1, .int .i64 a1), (7, (cZ l0)), (8, .int .i64 (l0.length : Int)), (9, .int .i64 x9), (65, .bool false)] [] rfl rfl rfl (Br.f rfl (⟨(k, wrap64 (x9 + 1)), [], ⟨H, lt_⟩, lt_, (fq rfl rfl fi_ rfl)⟩)))))))))))))
  refine cu 232 [(4, .bool false)] [] rfl rfl rfl ?_
  cases H
  exact rz rfl
  refine Br.t ft_ (Br.t ft_ (Br.t ft_ (Br.t ft_ (Br.t ft_ (cu 224 [(0, (cZ l0)), (1, .int .i64 a1), (5, .int .i64 x9), (6, .bp 64 0), (7, (cZ l0)), (8, .int .i64 (l0.length : Int)), (9, .int .i64 x9), (30, .bool true)] [(64, .box [.str ((cH l0 x9).f0), .str ((cH l0 x9).f1)])] rfl rfl rfl (Br.t rfl (cu 232 [(4, .bool false)] [] rfl rfl rfl ?_)))))))
  cases H
  exact rz rfl
  refine Br.t ft_ (Br.t ft_ (Br.t ft_ (Br.t ft_ (Br.t rfl (Br.t rfl (Br.t rfl (Br.t rfl (Br.t rfl (Br.t rfl (cu 224 [(0, (cZ l0)), (1, .int .i64 a1), (5, .int .i64 x9), (6, .bp 64 0), (7, (cZ l0)), (8, .int .i64 (l0.length : Int)), (9, .int .i64 x9), (30, .bool true)] [(64, .box [.str ((cH l0 x9).f0), .str ((cH l0 x9).f1)])] rfl rfl rfl (Br.t rfl (cu 232 [(4, .bool false)] [] rfl rfl rfl ?_))))))))))))
  cases H
  exact rz rfl
  refine cu 80 [(4, .bool (decide ((l0.length : Int) ≤ a1)))] [] rfl rfl rfl ?_
  cases H
  exact rz rfl
theorem bB.l0_lp {F : (Exit → St → Prop) → St → Prop} {hv : List Tmp} {Q : Exit → St → Prop} {σ : St} {r : Int} {k : Nat} {l0 : List ByteArray} {a1 : ByteArray} {x8 : Int} (H : bB.l0 k l0 a1 x8 = some r) (rn : List (Option Nat)) (h1 : cJ σ σ [] [(8, .int .i64 x8)] [] [] rn)
    (h2 : ∀ (k0 : Nat) (x8 : Int), k0 < k + 1 → bB.l0 k0 l0 a1 x8 = some r → dE σ hv [] [(8, .int .i64 x8)] [] [] (F (fun e σ' => match e with | .normal => ∃ (y : Nat × Int) (rn : List (Option Nat)), (bB.l0 y.1 l0 a1 y.2 = some r ∧ y.1 < k + 1) ∧ y.1 < k0 ∧ cJ σ σ' [] [(8, .int .i64 y.2)] [] [] rn | e => Q e σ'))) : Lp F hv Q σ := by
  unfold Lp
  refine ⟨Nat × Int, fun x => bB.l0 x.1 l0 a1 x.2 = some r ∧ x.1 < k + 1, fun x => x.1, [], fun x => [(8, .int .i64 x.2)], fun x => [], fun x => [], ⟨(k, x8), rn, ⟨H, Nat.lt_succ_self _⟩, h1⟩, ?_⟩
  rintro ⟨k, x8⟩ ⟨H, hk⟩
  exact h2 k x8 hk H
theorem bB.ac {k : Nat} {l0 : List ByteArray} {a1 : ByteArray} {r : Int} (H : bB.f k l0 a1 = some r) : cI Tryz.prog G 73 [] [(aM l0), .str a1] [] (.int .i64 r) := by
  refine bO tok hP Tryz.func73 rfl (by kernel_rfl) [.tmp 4] rfl (by kernel_rfl) (Nat.le_of_ble_eq_true rfl) (.l .n (.l (.l .n (.l .n (.l .n (.l (.l .n (.c .n .n)) .n)))) .n)) rfl ?_
  unfold bB.f at H
  refine bB.l0_lp (l0 := l0) (a1 := a1) (k := k) H [] (fq rfl rfl fi_ rfl) ?_
  intro k x8 hk H; rcases k with _ | k; exact bC H; rw [bB.l0] at H
  refine bM H (fun c H => ?_) (fun c H => ?_)
  refine nd_ H (fun c H => (Nd.mk nf_ (El.mk (aX _ _ nf_ nf_) (cu 104 [(0, (aM l0)), (1, .str a1), (5, .int .i64 x8), (7, .int .i64 (l0.length : Int)), (8, .int .i64 x8), (16, .bool (decide (a1.toList = (aV ByteArray.empty l0 x8).toList)))] [] rfl rfl rfl (bM H (fun c H => ?_) (fun c H => ?_))))))
  cases H
  exact rz rfl
  exact ⟨(k, wrap64 (x8 + 1)), [], ⟨H, lt_⟩, lt_, (fq rfl rfl fi_ rfl)⟩
  cases H
  exact rz rfl
theorem dW.ac {k : Nat} {l0 : List ByteArray} {a1 : ByteArray} {r : Bool} (H : dW.f k l0 a1 = some r) : cI Tryz.prog G 50 [] [(aM l0), .str a1] [] (.bool r) := by
  refine bO tok hP Tryz.func50 rfl (by kernel_rfl) [.tmp 4] rfl (by kernel_rfl) (Nat.le_of_ble_eq_true rfl) .n rfl ?_
  unfold dW.f at H
  revert H; refine aN (fun t8907 A H => (cmk (bB.ac A) rfl rfl ?_))
  cases H
  exact rz rfl
theorem fT.ac {k : Nat} {l0 : List ByteArray} {a1 : ByteArray} {r : Bool} (H : fT.f k l0 a1 = some r) : cI Tryz.prog G 24 [] [(aM l0), .str a1] [] (.bool r) := by
  refine bO tok hP Tryz.func24 rfl (by kernel_rfl) [.tmp 4] rfl (by kernel_rfl) (Nat.le_of_ble_eq_true rfl) .n rfl ?_
  unfold fT.f at H
  revert H; refine aN (fun t8909 A H => (cmk (dW.ac A) rfl rfl ?_))
  cases H
  exact rz rfl
theorem bK.l0_lp {F : (Exit → St → Prop) → St → Prop} {hv : List Tmp} {Q : Exit → St → Prop} {σ : St} {r : ByteArray × Int × ByteArray × Bool} {k : Nat} {a0_2 : List aB} {a1 : ByteArray} {x11 : Int} (H : bK.l0 k a0_2 a1 x11 = some r) (rn : List (Option Nat)) (h1 : cJ σ σ [0] [(11, .int .i64 x11)] [] [] rn)
    (h2 : ∀ (k0 : Nat) (x11 : Int), k0 < k + 1 → bK.l0 k0 a0_2 a1 x11 = some r → dE σ hv [0] [(11, .int .i64 x11)] [] [] (F (fun e σ' => match e with | .normal => ∃ (y : Nat × Int) (rn : List (Option Nat)), (bK.l0 y.1 a0_2 a1 y.2 = some r ∧ y.1 < k + 1) ∧ y.1 < k0 ∧ cJ σ σ' [0] [(11, .int .i64 y.2)] [] [] rn | e => Q e σ'))) : Lp F hv Q σ := by
  unfold Lp
  refine ⟨Nat × Int, fun x => bK.l0 x.1 a0_2 a1 x.2 = some r ∧ x.1 < k + 1, fun x => x.1, [0], fun x => [(11, .int .i64 x.2)], fun x => [], fun x => [], ⟨(k, x11), rn, ⟨H, Nat.lt_succ_self _⟩, h1⟩, ?_⟩
  rintro ⟨k, x11⟩ ⟨H, hk⟩
  exact h2 k x11 hk H
theorem bK.ac {k : Nat} {a0_0 : List ByteArray} {a0_1 : List aC} {a0_2 : List aB} {a0_3 : List aA} {a1 : ByteArray} {r : ByteArray × Int × ByteArray × Bool} (H : bK.f k a0_0 a0_1 a0_2 a0_3 a1 = some r) : cI Tryz.prog G 26 [] [.agg [(aM a0_0), (aF a0_1), (aD a0_2), (aE a0_3)], .str a1] [] (.tup [.agg [.str r.1, .int .i64 r.2.1, .str r.2.2.1], .bool r.2.2.2]) := by
  refine bO tok hP Tryz.func26 rfl (by kernel_rfl) [.cell 4 49, .tmp 5] rfl (by kernel_rfl) (Nat.le_of_ble_eq_true rfl) (.l .n (.l (.l .n (.l .n (.l .n (.l (.c .n .n) .n)))) (.c .n .n))) rfl ?_
  unfold bK.f at H
  refine bK.l0_lp (a0_2 := a0_2) (a1 := a1) (k := k) H [] (fq rfl rfl fi_ rfl) ?_
  intro k x11 hk H; rcases k with _ | k; exact bC H; rw [bK.l0] at H
  refine bM H (fun c H => ?_) (fun c H => ?_)
  refine nd_ H (fun c H => (Nd.mk nf_ (El.mk (bJ _ _ nf_ nf_) (cu 96 [(1, .str a1), (4, .bp 8 0), (7, .bp 80 0), (9, (aD a0_2)), (10, .int .i64 (a0_2.length : Int)), (11, .int .i64 x11)] [(8, .box [.str (⟨#[]⟩ : ByteArray), .int .i64 0, .str (⟨#[]⟩ : ByteArray)]), (80, .box [.str ((aK a0_2 x11).f0), .int .i64 ((aK a0_2 x11).f1), .str ((aK a0_2 x11).f2)])] rfl rfl rfl (bM H (fun c H => ?_) (fun c H => ?_))))))
  cases H
  exact rts rfl
  exact ⟨(k, wrap64 (x11 + 1)), [], ⟨H, lt_⟩, lt_, (fq rfl rfl fi_ rfl)⟩
  refine cu 88 [(4, .bp 8 0), (5, .bool false)] [(8, .box [.str (⟨#[]⟩ : ByteArray), .int .i64 0, .str (⟨#[]⟩ : ByteArray)])] rfl rfl rfl ?_
  cases H
  exact rts rfl
theorem aP.j0_sq {F : (Exit → St → Prop) → St → Prop} {hv : List Tmp} {K : St → Prop} {Q : Exit → St → Prop} {σ : St} {r : Bool} {KK : Nat} {a0_0 : List ByteArray} {a0_1 : List aC} {a0_2 : List aB} {a0_3 : List aA} {x111 : Int}
    (h1 : F (fun e σ' => match e with | .normal => ∃ (y : Nat × Bool) (rn : List (Option Nat)), (aP.j0 y.1 a0_0 a0_1 a0_2 a0_3 x111 y.2 = some r ∧ y.1 < KK) ∧ cJ σ σ' [] [(170, .bool y.2)] [] [] rn | e => Q e σ') σ)
    (h2 : ∀ (k : Nat) (x170 : Bool), k < KK → aP.j0 k a0_0 a0_1 a0_2 a0_3 x111 x170 = some r → dE σ hv [] [(170, .bool x170)] [] [] K) : Sq F hv K Q σ := by
  unfold Sq
  refine ⟨Nat × Bool, fun x => aP.j0 x.1 a0_0 a0_1 a0_2 a0_3 x111 x.2 = some r ∧ x.1 < KK, [], fun x => [(170, .bool x.2)], fun x => [], fun x => [], h1, ?_⟩
  rintro ⟨k, x170⟩ ⟨H, hk⟩
  exact h2 k x170 hk H
theorem aP.l2_lp {F : (Exit → St → Prop) → St → Prop} {hv : List Tmp} {Q : Exit → St → Prop} {σ : St} {r : Bool} {k : Nat} {a0_0 : List ByteArray} {a0_1 : List aC} {a0_2 : List aB} {a0_3 : List aA} {x111 : Int} (H : aP.l2 k a0_0 a0_1 a0_2 a0_3 x111 = some r) (rn : List (Option Nat)) (h1 : cJ σ σ [] [(111, .int .i64 x111)] [] [] rn)
    (h2 : ∀ (k0 : Nat) (x111 : Int), k0 < k + 1 → aP.l2 k0 a0_0 a0_1 a0_2 a0_3 x111 = some r → dE σ hv [] [(111, .int .i64 x111)] [] [] (F (fun e σ' => match e with | .normal => ∃ (y : Nat × Int) (rn : List (Option Nat)), (aP.l2 y.1 a0_0 a0_1 a0_2 a0_3 y.2 = some r ∧ y.1 < k + 1) ∧ y.1 < k0 ∧ cJ σ σ' [] [(111, .int .i64 y.2)] [] [] rn | e => Q e σ'))) : Lp F hv Q σ := by
  unfold Lp
  refine ⟨Nat × Int, fun x => aP.l2 x.1 a0_0 a0_1 a0_2 a0_3 x.2 = some r ∧ x.1 < k + 1, fun x => x.1, [], fun x => [(111, .int .i64 x.2)], fun x => [], fun x => [], ⟨(k, x111), rn, ⟨H, Nat.lt_succ_self _⟩, h1⟩, ?_⟩
  rintro ⟨k, x111⟩ ⟨H, hk⟩
  exact h2 k x111 hk H
theorem aP.l1_lp {F : (Exit → St → Prop) → St → Prop} {hv : List Tmp} {Q : Exit → St → Prop} {σ : St} {r : Bool} {k : Nat} {a0_0 : List ByteArray} {a0_1 : List aC} {a0_2 : List aB} {a0_3 : List aA} {x66 : Int} (H : aP.l1 k a0_0 a0_1 a0_2 a0_3 x66 = some r) (rn : List (Option Nat)) (h1 : cJ σ σ [] [(66, .int .i64 x66)] [] [] rn)
    (h2 : ∀ (k0 : Nat) (x66 : Int), k0 < k + 1 → aP.l1 k0 a0_0 a0_1 a0_2 a0_3 x66 = some r → dE σ hv [] [(66, .int .i64 x66)] [] [] (F (fun e σ' => match e with | .normal => ∃ (y : Nat × Int) (rn : List (Option Nat)), (aP.l1 y.1 a0_0 a0_1 a0_2 a0_3 y.2 = some r ∧ y.1 < k + 1) ∧ y.1 < k0 ∧ cJ σ σ' [] [(66, .int .i64 y.2)] [] [] rn | e => Q e σ'))) : Lp F hv Q σ := by
  unfold Lp
  refine ⟨Nat × Int, fun x => aP.l1 x.1 a0_0 a0_1 a0_2 a0_3 x.2 = some r ∧ x.1 < k + 1, fun x => x.1, [], fun x => [(66, .int .i64 x.2)], fun x => [], fun x => [], ⟨(k, x66), rn, ⟨H, Nat.lt_succ_self _⟩, h1⟩, ?_⟩
  rintro ⟨k, x66⟩ ⟨H, hk⟩
  exact h2 k x66 hk H
theorem aP.l0_lp {F : (Exit → St → Prop) → St → Prop} {hv : List Tmp} {Q : Exit → St → Prop} {σ : St} {r : Bool} {k : Nat} {a0_0 : List ByteArray} {a0_1 : List aC} {a0_2 : List aB} {a0_3 : List aA} {x44 : Int} (H : aP.l0 k a0_0 a0_1 a0_2 a0_3 x44 = some r) (rn : List (Option Nat)) (h1 : cJ σ σ [] [(44, .int .i64 x44)] [] [] rn)
    (h2 : ∀ (k0 : Nat) (x44 : Int), k0 < k + 1 → aP.l0 k0 a0_0 a0_1 a0_2 a0_3 x44 = some r → dE σ hv [] [(44, .int .i64 x44)] [] [] (F (fun e σ' => match e with | .normal => ∃ (y : Nat × Int) (rn : List (Option Nat)), (aP.l0 y.1 a0_0 a0_1 a0_2 a0_3 y.2 = some r ∧ y.1 < k + 1) ∧ y.1 < k0 ∧ cJ σ σ' [] [(44, .int .i64 y.2)] [] [] rn | e => Q e σ'))) : Lp F hv Q σ := by
  unfold Lp
  refine ⟨Nat × Int, fun x => aP.l0 x.1 a0_0 a0_1 a0_2 a0_3 x.2 = some r ∧ x.1 < k + 1, fun x => x.1, [], fun x => [(44, .int .i64 x.2)], fun x => [], fun x => [], ⟨(k, x44), rn, ⟨H, Nat.lt_succ_self _⟩, h1⟩, ?_⟩
  rintro ⟨k, x44⟩ ⟨H, hk⟩
  exact h2 k x44 hk H
theorem aP.ac {k : Nat} {a0_0 : List ByteArray} {a0_1 : List aC} {a0_2 : List aB} {a0_3 : List aA} {r : Bool} (H : aP.f k a0_0 a0_1 a0_2 a0_3 = some r) : cI Tryz.prog G 8 [] [.agg [(aM a0_0), (aF a0_1), (aD a0_2), (aE a0_3)]] [] (.bool r) := by
  refine bO tok hP Tryz.func8 rfl (by kernel_rfl) [.tmp 2] rfl (by kernel_rfl) (Nat.le_of_ble_eq_true rfl) (.l .n (.l (.c .n (.l (.c .n .n) .n)) (.l (.l .n (.l .n (.l .n (.l (.l .n (.c .n (.l (.c .n .n) .n))) .n)))) (.l (.l .n (.c .n (.l .n (.l (.l .n (.c .n (.l (.c .n .n) .n))) .n)))) (.l (.l .n (.l .n (.l .n (.l (.c .n (.l .n (.c .n (.j .n (.l (.c .n .n) .n))))) .n)))) .n))))) rfl ?_
  unfold aP.f at H
  refine bM H (fun c H => ?_) (fun c H => ?_)
  refine Br.t ft_ (Br.t ft_ (Br.t ft_ (Br.t ft_ (Br.t rfl (Br.t rfl (Br.t rfl (Br.t rfl (Br.t rfl (Br.t rfl (Br.t rfl (Br.t rfl (Br.t rfl (Br.t rfl (Br.t rfl (Br.t rfl (Br.t rfl (Br.t rfl (Br.t rfl (cu 240 [(1, .bp 0 0), (40, .bool true)] [(0, .box [(aM a0_0), (aF a0_1), (aD a0_2), (aE a0_3)])] rfl rfl rfl (Br.t rfl (cu 248 [(2, .bool false)] [] rfl rfl rfl ?_)))))))))))))))))))))
  cases H
  exact rz rfl
  refine Br.f ff_ (Br.f ff_ ?_)
  revert H; refine aN (fun t9755 A H => (cmk (eE.ac A) rfl rfl (Br.f ff_ (Br.f ff_ (dM H (fun c H => ?_) (fun c H => ?_))))))
  refine Br.f ff_ ?_
  revert H; refine aN (fun t9756 A H => (cmk (bI.ac A) rfl rfl (Br.f ff_ ?_)))
  revert H; refine aN (fun t9757 A H => (cmk (dQ.ac A) rfl rfl (Br.f ff_ (Br.f ff_ (dM H (fun c H => ?_) (fun c H => ?_))))))
  refine Br.f ff_ (Br.f ff_ (Br.f ff_ (Br.f ff_ (bM H (fun c H => ?_) (fun c H => ?_)))))
  refine Br.t ft_ (Br.t ft_ (Br.t ft_ (Br.t ft_ (cu 240 [(1, .bp 0 0), (40, .bool true)] [(0, .box [(aM a0_0), (aF a0_1), (aD a0_2), (aE a0_3)])] rfl rfl rfl (Br.t rfl (cu 248 [(2, .bool false)] [] rfl rfl rfl ?_))))))
  cases H
  exact rz rfl
  refine Br.f ff_ (Br.f ff_ (Br.f ff_ (Br.f ff_ (cu 240 [(1, .bp 0 0), (40, .bool (decide ((a0_3.length : Int) > 18)))] [(0, .box [(aM a0_0), (aF a0_1), (aD a0_2), (aE a0_3)])] rfl rfl rfl (bM H (fun c H => ?_) (fun c H => ?_))))))
  refine cu 248 [(2, .bool false)] [] rfl rfl rfl ?_
  cases H
  exact rz rfl
  refine aP.l0_lp (a0_0 := a0_0) (a0_1 := a0_1) (a0_2 := a0_2) (a0_3 := a0_3) (k := k) H [] (fq rfl rfl fi_ rfl) ?_
  intro k x44 hk H; rcases k with _ | k; exact bC H; rw [aP.l0] at H
  refine bM H (fun c H => ?_) (fun c H => ?_)
  refine nd_ H (fun c H => (Nd.mk nf_ (El.mk (bP _ _ nf_ nf_) ?_)))
  revert H; refine aN (fun t9764 A H => (cmk (fT.ac A) rfl rfl (dM H (fun c H => ?_) (fun c H => ?_))))
  refine Br.f ff_ (Br.f ff_ (Br.f ff_ (Br.f ff_ ?_)))
  revert H; refine aN (fun t9765 A H => (cmk (fT.ac A) rfl rfl (Br.f ff_ (Br.f ff_ (cu 424 [(1, .bp 0 0), (42, (aF a0_1)), (43, .int .i64 (a0_1.length : Int)), (44, .int .i64 x44), (61, .bool (!t9765))] [(0, .box [(aM a0_0), (aF a0_1), (aD a0_2), (aE a0_3)])] rfl rfl rfl (dM H (fun c H => ?_) (fun c H => ?_)))))))
  exact ⟨(k, wrap64 (x44 + 1)), [], ⟨H, lt_⟩, lt_, (fq rfl rfl fi_ rfl)⟩
  refine cu 432 [(2, .bool false)] [] rfl rfl rfl ?_
  cases H
  exact rz rfl
  refine Br.t ft_ (Br.t ft_ (Br.t ft_ (Br.t ft_ (Br.t ft_ (Br.t ft_ (cu 424 [(1, .bp 0 0), (42, (aF a0_1)), (43, .int .i64 (a0_1.length : Int)), (44, .int .i64 x44), (61, .bool true)] [(0, .box [(aM a0_0), (aF a0_1), (aD a0_2), (aE a0_3)])] rfl rfl rfl (Br.t rfl (cu 432 [(2, .bool false)] [] rfl rfl rfl ?_))))))))
  cases H
  exact rz rfl
  refine aP.l1_lp (a0_0 := a0_0) (a0_1 := a0_1) (a0_2 := a0_2) (a0_3 := a0_3) (k := k) H [] (fq rfl rfl fi_ rfl) ?_
  intro k x66 hk H; rcases k with _ | k; exact bC H; rw [aP.l1] at H
  refine cu 320 [(1, .bp 0 0), (64, (aD a0_2)), (65, .int .i64 (a0_2.length : Int)), (66, .int .i64 x66), (67, .bool (decide (x66 < (a0_2.length : Int))))] [(0, .box [(aM a0_0), (aF a0_1), (aD a0_2), (aE a0_3)])] rfl rfl rfl (bM H (fun c H => ?_) (fun c H => ?_))
  refine nd_ H (fun c H => (Nd.mk nf_ (El.mk (bJ _ _ nf_ nf_) ?_)))
  revert H; refine aN (fun t9772 A H => (cmk (bU.ac A) rfl rfl (dM H (fun c H => ?_) (fun c H => ?_))))
  refine Br.f ff_ (Br.f ff_ (Br.f ff_ (bM H (fun c H => ?_) (fun c H => ?_))))
  refine Br.t ft_ (Br.t ft_ (Br.t ft_ (Br.t rfl (Br.t rfl (Br.t rfl (Br.t rfl (Br.t rfl (Br.t rfl (Br.t rfl (Br.t rfl (Br.t rfl (Br.t rfl (cu 656 [(1, .bp 0 0), (64, (aD a0_2)), (65, .int .i64 (a0_2.length : Int)), (66, .int .i64 x66), (106, .bool true)] [(0, .box [(aM a0_0), (aF a0_1), (aD a0_2), (aE a0_3)])] rfl rfl rfl (Br.t rfl (cu 664 [(2, .bool false)] [] rfl rfl rfl ?_)))))))))))))))
  cases H
  exact rz rfl
  refine Br.f ff_ (Br.f ff_ (Br.f ff_ (bM H (fun c H => ?_) (fun c H => ?_))))
  refine Br.t ft_ (Br.t ft_ (Br.t ft_ (Br.t ft_ (Br.t rfl (Br.t rfl (Br.t rfl (Br.t rfl (Br.t rfl (cu 656 [(1, .bp 0 0), (64, (aD a0_2)), (65, .int .i64 (a0_2.length : Int)), (66, .int .i64 x66), (106, .bool true)] [(0, .box [(aM a0_0), (aF a0_1), (aD a0_2), (aE a0_3)])] rfl rfl rfl (Br.t rfl (cu 664 [(2, .bool false)] [] rfl rfl rfl ?_)))))))))))
  cases H
  exact rz rfl
  refine Br.f ff_ (Br.f ff_ ?_)
  revert H; refine aN (fun t9773 A H => (cmk (bU.ac A) rfl rfl (Br.f ff_ (Br.f ff_ (dM H (fun c H => ?_) (fun c H => ?_))))))
  refine Br.f ff_ (Br.f ff_ (bM H (fun c H => ?_) (fun c H => ?_)))
  refine Br.t ft_ (Br.t ft_ (Br.t ft_ (Br.t ft_ (nd_ H (fun c H => (nd_ H (fun c H => (El.mk (bJ _ _ nf_ nf_) (Br.t ft_ (Br.t ft_ (Br.t ft_ (Br.t ft_ (Br.t ft_ (Br.f ff_ (Br.t ft_ (Br.f ff_ (cu 656 [(1, .bp 0 0), (64, (aD a0_2)), (65, .int .i64 (a0_2.length : Int)), (66, .int .i64 x66), (106, .bool (!(Op.bytesLess ((aK a0_2 (wrap64 (x66 - 1))).f0).toList ((aK a0_2 x66).f0).toList)))] [(0, .box [(aM a0_0), (aF a0_1), (aD a0_2), (aE a0_3)])] rfl rfl rfl (dM H (fun c H => ?_) (fun c H => ?_)))))))))))))))))))
  exact ⟨(k, wrap64 (x66 + 1)), [], ⟨H, lt_⟩, lt_, (fq rfl rfl fi_ rfl)⟩
  refine cu 664 [(2, .bool false)] [] rfl rfl rfl ?_
  cases H
  exact rz rfl
  refine Br.f ff_ (Br.f ff_ (Br.f ff_ (Br.f ff_ (Br.f ff_ (Br.f ff_ (Br.f ff_ (Br.f ff_ (Br.f ff_ (Br.f ff_ (Br.f ff_ (Br.f ff_ (cu 656 [(1, .bp 0 0), (64, (aD a0_2)), (65, .int .i64 (a0_2.length : Int)), (66, .int .i64 x66), (106, .bool false)] [(0, .box [(aM a0_0), (aF a0_1), (aD a0_2), (aE a0_3)])] rfl rfl rfl (Br.f rfl (⟨(k, wrap64 (x66 + 1)), [], ⟨H, lt_⟩, lt_, (fq rfl rfl fi_ rfl)⟩))))))))))))))
  refine Br.t ft_ (Br.t ft_ (Br.t ft_ (Br.t ft_ (cu 656 [(1, .bp 0 0), (64, (aD a0_2)), (65, .int .i64 (a0_2.length : Int)), (66, .int .i64 x66), (106, .bool true)] [(0, .box [(aM a0_0), (aF a0_1), (aD a0_2), (aE a0_3)])] rfl rfl rfl (Br.t rfl (cu 664 [(2, .bool false)] [] rfl rfl rfl ?_))))))
  cases H
  exact rz rfl
  refine Br.t ft_ (Br.t ft_ (Br.t ft_ (Br.t rfl (Br.t rfl (Br.t rfl (Br.t rfl (Br.t rfl (Br.t rfl (Br.t rfl (Br.t rfl (Br.t rfl (Br.t rfl (Br.t rfl (Br.t rfl (Br.t rfl (Br.t rfl (cu 656 [(1, .bp 0 0), (64, (aD a0_2)), (65, .int .i64 (a0_2.length : Int)), (66, .int .i64 x66), (106, .bool true)] [(0, .box [(aM a0_0), (aF a0_1), (aD a0_2), (aE a0_3)])] rfl rfl rfl (Br.t rfl (cu 664 [(2, .bool false)] [] rfl rfl rfl ?_)))))))))))))))))))
  cases H
  exact rz rfl
  refine aP.l2_lp (a0_0 := a0_0) (a0_1 := a0_1) (a0_2 := a0_2) (a0_3 := a0_3) (k := k) H [] (fq rfl rfl fi_ rfl) ?_
  intro k x111 hk H; rcases k with _ | k; exact bC H; rw [aP.l2] at H
  refine bM H (fun c H => ?_) (fun c H => ?_)
  refine nd_ H (fun c H => (Nd.mk nf_ (El.mk (bQ _ _ nf_ nf_) (cu 408 [(1, .bp 0 0), (7, .int .i64 x111), (8, .bp 384 0), (109, (aE a0_3)), (110, .int .i64 (a0_3.length : Int)), (111, .int .i64 x111)] [(0, .box [(aM a0_0), (aF a0_1), (aD a0_2), (aE a0_3)]), (384, .box [.str ((aI a0_3 x111).f0), .str ((aI a0_3 x111).f1), .str ((aI a0_3 x111).f2), .str ((aI a0_3 x111).f3)])] rfl rfl rfl ?_))))
  revert H; refine aN (fun t9790 A H => (cmk (bK.ac A) rfl rfl ?_))
  revert H; refine aN (fun t9791 A H => (cmk (bK.ac A) rfl rfl (cu 568 [(1, .bp 0 0), (7, .int .i64 x111), (8, .bp 384 0), (10, .bool t9790.2.2.2), (12, .bool t9791.2.2.2), (109, (aE a0_3)), (110, .int .i64 (a0_3.length : Int)), (111, .int .i64 x111)] [(0, .box [(aM a0_0), (aF a0_1), (aD a0_2), (aE a0_3)]), (384, .box [.str ((aI a0_3 x111).f0), .str ((aI a0_3 x111).f1), .str ((aI a0_3 x111).f2), .str ((aI a0_3 x111).f3)])] rfl rfl rfl (aP.j0_sq (a0_0 := a0_0) (a0_1 := a0_1) (a0_2 := a0_2) (a0_3 := a0_3) (x111 := x111) (KK := k + 1) (r := r) ?_ ?_))))
  revert H; refine aN (fun t9794 A H => (cmk (bU.ac A) rfl rfl (dM H (fun c H => ?_) (fun c H => ?_))))
  refine Br.f ff_ (Br.f ff_ (dM H (fun c H => ?_) (fun c H => ?_)))
  refine Br.f ff_ (Br.f ff_ (dM H (fun c H => ?_) (fun c H => ?_)))
  refine Br.f ff_ (Br.f ff_ (Br.f ff_ (Br.f ff_ (Br.f ff_ (dM H (fun c H => ?_) (fun c H => ?_))))))
  refine Br.f ff_ (Br.f ff_ ?_)
  revert H; refine aN (fun t9795 A H => (cmk (bU.ac A) rfl rfl (Br.f ff_ (Br.f ff_ (dM H (fun c H => ?_) (fun c H => ?_))))))
  refine Br.f ff_ (Br.f ff_ (bM H (fun c H => ?_) (fun c H => ?_)))
  refine Br.t ft_ (Br.t ft_ (Br.t ft_ (Br.t ft_ (nd_ H (fun c H => (nd_ H (fun c H => (El.mk (bQ _ _ nf_ nf_) (Br.t ft_ (Br.t ft_ (Br.t ft_ (Br.t ft_ (Br.t ft_ (Br.f ff_ (Br.t ft_ (Br.f ff_ (⟨(k, !(Op.bytesLess ((aI a0_3 (wrap64 (x111 - 1))).f0).toList ((aI a0_3 x111).f0).toList)), [], ⟨H, lt_⟩, (fq rfl rfl fi_ rfl)⟩)))))))))))))))))
  refine Br.f ff_ (Br.f ff_ (Br.f ff_ (Br.f ff_ (Br.f ff_ (Br.f ff_ (Br.f ff_ (Br.f ff_ (Br.f ff_ (Br.f ff_ (Br.f ff_ (Br.f ff_ (⟨(k, false), [], ⟨H, lt_⟩, (fq rfl rfl fi_ rfl)⟩))))))))))))
  refine Br.t ft_ (Br.t ft_ (Br.t ft_ (Br.t ft_ (⟨(k, true), [], ⟨H, lt_⟩, (fq rfl rfl fi_ rfl)⟩))))
  refine Br.t ft_ (Br.t ft_ (Br.t ft_ (Br.t ft_ (Br.t rfl (Br.t rfl (Br.t rfl (Br.t rfl (Br.t rfl (⟨(k, true), [], ⟨H, lt_⟩, (fq rfl rfl fi_ rfl)⟩)))))))))
  refine Br.t ft_ (Br.t ft_ (Br.t ft_ (Br.t ft_ (Br.t ft_ (Br.t rfl (Br.t rfl (Br.t rfl (Br.t rfl (Br.t rfl (Br.t rfl (Br.t rfl (Br.t rfl (Br.t rfl (Br.t rfl (⟨(k, true), [], ⟨H, lt_⟩, (fq rfl rfl fi_ rfl)⟩)))))))))))))))
  refine Br.t ft_ (Br.t ft_ (Br.t rfl (Br.t rfl (Br.t rfl (Br.t rfl (Br.t rfl (Br.t rfl (Br.t rfl (Br.t rfl (Br.t rfl (Br.t rfl (Br.t rfl (Br.t rfl (Br.t rfl (Br.t rfl (Br.t rfl (Br.t rfl (⟨(k, true), [], ⟨H, lt_⟩, (fq rfl rfl fi_ rfl)⟩))))))))))))))))))
  refine Br.t ft_ (Br.t ft_ (Br.t rfl (Br.t rfl (Br.t rfl (Br.t rfl (Br.t rfl (Br.t rfl (Br.t rfl (Br.t rfl (Br.t rfl (Br.t rfl (Br.t rfl (Br.t rfl (Br.t rfl (Br.t rfl (Br.t rfl (Br.t rfl (Br.t rfl (Br.t rfl (Br.t rfl (⟨(k, true), [], ⟨H, lt_⟩, (fq rfl rfl fi_ rfl)⟩)))))))))))))))))))))
  intro k x170 hk H; rcases k with _ | k; exact bC H; rw [aP.j0] at H
  refine jF H (fun c H => ?_) (fun c H => ?_)
  refine cu 576 [(2, .bool false)] [] rfl rfl rfl ?_
  cases H
  exact rz rfl
  exact ⟨(k, wrap64 (x111 + 1)), [], ⟨H, lt_⟩, lt_, (fq rfl rfl fi_ rfl)⟩
  cases H
  exact rz rfl
  refine Br.t ft_ (Br.t ft_ (Br.t ft_ (Br.t ft_ (Br.t rfl (Br.t rfl (Br.t rfl (Br.t rfl (Br.t rfl (cu 240 [(1, .bp 0 0), (40, .bool true)] [(0, .box [(aM a0_0), (aF a0_1), (aD a0_2), (aE a0_3)])] rfl rfl rfl (Br.t rfl (cu 248 [(2, .bool false)] [] rfl rfl rfl ?_)))))))))))
  cases H
  exact rz rfl
  refine Br.t ft_ (Br.t ft_ (Br.t ft_ (Br.t ft_ (Br.t rfl (Br.t rfl (Br.t rfl (Br.t rfl (Br.t rfl (Br.t rfl (Br.t rfl (Br.t rfl (Br.t rfl (Br.t rfl (cu 240 [(1, .bp 0 0), (40, .bool true)] [(0, .box [(aM a0_0), (aF a0_1), (aD a0_2), (aE a0_3)])] rfl rfl rfl (Br.t rfl (cu 248 [(2, .bool false)] [] rfl rfl rfl ?_))))))))))))))))
  cases H
  exact rz rfl
end Go.Proofs.YtnobkcplpbkigaaGreatDoor.VP
namespace Go.Proofs
open Go.Shelf Go.Sort Go.RowKit in
shelf_lay LaysM.n171 Nm 171 at Tryz as Tryz.gx171
end Go.Proofs
namespace Go.Proofs.YtnobkcplpbkigaaGreatDoor.VP
open Go Go.Aw Go.RowKit Go.Proofs
set_option maxRecDepth 100000
set_option maxHeartbeats 40000000
variable {G : Nat → Option Obj}
attribute [local irreducible] jK Lp Sq Cut kR kJ cJ
/-- what the package variables hold -/
class GvOk (G : Nat → Option Obj) : Prop where
  i : aFJ G 1
  t : aKJ G 0 (Lib.pow10Tab.map fun z => Value.int .u64 z).toArray
theorem strconv_Itoa.ac [GvOk G] {x0 : Int} {r : ByteArray} (H : strconv_Itoa.f x0 = some r) : cI Tryz.prog G 19 [] [.int .i64 x0] [] (.str r) := by
  exact aFL Tryz.gx171 ⟨_, Tryz.func19, by kernel_rfl, by kernel_rfl⟩ GvOk.t rfl (by kernel_rfl) H
theorem aR.l3_lp {F : (Exit → St → Prop) → St → Prop} {hv : List Tmp} {Q : Exit → St → Prop} {σ : St} {r : ByteArray} {k : Nat} {a0_3 : List aA} {x3_3 : ByteArray} {x85 : Int} (H : aR.l3 k a0_3 x3_3 x85 = some r) (rn : List (Option Nat)) (h1 : cJ σ σ [0] [(3, .str x3_3), (85, .int .i64 x85)] [] [] rn)
    (h2 : ∀ (k0 : Nat) (x3_3 : ByteArray) (x85 : Int), k0 < k + 1 → aR.l3 k0 a0_3 x3_3 x85 = some r → dE σ hv [0] [(3, .str x3_3), (85, .int .i64 x85)] [] [] (F (fun e σ' => match e with | .normal => ∃ (y : Nat × ByteArray × Int) (rn : List (Option Nat)), (aR.l3 y.1 a0_3 y.2.1 y.2.2 = some r ∧ y.1 < k + 1) ∧ y.1 < k0 ∧ cJ σ σ' [0] [(3, .str y.2.1), (85, .int .i64 y.2.2)] [] [] rn | e => Q e σ'))) : Lp F hv Q σ := by
  unfold Lp
  refine ⟨Nat × ByteArray × Int, fun x => aR.l3 x.1 a0_3 x.2.1 x.2.2 = some r ∧ x.1 < k + 1, fun x => x.1, [0], fun x => [(3, .str x.2.1), (85, .int .i64 x.2.2)], fun x => [], fun x => [], ⟨(k, x3_3, x85), rn, ⟨H, Nat.lt_succ_self _⟩, h1⟩, ?_⟩
  rintro ⟨k, x3_3, x85⟩ ⟨H, hk⟩
  exact h2 k x3_3 x85 hk H
theorem aR.l2_lp {F : (Exit → St → Prop) → St → Prop} {hv : List Tmp} {Q : Exit → St → Prop} {σ : St} {r : ByteArray} {k : Nat} {a0_2 : List aB} {a0_3 : List aA} {x3_2 : ByteArray} {x49 : Int} (H : aR.l2 k a0_2 a0_3 x3_2 x49 = some r) (rn : List (Option Nat)) (h1 : cJ σ σ [] [(3, .str x3_2), (49, .int .i64 x49)] [] [] rn)
    (h2 : ∀ (k0 : Nat) (x3_2 : ByteArray) (x49 : Int), k0 < k + 1 → aR.l2 k0 a0_2 a0_3 x3_2 x49 = some r → dE σ hv [] [(3, .str x3_2), (49, .int .i64 x49)] [] [] (F (fun e σ' => match e with | .normal => ∃ (y : Nat × ByteArray × Int) (rn : List (Option Nat)), (aR.l2 y.1 a0_2 a0_3 y.2.1 y.2.2 = some r ∧ y.1 < k + 1) ∧ y.1 < k0 ∧ cJ σ σ' [] [(3, .str y.2.1), (49, .int .i64 y.2.2)] [] [] rn | e => Q e σ'))) : Lp F hv Q σ := by
  unfold Lp
  refine ⟨Nat × ByteArray × Int, fun x => aR.l2 x.1 a0_2 a0_3 x.2.1 x.2.2 = some r ∧ x.1 < k + 1, fun x => x.1, [], fun x => [(3, .str x.2.1), (49, .int .i64 x.2.2)], fun x => [], fun x => [], ⟨(k, x3_2, x49), rn, ⟨H, Nat.lt_succ_self _⟩, h1⟩, ?_⟩
  rintro ⟨k, x3_2, x49⟩ ⟨H, hk⟩
  exact h2 k x3_2 x49 hk H
theorem aR.l1_lp {F : (Exit → St → Prop) → St → Prop} {hv : List Tmp} {Q : Exit → St → Prop} {σ : St} {r : ByteArray} {k : Nat} {a0_1 : List aC} {a0_2 : List aB} {a0_3 : List aA} {x3_1 : ByteArray} {x31 : Int} (H : aR.l1 k a0_1 a0_2 a0_3 x3_1 x31 = some r) (rn : List (Option Nat)) (h1 : cJ σ σ [] [(3, .str x3_1), (31, .int .i64 x31)] [] [] rn)
    (h2 : ∀ (k0 : Nat) (x3_1 : ByteArray) (x31 : Int), k0 < k + 1 → aR.l1 k0 a0_1 a0_2 a0_3 x3_1 x31 = some r → dE σ hv [] [(3, .str x3_1), (31, .int .i64 x31)] [] [] (F (fun e σ' => match e with | .normal => ∃ (y : Nat × ByteArray × Int) (rn : List (Option Nat)), (aR.l1 y.1 a0_1 a0_2 a0_3 y.2.1 y.2.2 = some r ∧ y.1 < k + 1) ∧ y.1 < k0 ∧ cJ σ σ' [] [(3, .str y.2.1), (31, .int .i64 y.2.2)] [] [] rn | e => Q e σ'))) : Lp F hv Q σ := by
  unfold Lp
  refine ⟨Nat × ByteArray × Int, fun x => aR.l1 x.1 a0_1 a0_2 a0_3 x.2.1 x.2.2 = some r ∧ x.1 < k + 1, fun x => x.1, [], fun x => [(3, .str x.2.1), (31, .int .i64 x.2.2)], fun x => [], fun x => [], ⟨(k, x3_1, x31), rn, ⟨H, Nat.lt_succ_self _⟩, h1⟩, ?_⟩
  rintro ⟨k, x3_1, x31⟩ ⟨H, hk⟩
  exact h2 k x3_1 x31 hk H
theorem aR.l0_lp {F : (Exit → St → Prop) → St → Prop} {hv : List Tmp} {Q : Exit → St → Prop} {σ : St} {r : ByteArray} {k : Nat} {a0_0 : List ByteArray} {a0_1 : List aC} {a0_2 : List aB} {a0_3 : List aA} {x3 : ByteArray} {x18 : Int} (H : aR.l0 k a0_0 a0_1 a0_2 a0_3 x3 x18 = some r) (rn : List (Option Nat)) (h1 : cJ σ σ [] [(3, .str x3), (18, .int .i64 x18)] [] [] rn)
    (h2 : ∀ (k0 : Nat) (x3 : ByteArray) (x18 : Int), k0 < k + 1 → aR.l0 k0 a0_0 a0_1 a0_2 a0_3 x3 x18 = some r → dE σ hv [] [(3, .str x3), (18, .int .i64 x18)] [] [] (F (fun e σ' => match e with | .normal => ∃ (y : Nat × ByteArray × Int) (rn : List (Option Nat)), (aR.l0 y.1 a0_0 a0_1 a0_2 a0_3 y.2.1 y.2.2 = some r ∧ y.1 < k + 1) ∧ y.1 < k0 ∧ cJ σ σ' [] [(3, .str y.2.1), (18, .int .i64 y.2.2)] [] [] rn | e => Q e σ'))) : Lp F hv Q σ := by
  unfold Lp
  refine ⟨Nat × ByteArray × Int, fun x => aR.l0 x.1 a0_0 a0_1 a0_2 a0_3 x.2.1 x.2.2 = some r ∧ x.1 < k + 1, fun x => x.1, [], fun x => [(3, .str x.2.1), (18, .int .i64 x.2.2)], fun x => [], fun x => [], ⟨(k, x3, x18), rn, ⟨H, Nat.lt_succ_self _⟩, h1⟩, ?_⟩
  rintro ⟨k, x3, x18⟩ ⟨H, hk⟩
  exact h2 k x3 x18 hk H
theorem aR.ac [GvOk G] {k : Nat} {a0_0 : List ByteArray} {a0_1 : List aC} {a0_2 : List aB} {a0_3 : List aA} {r : ByteArray} (H : aR.f k a0_0 a0_1 a0_2 a0_3 = some r) : cI Tryz.prog G 6 [] [.agg [(aM a0_0), (aF a0_1), (aD a0_2), (aE a0_3)]] [] (.str r) := by
  refine bO tok hP Tryz.func6 rfl (by kernel_rfl) [.tmp 2] rfl (by kernel_rfl) (Nat.le_of_ble_eq_true rfl) (.l .n (.l .n (.l .n (.l (.c .n (.l .n (.l .n (.c .n .n)))) (.l (.l .n (.l .n (.l .n (.c .n .n)))) (.l (.c .n (.l .n (.l .n (.c .n .n)))) (.l (.l .n (.l .n (.l .n (.c .n .n)))) .n))))))) rfl ?_
  unfold aR.f at H
  revert H; refine aN (fun t9004 A H => (cmk (aP.ac A) rfl rfl (dM H (fun c H => ?_) (fun c H => ?_))))
  refine cu 80 [(1, .bp 0 0), (3, .str (⟨#[]⟩ : ByteArray)), (16, (aM a0_0)), (17, .int .i64 (a0_0.length : Int)), (18, .int .i64 0)] [(0, .box [(aM a0_0), (aF a0_1), (aD a0_2), (aE a0_3)])] rfl rfl rfl (aR.l0_lp (a0_0 := a0_0) (a0_1 := a0_1) (a0_2 := a0_2) (a0_3 := a0_3) (k := k) H [] (fq rfl rfl fi_ rfl) ?_)
  intro k x3 x18 hk H; rcases k with _ | k; exact bC H; rw [aR.l0] at H
  refine bM H (fun c H => ?_) (fun c H => ?_)
  refine nd_ H (fun c H => (Nd.mk nf_ (El.mk (aX _ _ nf_ nf_) (nd_ H (fun c H => (nd_ H (fun c H => (nd_ H (fun c H => (cu 160 [(1, .bp 0 0), (3, .str (x3 ++ (((⟨#[115, 116, 117, 102, 102, 32]⟩ : ByteArray) ++ (aV ByteArray.empty a0_0 x18)) ++ (⟨#[10]⟩ : ByteArray)))), (16, (aM a0_0)), (17, .int .i64 (a0_0.length : Int)), (18, .int .i64 x18)] [(0, .box [(aM a0_0), (aF a0_1), (aD a0_2), (aE a0_3)])] rfl rfl rfl (⟨(k, x3 ++ (((⟨#[115, 116, 117, 102, 102, 32]⟩ : ByteArray) ++ (aV ByteArray.empty a0_0 x18)) ++ (⟨#[10]⟩ : ByteArray)), wrap64 (x18 + 1)), [], ⟨H, lt_⟩, lt_, (fq rfl rfl fi_ rfl)⟩)))))))))))
  refine aR.l1_lp (a0_1 := a0_1) (a0_2 := a0_2) (a0_3 := a0_3) (k := k) H [] (fq rfl rfl fi_ rfl) ?_
  intro k x3_1 x31 hk H; rcases k with _ | k; exact bC H; rw [aR.l1] at H
  refine bM H (fun c H => ?_) (fun c H => ?_)
  refine nd_ H (fun c H => (Nd.mk nf_ (El.mk (bP _ _ nf_ nf_) (nd_ H (fun c H => (nd_ H (fun c H => (nd_ H (fun c H => (nd_ H (fun c H => (nd_ H (fun c H => (cu 248 [(1, .bp 0 0), (3, .str (x3_1 ++ (((((⟨#[102, 111, 101, 32]⟩ : ByteArray) ++ ((aO a0_1 x31).f0)) ++ (⟨#[32]⟩ : ByteArray)) ++ ((aO a0_1 x31).f1)) ++ (⟨#[10]⟩ : ByteArray)))), (29, (aF a0_1)), (30, .int .i64 (a0_1.length : Int)), (31, .int .i64 x31)] [(0, .box [(aM a0_0), (aF a0_1), (aD a0_2), (aE a0_3)])] rfl rfl rfl (⟨(k, x3_1 ++ (((((⟨#[102, 111, 101, 32]⟩ : ByteArray) ++ ((aO a0_1 x31).f0)) ++ (⟨#[32]⟩ : ByteArray)) ++ ((aO a0_1 x31).f1)) ++ (⟨#[10]⟩ : ByteArray)), wrap64 (x31 + 1)), [], ⟨H, lt_⟩, lt_, (fq rfl rfl fi_ rfl)⟩)))))))))))))))
  refine cu 160 [(1, .bp 0 0), (3, .str x3_1), (47, (aD a0_2)), (48, .int .i64 (a0_2.length : Int)), (49, .int .i64 0)] [(0, .box [(aM a0_0), (aF a0_1), (aD a0_2), (aE a0_3)])] rfl rfl rfl (aR.l2_lp (a0_2 := a0_2) (a0_3 := a0_3) (k := k) H [] (fq rfl rfl fi_ rfl) ?_)
  intro k x3_2 x49 hk H; rcases k with _ | k; exact bC H; rw [aR.l2] at H
  refine bM H (fun c H => ?_) (fun c H => ?_)
  refine nd_ H (fun c H => (Nd.mk nf_ (El.mk (bJ _ _ nf_ nf_) (bM H (fun c H => ?_) (fun c H => ?_)))))
  refine nd_ H (fun c H => (nd_ H (fun c H => ?_)))
  revert H; refine aN (fun t9007 A H => (cmk (strconv_Itoa.ac A) rfl rfl (nd_ H (fun c H => (nd_ H (fun c H => (nd_ H (fun c H => (nd_ H (fun c H => (nd_ H (fun c H => (cu 352 [(1, .bp 0 0), (3, .str (x3_2 ++ (((((((⟨#[118, 101, 115, 115, 101, 108, 32]⟩ : ByteArray) ++ ((aK a0_2 x49).f0)) ++ (⟨#[32]⟩ : ByteArray)) ++ t9007) ++ (⟨#[32]⟩ : ByteArray)) ++ ((aK a0_2 x49).f2)) ++ (⟨#[10]⟩ : ByteArray)))), (47, (aD a0_2)), (48, .int .i64 (a0_2.length : Int)), (49, .int .i64 x49)] [(0, .box [(aM a0_0), (aF a0_1), (aD a0_2), (aE a0_3)])] rfl rfl rfl (⟨(k, x3_2 ++ (((((((⟨#[118, 101, 115, 115, 101, 108, 32]⟩ : ByteArray) ++ ((aK a0_2 x49).f0)) ++ (⟨#[32]⟩ : ByteArray)) ++ t9007) ++ (⟨#[32]⟩ : ByteArray)) ++ ((aK a0_2 x49).f2)) ++ (⟨#[10]⟩ : ByteArray)), wrap64 (x49 + 1)), [], ⟨H, lt_⟩, lt_, (fq rfl rfl fi_ rfl)⟩))))))))))))))
  refine nd_ H (fun c H => (nd_ H (fun c H => (nd_ H (fun c H => (nd_ H (fun c H => (nd_ H (fun c H => (cu 312 [(1, .bp 0 0), (3, .str (x3_2 ++ (((((⟨#[106, 111, 105, 110, 116, 32]⟩ : ByteArray) ++ ((aK a0_2 x49).f0)) ++ (⟨#[32]⟩ : ByteArray)) ++ ((aK a0_2 x49).f2)) ++ (⟨#[10]⟩ : ByteArray)))), (47, (aD a0_2)), (48, .int .i64 (a0_2.length : Int)), (49, .int .i64 x49)] [(0, .box [(aM a0_0), (aF a0_1), (aD a0_2), (aE a0_3)])] rfl rfl rfl (⟨(k, x3_2 ++ (((((⟨#[106, 111, 105, 110, 116, 32]⟩ : ByteArray) ++ ((aK a0_2 x49).f0)) ++ (⟨#[32]⟩ : ByteArray)) ++ ((aK a0_2 x49).f2)) ++ (⟨#[10]⟩ : ByteArray)), wrap64 (x49 + 1)), [], ⟨H, lt_⟩, lt_, (fq rfl rfl fi_ rfl)⟩)))))))))))
  refine aR.l3_lp (a0_3 := a0_3) (k := k) H [] (fq rfl rfl fi_ rfl) ?_
  intro k x3_3 x85 hk H; rcases k with _ | k; exact bC H; rw [aR.l3] at H
  refine bM H (fun c H => ?_) (fun c H => ?_)
  refine nd_ H (fun c H => (Nd.mk nf_ (El.mk (bQ _ _ nf_ nf_) (nd_ H (fun c H => (nd_ H (fun c H => (nd_ H (fun c H => (nd_ H (fun c H => (nd_ H (fun c H => (nd_ H (fun c H => (nd_ H (fun c H => (nd_ H (fun c H => (nd_ H (fun c H => (cu 392 [(3, .str (x3_3 ++ (((((((((⟨#[118, 97, 108, 118, 101, 32]⟩ : ByteArray) ++ ((aI a0_3 x85).f0)) ++ (⟨#[32]⟩ : ByteArray)) ++ ((aI a0_3 x85).f1)) ++ (⟨#[32]⟩ : ByteArray)) ++ ((aI a0_3 x85).f2)) ++ (⟨#[32]⟩ : ByteArray)) ++ ((aI a0_3 x85).f3)) ++ (⟨#[10]⟩ : ByteArray)))), (83, (aE a0_3)), (84, .int .i64 (a0_3.length : Int)), (85, .int .i64 x85)] [] rfl rfl rfl (⟨(k, x3_3 ++ (((((((((⟨#[118, 97, 108, 118, 101, 32]⟩ : ByteArray) ++ ((aI a0_3 x85).f0)) ++ (⟨#[32]⟩ : ByteArray)) ++ ((aI a0_3 x85).f1)) ++ (⟨#[32]⟩ : ByteArray)) ++ ((aI a0_3 x85).f2)) ++ (⟨#[32]⟩ : ByteArray)) ++ ((aI a0_3 x85).f3)) ++ (⟨#[10]⟩ : ByteArray)), wrap64 (x85 + 1)), [], ⟨H, lt_⟩, lt_, (fq rfl rfl fi_ rfl)⟩)))))))))))))))))))))))
  cases H
  exact rz rfl
  cases H
  exact rz rfl
theorem bG.l1_lp {F : (Exit → St → Prop) → St → Prop} {hv : List Tmp} {Q : Exit → St → Prop} {σ : St} {r : Bool} {k : Nat} {a0_0 : List ByteArray} {a0_1 : List aC} {x4 : Int} (H : bG.l1 k a0_0 a0_1 x4 = some r) (rn : List (Option Nat)) (h1 : cJ σ σ [] [(4, .int .i64 x4)] [] [] rn)
    (h2 : ∀ (k0 : Nat) (x4 : Int), k0 < k + 1 → bG.l1 k0 a0_0 a0_1 x4 = some r → dE σ hv [] [(4, .int .i64 x4)] [] [] (F (fun e σ' => match e with | .normal => ∃ (y : Nat × Int) (rn : List (Option Nat)), (bG.l1 y.1 a0_0 a0_1 y.2 = some r ∧ y.1 < k + 1) ∧ y.1 < k0 ∧ cJ σ σ' [] [(4, .int .i64 y.2)] [] [] rn | e => Q e σ'))) : Lp F hv Q σ := by
  unfold Lp
  refine ⟨Nat × Int, fun x => bG.l1 x.1 a0_0 a0_1 x.2 = some r ∧ x.1 < k + 1, fun x => x.1, [], fun x => [(4, .int .i64 x.2)], fun x => [], fun x => [], ⟨(k, x4), rn, ⟨H, Nat.lt_succ_self _⟩, h1⟩, ?_⟩
  rintro ⟨k, x4⟩ ⟨H, hk⟩
  exact h2 k x4 hk H
theorem bG.l0_lp {F : (Exit → St → Prop) → St → Prop} {hv : List Tmp} {Q : Exit → St → Prop} {σ : St} {r : Bool} {k : Nat} {a0_0 : List ByteArray} {a0_1 : List aC} {x3 : Int} (H : bG.l0 k a0_0 a0_1 x3 = some r) (rn : List (Option Nat)) (h1 : cJ σ σ [] [(3, .int .i64 x3)] [] [] rn)
    (h2 : ∀ (k0 : Nat) (x3 : Int), k0 < k + 1 → bG.l0 k0 a0_0 a0_1 x3 = some r → dE σ hv [] [(3, .int .i64 x3)] [] [] (F (fun e σ' => match e with | .normal => ∃ (y : Nat × Int) (rn : List (Option Nat)), (bG.l0 y.1 a0_0 a0_1 y.2 = some r ∧ y.1 < k + 1) ∧ y.1 < k0 ∧ cJ σ σ' [] [(3, .int .i64 y.2)] [] [] rn | e => Q e σ'))) : Lp F hv Q σ := by
  unfold Lp
  refine ⟨Nat × Int, fun x => bG.l0 x.1 a0_0 a0_1 x.2 = some r ∧ x.1 < k + 1, fun x => x.1, [], fun x => [(3, .int .i64 x.2)], fun x => [], fun x => [], ⟨(k, x3), rn, ⟨H, Nat.lt_succ_self _⟩, h1⟩, ?_⟩
  rintro ⟨k, x3⟩ ⟨H, hk⟩
  exact h2 k x3 hk H
theorem bG.ac {k : Nat} {a0_0 : List ByteArray} {a0_1 : List aC} {a0_2 : List aB} {a0_3 : List aA} {r : Bool} (H : bG.f k a0_0 a0_1 a0_2 a0_3 = some r) : cI Tryz.prog G 27 [] [.agg [(aM a0_0), (aF a0_1), (aD a0_2), (aE a0_3)]] [] (.bool r) := by
  refine bO tok hP Tryz.func27 rfl (by kernel_rfl) [.tmp 2] rfl (by kernel_rfl) (Nat.le_of_ble_eq_true rfl) (.l .n (.l (.c .n (.l (.c .n .n) .n)) (.l (.l .n (.l .n (.l (.c .n (.l (.c .n .n) .n)) .n))) (.l (.l .n (.l (.c .n .n) (.l (.l .n (.c .n (.l (.c .n .n) .n))) .n))) .n)))) rfl ?_
  unfold bG.f at H
  refine bM H (fun c H => ?_) (fun c H => ?_)
  refine Br.t ft_ (Br.t ft_ (Br.t ft_ (Br.t ft_ (cu 96 [(1, .bp 0 0), (15, .bool true)] [(0, .box [(aM a0_0), (aF a0_1), (aD a0_2), (aE a0_3)])] rfl rfl rfl (Br.t rfl (cu 104 [(2, .bool false)] [] rfl rfl rfl ?_))))))
  cases H
  exact rz rfl
  refine Br.f ff_ (Br.f ff_ (Br.f ff_ (Br.f ff_ (cu 96 [(1, .bp 0 0), (15, .bool (decide ((a0_1.length : Int) > 12)))] [(0, .box [(aM a0_0), (aF a0_1), (aD a0_2), (aE a0_3)])] rfl rfl rfl (bM H (fun c H => ?_) (fun c H => ?_))))))
  refine cu 104 [(2, .bool false)] [] rfl rfl rfl ?_
  cases H
  exact rz rfl
  refine bG.l0_lp (a0_0 := a0_0) (a0_1 := a0_1) (k := k) H [] (fq rfl rfl fi_ rfl) ?_
  intro k x3 hk H; rcases k with _ | k; exact bC H; rw [bG.l0] at H
  refine bM H (fun c H => ?_) (fun c H => ?_)
  refine nd_ H (fun c H => (Nd.mk nf_ (El.mk (aX _ _ nf_ nf_) ?_)))
  revert H; refine aN (fun t9077 A H => (cmk (aY.ac A) rfl rfl (dM H (fun c H => ?_) (fun c H => ?_))))
  refine Br.f ff_ (Br.f ff_ (bM H (fun c H => ?_) (fun c H => ?_)))
  refine Br.t ft_ (Br.t ft_ (Br.t ft_ (Br.t ft_ (nd_ H (fun c H => (nd_ H (fun c H => (El.mk (aX _ _ nf_ nf_) (Br.t ft_ (Br.t ft_ (Br.t ft_ (Br.t ft_ (Br.t ft_ (Nd.mk nf_ (Nd.mk nf_ (El.mk (aX _ _ nf_ nf_) (Br.t ft_ (Br.t ft_ (Br.f ff_ (Br.t ft_ (Br.f ff_ (cu 344 [(1, .bp 0 0), (3, .int .i64 x3), (47, .bool (!(Op.bytesLess (aV ByteArray.empty a0_0 (wrap64 (x3 - 1))).toList (aV ByteArray.empty a0_0 x3).toList)))] [(0, .box [(aM a0_0), (aF a0_1), (aD a0_2), (aE a0_3)])] rfl rfl rfl (dM H (fun c H => ?_) (fun c H => ?_))))))))))))))))))))))))
  exact ⟨(k, wrap64 (x3 + 1)), [], ⟨H, lt_⟩, lt_, (fq rfl rfl fi_ rfl)⟩
  refine cu 352 [(2, .bool false)] [] rfl rfl rfl ?_
  cases H
  exact rz rfl
  refine Br.f ff_ (Br.f ff_ (Br.f ff_ (Br.f ff_ (Br.f ff_ (Br.f ff_ (Br.f ff_ (Br.f ff_ (Br.f ff_ (Br.f ff_ (Br.f ff_ (Br.f ff_ (Br.f ff_ (Br.f ff_ (cu 344 [(1, .bp 0 0), (3, .int .i64 x3), (47, .bool false)] [(0, .box [(aM a0_0), (aF a0_1), (aD a0_2), (aE a0_3)])] rfl rfl rfl (Br.f rfl (⟨(k, wrap64 (x3 + 1)), [], ⟨H, lt_⟩, lt_, (fq rfl rfl fi_ rfl)⟩))))))))))))))))
  refine Br.t ft_ (Br.t ft_ (Br.t ft_ (Br.t ft_ (cu 344 [(1, .bp 0 0), (3, .int .i64 x3), (47, .bool true)] [(0, .box [(aM a0_0), (aF a0_1), (aD a0_2), (aE a0_3)])] rfl rfl rfl (Br.t rfl (cu 352 [(2, .bool false)] [] rfl rfl rfl ?_))))))
  cases H
  exact rz rfl
  refine bG.l1_lp (a0_0 := a0_0) (a0_1 := a0_1) (k := k) H [] (fq rfl rfl fi_ rfl) ?_
  intro k x4 hk H; rcases k with _ | k; exact bC H; rw [bG.l1] at H
  refine cu 192 [(1, .bp 0 0), (4, .int .i64 x4), (52, .bool (decide (x4 < (a0_1.length : Int))))] [(0, .box [(aM a0_0), (aF a0_1), (aD a0_2), (aE a0_3)])] rfl rfl rfl (bM H (fun c H => ?_) (fun c H => ?_))
  refine nd_ H (fun c H => (Nd.mk nf_ (El.mk (bP _ _ nf_ nf_) (dM H (fun c H => ?_) (fun c H => ?_)))))
  refine Br.f ff_ (Br.f ff_ (Br.f ff_ (Br.f ff_ ?_)))
  revert H; refine aN (fun t9087 A H => (cmk (dH.ac A) rfl rfl (Br.f ff_ (Br.f ff_ (dM H (fun c H => ?_) (fun c H => ?_))))))
  refine Br.f ff_ (Br.f ff_ (Br.f ff_ (Br.f ff_ ?_)))
  revert H; refine aN (fun t9088 A H => (cmk (dH.ac A) rfl rfl (Br.f ff_ (Br.f ff_ (dM H (fun c H => ?_) (fun c H => ?_))))))
  refine Br.f ff_ (Br.f ff_ (bM H (fun c H => ?_) (fun c H => ?_)))
  refine Br.t ft_ (Br.t ft_ (Br.t ft_ (Br.t ft_ (nd_ H (fun c H => (nd_ H (fun c H => (El.mk (bP _ _ nf_ nf_) (Br.t ft_ (Br.t ft_ (Br.t ft_ ?_)))))))))))
  revert H; refine aN (fun t9089 A H => (cmk (eR.ac A) rfl rfl (Br.t ft_ (Br.f ff_ (Br.t ft_ (Br.f ff_ (cu 536 [(1, .bp 0 0), (4, .int .i64 x4), (95, .bool (!t9089))] [(0, .box [(aM a0_0), (aF a0_1), (aD a0_2), (aE a0_3)])] rfl rfl rfl (dM H (fun c H => ?_) (fun c H => ?_)))))))))
  exact ⟨(k, wrap64 (x4 + 1)), [], ⟨H, lt_⟩, lt_, (fq rfl rfl fi_ rfl)⟩
  refine cu 544 [(2, .bool false)] [] rfl rfl rfl ?_
  cases H
  exact rz rfl
  refine Br.f ff_ (Br.f ff_ (Br.f ff_ (Br.f ff_ (Br.f ff_ (Br.f ff_ (Br.f ff_ (Br.f ff_ (Br.f ff_ (Br.f ff_ (Br.f ff_ (cu 536 [(1, .bp 0 0), (4, .int .i64 x4), (95, .bool false)] [(0, .box [(aM a0_0), (aF a0_1), (aD a0_2), (aE a0_3)])] rfl rfl rfl (Br.f rfl (⟨(k, wrap64 (x4 + 1)), [], ⟨H, lt_⟩, lt_, (fq rfl rfl fi_ rfl)⟩)))))))))))))
  refine Br.t ft_ (Br.t ft_ (Br.t ft_ (Br.t ft_ (cu 536 [(1, .bp 0 0), (4, .int .i64 x4), (95, .bool true)] [(0, .box [(aM a0_0), (aF a0_1), (aD a0_2), (aE a0_3)])] rfl rfl rfl (Br.t rfl (cu 544 [(2, .bool false)] [] rfl rfl rfl ?_))))))
  cases H
  exact rz rfl
  refine Br.t ft_ (Br.t ft_ (Br.t ft_ (Br.t ft_ (Br.t ft_ (Br.t ft_ (Br.t rfl (Br.t rfl (Br.t rfl (Br.t rfl (Br.t rfl (cu 536 [(1, .bp 0 0), (4, .int .i64 x4), (95, .bool true)] [(0, .box [(aM a0_0), (aF a0_1), (aD a0_2), (aE a0_3)])] rfl rfl rfl (Br.t rfl (cu 544 [(2, .bool false)] [] rfl rfl rfl ?_)))))))))))))
  cases H
  exact rz rfl
  refine Br.t ft_ (Br.t ft_ (Br.t ft_ (Br.t ft_ (Br.t ft_ (Br.t ft_ (Br.t rfl (Br.t rfl (Br.t rfl (Br.t rfl (Br.t rfl (Br.t rfl (Br.t rfl (Br.t rfl (Br.t rfl (Br.t rfl (Br.t rfl (Br.t rfl (cu 536 [(1, .bp 0 0), (4, .int .i64 x4), (95, .bool true)] [(0, .box [(aM a0_0), (aF a0_1), (aD a0_2), (aE a0_3)])] rfl rfl rfl (Br.t rfl (cu 544 [(2, .bool false)] [] rfl rfl rfl ?_))))))))))))))))))))
  cases H
  exact rz rfl
  cases H
  exact rz rfl
theorem cS.l0_lp {F : (Exit → St → Prop) → St → Prop} {hv : List Tmp} {Q : Exit → St → Prop} {σ : St} {r : Bool} {k : Nat} {a0_2 : List aB} {x3 : Int} (H : cS.l0 k a0_2 x3 = some r) (rn : List (Option Nat)) (h1 : cJ σ σ [] [(3, .int .i64 x3)] [] [] rn)
    (h2 : ∀ (k0 : Nat) (x3 : Int), k0 < k + 1 → cS.l0 k0 a0_2 x3 = some r → dE σ hv [] [(3, .int .i64 x3)] [] [] (F (fun e σ' => match e with | .normal => ∃ (y : Nat × Int) (rn : List (Option Nat)), (cS.l0 y.1 a0_2 y.2 = some r ∧ y.1 < k + 1) ∧ y.1 < k0 ∧ cJ σ σ' [] [(3, .int .i64 y.2)] [] [] rn | e => Q e σ'))) : Lp F hv Q σ := by
  unfold Lp
  refine ⟨Nat × Int, fun x => cS.l0 x.1 a0_2 x.2 = some r ∧ x.1 < k + 1, fun x => x.1, [], fun x => [(3, .int .i64 x.2)], fun x => [], fun x => [], ⟨(k, x3), rn, ⟨H, Nat.lt_succ_self _⟩, h1⟩, ?_⟩
  rintro ⟨k, x3⟩ ⟨H, hk⟩
  exact h2 k x3 hk H
theorem cS.ac {k : Nat} {a0_0 : List ByteArray} {a0_1 : List aC} {a0_2 : List aB} {a0_3 : List aA} {r : Bool} (H : cS.f k a0_0 a0_1 a0_2 a0_3 = some r) : cI Tryz.prog G 28 [] [.agg [(aM a0_0), (aF a0_1), (aD a0_2), (aE a0_3)]] [] (.bool r) := by
  refine bO tok hP Tryz.func28 rfl (by kernel_rfl) [.tmp 2] rfl (by kernel_rfl) (Nat.le_of_ble_eq_true rfl) (.l .n (.l .n (.l (.l .n (.l (.c .n .n) (.l (.l .n (.c .n (.l (.c .n .n) .n))) .n))) .n))) rfl ?_
  unfold cS.f at H
  refine bM H (fun c H => ?_) (fun c H => ?_)
  cases H
  exact rz rfl
  refine cS.l0_lp (a0_2 := a0_2) (k := k) H [] (fq rfl rfl fi_ rfl) ?_
  intro k x3 hk H; rcases k with _ | k; exact bC H; rw [cS.l0] at H
  refine cu 96 [(1, .bp 0 0), (3, .int .i64 x3), (13, .bool (decide (x3 < (a0_2.length : Int))))] [(0, .box [(aM a0_0), (aF a0_1), (aD a0_2), (aE a0_3)])] rfl rfl rfl (bM H (fun c H => ?_) (fun c H => ?_))
  refine nd_ H (fun c H => (Nd.mk nf_ (El.mk (bJ _ _ nf_ nf_) ?_)))
  revert H; refine aN (fun t9128 A H => (cmk (aY.ac A) rfl rfl (dM H (fun c H => ?_) (fun c H => ?_))))
  refine Br.f ff_ (Br.f ff_ (bM H (fun c H => ?_) (fun c H => ?_)))
  refine Br.t ft_ (Br.t ft_ (Br.t ft_ (Br.t ft_ (nd_ H (fun c H => (nd_ H (fun c H => (El.mk (bJ _ _ nf_ nf_) (Br.t ft_ (Br.t ft_ (Br.t ft_ (Br.t ft_ (Br.t ft_ (Br.f ff_ (Br.t ft_ (Br.f ff_ (dM H (fun c H => ?_) (fun c H => ?_))))))))))))))))))
  refine Br.f ff_ (Br.f ff_ ?_)
  revert H; refine aN (fun t9129 A H => (cmk (fJ.ac A) rfl rfl (Br.f ff_ (Br.f ff_ (dM H (fun c H => ?_) (fun c H => ?_))))))
  refine Br.f ff_ (Br.f ff_ ?_)
  revert H; refine aN (fun t9130 A H => (cmk (aY.ac A) rfl rfl (Br.f ff_ (Br.f ff_ (cu 408 [(1, .bp 0 0), (3, .int .i64 x3), (52, .bool (!t9130))] [(0, .box [(aM a0_0), (aF a0_1), (aD a0_2), (aE a0_3)])] rfl rfl rfl (dM H (fun c H => ?_) (fun c H => ?_)))))))
  exact ⟨(k, wrap64 (x3 + 1)), [], ⟨H, lt_⟩, lt_, (fq rfl rfl fi_ rfl)⟩
  refine cu 416 [(2, .bool false)] [] rfl rfl rfl ?_
  cases H
  exact rz rfl
  refine Br.t ft_ (Br.t ft_ (Br.t ft_ (Br.t ft_ (cu 408 [(1, .bp 0 0), (3, .int .i64 x3), (52, .bool true)] [(0, .box [(aM a0_0), (aF a0_1), (aD a0_2), (aE a0_3)])] rfl rfl rfl (Br.t rfl (cu 416 [(2, .bool false)] [] rfl rfl rfl ?_))))))
  cases H
  exact rz rfl
  refine Br.t ft_ (Br.t ft_ (Br.t ft_ (Br.t ft_ (Br.t rfl (Br.t rfl (Br.t rfl (Br.t rfl (Br.t rfl (cu 408 [(1, .bp 0 0), (3, .int .i64 x3), (52, .bool true)] [(0, .box [(aM a0_0), (aF a0_1), (aD a0_2), (aE a0_3)])] rfl rfl rfl (Br.t rfl (cu 416 [(2, .bool false)] [] rfl rfl rfl ?_)))))))))))
  cases H
  exact rz rfl
  refine Br.f ff_ (Br.f ff_ (Br.f ff_ (Br.f ff_ (Br.f ff_ (Br.f ff_ (Br.f ff_ (Br.f ff_ (Br.f ff_ (Br.f ff_ (Br.f ff_ (Br.f ff_ (Br.f rfl (Br.f rfl (Br.f rfl ?_))))))))))))))
  revert H; refine aN (fun t9131 A H => (cmk (fJ.ac A) rfl rfl (Br.f rfl (Br.f rfl (dM H (fun c H => ?_) (fun c H => ?_))))))
  refine Br.f ff_ (Br.f ff_ ?_)
  revert H; refine aN (fun t9132 A H => (cmk (aY.ac A) rfl rfl (Br.f ff_ (Br.f ff_ (cu 408 [(1, .bp 0 0), (3, .int .i64 x3), (52, .bool (!t9132))] [(0, .box [(aM a0_0), (aF a0_1), (aD a0_2), (aE a0_3)])] rfl rfl rfl (dM H (fun c H => ?_) (fun c H => ?_)))))))
  exact ⟨(k, wrap64 (x3 + 1)), [], ⟨H, lt_⟩, lt_, (fq rfl rfl fi_ rfl)⟩
  refine cu 416 [(2, .bool false)] [] rfl rfl rfl ?_
  cases H
  exact rz rfl
  refine Br.t ft_ (Br.t ft_ (Br.t ft_ (Br.t ft_ (cu 408 [(1, .bp 0 0), (3, .int .i64 x3), (52, .bool true)] [(0, .box [(aM a0_0), (aF a0_1), (aD a0_2), (aE a0_3)])] rfl rfl rfl (Br.t rfl (cu 416 [(2, .bool false)] [] rfl rfl rfl ?_))))))
  cases H
  exact rz rfl
  refine Br.t ft_ (Br.t ft_ (Br.t ft_ (Br.t ft_ (Br.t rfl (Br.t rfl (Br.t rfl (Br.t rfl (Br.t rfl (Br.t rfl (Br.t rfl (Br.t rfl (Br.t rfl (Br.t rfl (cu 408 [(1, .bp 0 0), (3, .int .i64 x3), (52, .bool true)] [(0, .box [(aM a0_0), (aF a0_1), (aD a0_2), (aE a0_3)])] rfl rfl rfl (Br.t rfl (cu 416 [(2, .bool false)] [] rfl rfl rfl ?_))))))))))))))))
  cases H
  exact rz rfl
  cases H
  exact rz rfl
theorem cR.l0_lp {F : (Exit → St → Prop) → St → Prop} {hv : List Tmp} {Q : Exit → St → Prop} {σ : St} {r : Bool} {k : Nat} {a0_0 : List ByteArray} {a0_1 : List aC} {a0_2 : List aB} {a0_3 : List aA} {x3 : Int} (H : cR.l0 k a0_0 a0_1 a0_2 a0_3 x3 = some r) (rn : List (Option Nat)) (h1 : cJ σ σ [] [(3, .int .i64 x3)] [] [] rn)
    (h2 : ∀ (k0 : Nat) (x3 : Int), k0 < k + 1 → cR.l0 k0 a0_0 a0_1 a0_2 a0_3 x3 = some r → dE σ hv [] [(3, .int .i64 x3)] [] [] (F (fun e σ' => match e with | .normal => ∃ (y : Nat × Int) (rn : List (Option Nat)), (cR.l0 y.1 a0_0 a0_1 a0_2 a0_3 y.2 = some r ∧ y.1 < k + 1) ∧ y.1 < k0 ∧ cJ σ σ' [] [(3, .int .i64 y.2)] [] [] rn | e => Q e σ'))) : Lp F hv Q σ := by
  unfold Lp
  refine ⟨Nat × Int, fun x => cR.l0 x.1 a0_0 a0_1 a0_2 a0_3 x.2 = some r ∧ x.1 < k + 1, fun x => x.1, [], fun x => [(3, .int .i64 x.2)], fun x => [], fun x => [], ⟨(k, x3), rn, ⟨H, Nat.lt_succ_self _⟩, h1⟩, ?_⟩
  rintro ⟨k, x3⟩ ⟨H, hk⟩
  exact h2 k x3 hk H
theorem cR.ac {k : Nat} {a0_0 : List ByteArray} {a0_1 : List aC} {a0_2 : List aB} {a0_3 : List aA} {r : Bool} (H : cR.f k a0_0 a0_1 a0_2 a0_3 = some r) : cI Tryz.prog G 29 [] [.agg [(aM a0_0), (aF a0_1), (aD a0_2), (aE a0_3)]] [] (.bool r) := by
  refine bO tok hP Tryz.func29 rfl (by kernel_rfl) [.tmp 2] rfl (by kernel_rfl) (Nat.le_of_ble_eq_true rfl) (.l .n (.l .n (.l (.l .n (.l (.c .n .n) (.l (.l .n (.c .n (.l (.c .n .n) .n))) .n))) .n))) rfl ?_
  unfold cR.f at H
  refine bM H (fun c H => ?_) (fun c H => ?_)
  cases H
  exact rz rfl
  refine cR.l0_lp (a0_0 := a0_0) (a0_1 := a0_1) (a0_2 := a0_2) (a0_3 := a0_3) (k := k) H [] (fq rfl rfl fi_ rfl) ?_
  intro k x3 hk H; rcases k with _ | k; exact bC H; rw [cR.l0] at H
  refine cu 96 [(1, .bp 0 0), (3, .int .i64 x3), (13, .bool (decide (x3 < (a0_3.length : Int))))] [(0, .box [(aM a0_0), (aF a0_1), (aD a0_2), (aE a0_3)])] rfl rfl rfl (bM H (fun c H => ?_) (fun c H => ?_))
  refine nd_ H (fun c H => (Nd.mk nf_ (El.mk (bQ _ _ nf_ nf_) ?_)))
  revert H; refine aN (fun t9178 A H => (cmk (aY.ac A) rfl rfl (dM H (fun c H => ?_) (fun c H => ?_))))
  refine Br.f ff_ (Br.f ff_ (bM H (fun c H => ?_) (fun c H => ?_)))
  refine Br.t ft_ (Br.t ft_ (Br.t ft_ (Br.t ft_ (nd_ H (fun c H => (nd_ H (fun c H => (El.mk (bQ _ _ nf_ nf_) (Br.t ft_ (Br.t ft_ (Br.t ft_ (Br.t ft_ (Br.t ft_ (Br.f ff_ (Br.t ft_ (Br.f ff_ (dM H (fun c H => ?_) (fun c H => ?_))))))))))))))))))
  refine Br.f ff_ (Br.f ff_ (Br.f ff_ (Br.f ff_ (Br.f ff_ (dM H (fun c H => ?_) (fun c H => ?_))))))
  refine Br.f ff_ (Br.f ff_ (Br.f ff_ ?_))
  revert H; refine aN (fun t9179 A H => (cmk (cG.ac A) rfl rfl (Br.f ff_ (Br.f ff_ (bM H (fun c H => ?_) (fun c H => ?_))))))
  refine Br.t ft_ (Br.t ft_ (Br.t ft_ (Br.t ft_ (Br.t ft_ (Br.t rfl (Br.t rfl (Br.t rfl (Br.t rfl (Br.t rfl (cu 528 [(1, .bp 0 0), (3, .int .i64 x3), (67, .bool true)] [(0, .box [(aM a0_0), (aF a0_1), (aD a0_2), (aE a0_3)])] rfl rfl rfl (Br.t rfl (cu 536 [(2, .bool false)] [] rfl rfl rfl ?_))))))))))))
  cases H
  exact rz rfl
  refine Br.f ff_ (Br.f ff_ (Br.f ff_ ?_))
  revert H; refine aN (fun t9180 A H => (cmk (cG.ac A) rfl rfl (Br.f ff_ (Br.f ff_ (bM H (fun c H => ?_) (fun c H => ?_))))))
  refine Br.t ft_ (Br.t ft_ (Br.t ft_ (Br.t ft_ (cu 528 [(1, .bp 0 0), (3, .int .i64 x3), (67, .bool true)] [(0, .box [(aM a0_0), (aF a0_1), (aD a0_2), (aE a0_3)])] rfl rfl rfl (Br.t rfl (cu 536 [(2, .bool false)] [] rfl rfl rfl ?_))))))
  cases H
  exact rz rfl
  refine Br.f ff_ (Br.f ff_ ?_)
  revert H; refine aN (fun t9181 A H => (cmk (aY.ac A) rfl rfl (Br.f ff_ (Br.f ff_ (cu 528 [(1, .bp 0 0), (3, .int .i64 x3), (67, .bool (!t9181))] [(0, .box [(aM a0_0), (aF a0_1), (aD a0_2), (aE a0_3)])] rfl rfl rfl (dM H (fun c H => ?_) (fun c H => ?_)))))))
  exact ⟨(k, wrap64 (x3 + 1)), [], ⟨H, lt_⟩, lt_, (fq rfl rfl fi_ rfl)⟩
  refine cu 536 [(2, .bool false)] [] rfl rfl rfl ?_
  cases H
  exact rz rfl
  refine Br.t ft_ (Br.t ft_ (Br.t ft_ (Br.t ft_ (Br.t ft_ (Br.t rfl (Br.t rfl (Br.t rfl (Br.t rfl (Br.t rfl (Br.t rfl (Br.t rfl (Br.t rfl (Br.t rfl (Br.t rfl (Br.t rfl (cu 528 [(1, .bp 0 0), (3, .int .i64 x3), (67, .bool true)] [(0, .box [(aM a0_0), (aF a0_1), (aD a0_2), (aE a0_3)])] rfl rfl rfl (Br.t rfl (cu 536 [(2, .bool false)] [] rfl rfl rfl ?_))))))))))))))))))
  cases H
  exact rz rfl
  refine Br.t ft_ (Br.t ft_ (Br.t ft_ (Br.t ft_ (Br.t ft_ (Br.t rfl (Br.t rfl (Br.t rfl (Br.t rfl (Br.t rfl (Br.t rfl (Br.t rfl (Br.t rfl (Br.t rfl (Br.t rfl (Br.t rfl (Br.t rfl (Br.t rfl (Br.t rfl (Br.t rfl (Br.t rfl (Br.t rfl (cu 528 [(1, .bp 0 0), (3, .int .i64 x3), (67, .bool true)] [(0, .box [(aM a0_0), (aF a0_1), (aD a0_2), (aE a0_3)])] rfl rfl rfl (Br.t rfl ?_)))))))))))))))))))))))
  refine cu 536 [(2, .bool false)] [] rfl rfl rfl ?_
  cases H
  exact rz rfl
  refine Br.f ff_ (Br.f ff_ (Br.f ff_ (Br.f ff_ (Br.f ff_ (Br.f ff_ (Br.f ff_ (Br.f ff_ (Br.f ff_ (Br.f ff_ (Br.f ff_ (Br.f ff_ (Br.f rfl (Br.f rfl (Br.f rfl (Br.f rfl (Br.f rfl (Br.f rfl (dM H (fun c H => ?_) (fun c H => ?_)))))))))))))))))))
  refine Br.f ff_ (Br.f ff_ (Br.f ff_ ?_))
  revert H; refine aN (fun t9182 A H => (cmk (cG.ac A) rfl rfl (Br.f ff_ (Br.f ff_ (bM H (fun c H => ?_) (fun c H => ?_))))))
  refine Br.t ft_ (Br.t ft_ (Br.t ft_ (Br.t ft_ (Br.t ft_ (Br.t rfl (Br.t rfl (Br.t rfl (Br.t rfl (Br.t rfl (cu 528 [(1, .bp 0 0), (3, .int .i64 x3), (67, .bool true)] [(0, .box [(aM a0_0), (aF a0_1), (aD a0_2), (aE a0_3)])] rfl rfl rfl (Br.t rfl (cu 536 [(2, .bool false)] [] rfl rfl rfl ?_))))))))))))
  cases H
  exact rz rfl
  refine Br.f ff_ (Br.f ff_ (Br.f ff_ ?_))
  revert H; refine aN (fun t9183 A H => (cmk (cG.ac A) rfl rfl (Br.f ff_ (Br.f ff_ (bM H (fun c H => ?_) (fun c H => ?_))))))
  refine Br.t ft_ (Br.t ft_ (Br.t ft_ (Br.t ft_ (cu 528 [(1, .bp 0 0), (3, .int .i64 x3), (67, .bool true)] [(0, .box [(aM a0_0), (aF a0_1), (aD a0_2), (aE a0_3)])] rfl rfl rfl (Br.t rfl (cu 536 [(2, .bool false)] [] rfl rfl rfl ?_))))))
  cases H
  exact rz rfl
  refine Br.f ff_ (Br.f ff_ ?_)
  revert H; refine aN (fun t9184 A H => (cmk (aY.ac A) rfl rfl (Br.f ff_ (Br.f ff_ (cu 528 [(1, .bp 0 0), (3, .int .i64 x3), (67, .bool (!t9184))] [(0, .box [(aM a0_0), (aF a0_1), (aD a0_2), (aE a0_3)])] rfl rfl rfl (dM H (fun c H => ?_) (fun c H => ?_)))))))
  exact ⟨(k, wrap64 (x3 + 1)), [], ⟨H, lt_⟩, lt_, (fq rfl rfl fi_ rfl)⟩
  refine cu 536 [(2, .bool false)] [] rfl rfl rfl ?_
  cases H
  exact rz rfl
  refine Br.t ft_ (Br.t ft_ (Br.t ft_ (Br.t ft_ (Br.t ft_ (Br.t rfl (Br.t rfl (Br.t rfl (Br.t rfl (Br.t rfl (Br.t rfl (Br.t rfl (Br.t rfl (Br.t rfl (Br.t rfl (Br.t rfl (cu 528 [(1, .bp 0 0), (3, .int .i64 x3), (67, .bool true)] [(0, .box [(aM a0_0), (aF a0_1), (aD a0_2), (aE a0_3)])] rfl rfl rfl (Br.t rfl (cu 536 [(2, .bool false)] [] rfl rfl rfl ?_))))))))))))))))))
  cases H
  exact rz rfl
  refine Br.t ft_ (Br.t ft_ (Br.t ft_ (Br.t ft_ (Br.t rfl (Br.t rfl (Br.t rfl (Br.t rfl (Br.t rfl (Br.t rfl (Br.t rfl (Br.t rfl (Br.t rfl (Br.t rfl (Br.t rfl (Br.t rfl (Br.t rfl (Br.t rfl (Br.t rfl (Br.t rfl (Br.t rfl (Br.t rfl (Br.t rfl (Br.t rfl ?_)))))))))))))))))))))))
  refine Br.t rfl (Br.t rfl (Br.t rfl (cu 528 [(1, .bp 0 0), (3, .int .i64 x3), (67, .bool true)] [(0, .box [(aM a0_0), (aF a0_1), (aD a0_2), (aE a0_3)])] rfl rfl rfl (Br.t rfl (cu 536 [(2, .bool false)] [] rfl rfl rfl ?_)))))
  cases H
  exact rz rfl
  cases H
  exact rz rfl
theorem dY.ac {k : Nat} {a0_0 : List ByteArray} {a0_1 : List aC} {a0_2 : List aB} {a0_3 : List aA} {r : Bool} (H : dY.f k a0_0 a0_1 a0_2 a0_3 = some r) : cI Tryz.prog G 9 [] [.agg [(aM a0_0), (aF a0_1), (aD a0_2), (aE a0_3)]] [] (.bool r) := by
  refine bO tok hP Tryz.func9 rfl (by kernel_rfl) [.tmp 2] rfl (by kernel_rfl) (Nat.le_of_ble_eq_true rfl) (.l .n (.c .n .n)) rfl ?_
  unfold dY.f at H
  revert H; refine aN (fun t9188 A H => (cmk (bG.ac A) rfl rfl (jF H (fun c H => ?_) (fun c H => ?_))))
  refine Br.t ft_ ?_
  revert H; refine aN (fun t9189 A H => (cmk (cS.ac A) rfl rfl (Br.t ft_ (jF H (fun c H => ?_) (fun c H => ?_)))))
  refine Br.t ft_ ?_
  revert H; refine aN (fun t9190 A H => (cmk (cR.ac A) rfl rfl (Br.t ft_ (cu 104 [(2, .bool t9190)] [] rfl rfl rfl ?_))))
  cases H
  exact rz rfl
  refine Br.f ff_ (Br.f ff_ (cu 104 [(2, .bool false)] [] rfl rfl rfl ?_))
  cases H
  exact rz rfl
  refine Br.f ff_ (Br.f ff_ (Br.f rfl (Br.f rfl (Br.f rfl (cu 104 [(2, .bool false)] [] rfl rfl rfl ?_)))))
  cases H
  exact rz rfl
theorem aQ.l3_lp {F : (Exit → St → Prop) → St → Prop} {hv : List Tmp} {Q : Exit → St → Prop} {σ : St} {r : ByteArray} {k : Nat} {a0_3 : List aA} {x3_3 : ByteArray} {x8 : Int} (H : aQ.l3 k a0_3 x3_3 x8 = some r) (rn : List (Option Nat)) (h1 : cJ σ σ [] [(3, .str x3_3), (8, .int .i64 x8)] [] [] rn)
    (h2 : ∀ (k0 : Nat) (x3_3 : ByteArray) (x8 : Int), k0 < k + 1 → aQ.l3 k0 a0_3 x3_3 x8 = some r → dE σ hv [] [(3, .str x3_3), (8, .int .i64 x8)] [] [] (F (fun e σ' => match e with | .normal => ∃ (y : Nat × ByteArray × Int) (rn : List (Option Nat)), (aQ.l3 y.1 a0_3 y.2.1 y.2.2 = some r ∧ y.1 < k + 1) ∧ y.1 < k0 ∧ cJ σ σ' [] [(3, .str y.2.1), (8, .int .i64 y.2.2)] [] [] rn | e => Q e σ'))) : Lp F hv Q σ := by
  unfold Lp
  refine ⟨Nat × ByteArray × Int, fun x => aQ.l3 x.1 a0_3 x.2.1 x.2.2 = some r ∧ x.1 < k + 1, fun x => x.1, [], fun x => [(3, .str x.2.1), (8, .int .i64 x.2.2)], fun x => [], fun x => [], ⟨(k, x3_3, x8), rn, ⟨H, Nat.lt_succ_self _⟩, h1⟩, ?_⟩
  rintro ⟨k, x3_3, x8⟩ ⟨H, hk⟩
  exact h2 k x3_3 x8 hk H
theorem aQ.l2_lp {F : (Exit → St → Prop) → St → Prop} {hv : List Tmp} {Q : Exit → St → Prop} {σ : St} {r : ByteArray} {k : Nat} {a0_2 : List aB} {a0_3 : List aA} {x3_2 : ByteArray} {x6 : Int} (H : aQ.l2 k a0_2 a0_3 x3_2 x6 = some r) (rn : List (Option Nat)) (h1 : cJ σ σ [] [(3, .str x3_2), (6, .int .i64 x6)] [] [] rn)
    (h2 : ∀ (k0 : Nat) (x3_2 : ByteArray) (x6 : Int), k0 < k + 1 → aQ.l2 k0 a0_2 a0_3 x3_2 x6 = some r → dE σ hv [] [(3, .str x3_2), (6, .int .i64 x6)] [] [] (F (fun e σ' => match e with | .normal => ∃ (y : Nat × ByteArray × Int) (rn : List (Option Nat)), (aQ.l2 y.1 a0_2 a0_3 y.2.1 y.2.2 = some r ∧ y.1 < k + 1) ∧ y.1 < k0 ∧ cJ σ σ' [] [(3, .str y.2.1), (6, .int .i64 y.2.2)] [] [] rn | e => Q e σ'))) : Lp F hv Q σ := by
  unfold Lp
  refine ⟨Nat × ByteArray × Int, fun x => aQ.l2 x.1 a0_2 a0_3 x.2.1 x.2.2 = some r ∧ x.1 < k + 1, fun x => x.1, [], fun x => [(3, .str x.2.1), (6, .int .i64 x.2.2)], fun x => [], fun x => [], ⟨(k, x3_2, x6), rn, ⟨H, Nat.lt_succ_self _⟩, h1⟩, ?_⟩
  rintro ⟨k, x3_2, x6⟩ ⟨H, hk⟩
  exact h2 k x3_2 x6 hk H
theorem aQ.l1_lp {F : (Exit → St → Prop) → St → Prop} {hv : List Tmp} {Q : Exit → St → Prop} {σ : St} {r : ByteArray} {k : Nat} {a0_1 : List aC} {a0_2 : List aB} {a0_3 : List aA} {x3_1 : ByteArray} {x5 : Int} (H : aQ.l1 k a0_1 a0_2 a0_3 x3_1 x5 = some r) (rn : List (Option Nat)) (h1 : cJ σ σ [] [(3, .str x3_1), (5, .int .i64 x5)] [] [] rn)
    (h2 : ∀ (k0 : Nat) (x3_1 : ByteArray) (x5 : Int), k0 < k + 1 → aQ.l1 k0 a0_1 a0_2 a0_3 x3_1 x5 = some r → dE σ hv [] [(3, .str x3_1), (5, .int .i64 x5)] [] [] (F (fun e σ' => match e with | .normal => ∃ (y : Nat × ByteArray × Int) (rn : List (Option Nat)), (aQ.l1 y.1 a0_1 a0_2 a0_3 y.2.1 y.2.2 = some r ∧ y.1 < k + 1) ∧ y.1 < k0 ∧ cJ σ σ' [] [(3, .str y.2.1), (5, .int .i64 y.2.2)] [] [] rn | e => Q e σ'))) : Lp F hv Q σ := by
  unfold Lp
  refine ⟨Nat × ByteArray × Int, fun x => aQ.l1 x.1 a0_1 a0_2 a0_3 x.2.1 x.2.2 = some r ∧ x.1 < k + 1, fun x => x.1, [], fun x => [(3, .str x.2.1), (5, .int .i64 x.2.2)], fun x => [], fun x => [], ⟨(k, x3_1, x5), rn, ⟨H, Nat.lt_succ_self _⟩, h1⟩, ?_⟩
  rintro ⟨k, x3_1, x5⟩ ⟨H, hk⟩
  exact h2 k x3_1 x5 hk H
theorem aQ.l0_lp {F : (Exit → St → Prop) → St → Prop} {hv : List Tmp} {Q : Exit → St → Prop} {σ : St} {r : ByteArray} {k : Nat} {a0_0 : List ByteArray} {a0_1 : List aC} {a0_2 : List aB} {a0_3 : List aA} {x3 : ByteArray} {x4 : Int} (H : aQ.l0 k a0_0 a0_1 a0_2 a0_3 x3 x4 = some r) (rn : List (Option Nat)) (h1 : cJ σ σ [] [(3, .str x3), (4, .int .i64 x4)] [] [] rn)
    (h2 : ∀ (k0 : Nat) (x3 : ByteArray) (x4 : Int), k0 < k + 1 → aQ.l0 k0 a0_0 a0_1 a0_2 a0_3 x3 x4 = some r → dE σ hv [] [(3, .str x3), (4, .int .i64 x4)] [] [] (F (fun e σ' => match e with | .normal => ∃ (y : Nat × ByteArray × Int) (rn : List (Option Nat)), (aQ.l0 y.1 a0_0 a0_1 a0_2 a0_3 y.2.1 y.2.2 = some r ∧ y.1 < k + 1) ∧ y.1 < k0 ∧ cJ σ σ' [] [(3, .str y.2.1), (4, .int .i64 y.2.2)] [] [] rn | e => Q e σ'))) : Lp F hv Q σ := by
  unfold Lp
  refine ⟨Nat × ByteArray × Int, fun x => aQ.l0 x.1 a0_0 a0_1 a0_2 a0_3 x.2.1 x.2.2 = some r ∧ x.1 < k + 1, fun x => x.1, [], fun x => [(3, .str x.2.1), (4, .int .i64 x.2.2)], fun x => [], fun x => [], ⟨(k, x3, x4), rn, ⟨H, Nat.lt_succ_self _⟩, h1⟩, ?_⟩
  rintro ⟨k, x3, x4⟩ ⟨H, hk⟩
  exact h2 k x3 x4 hk H
theorem aQ.ac {k : Nat} {a0_0 : List ByteArray} {a0_1 : List aC} {a0_2 : List aB} {a0_3 : List aA} {r : ByteArray} (H : aQ.f k a0_0 a0_1 a0_2 a0_3 = some r) : cI Tryz.prog G 7 [] [.agg [(aM a0_0), (aF a0_1), (aD a0_2), (aE a0_3)]] [] (.str r) := by
  refine bO tok hP Tryz.func7 rfl (by kernel_rfl) [.tmp 2] rfl (by kernel_rfl) (Nat.le_of_ble_eq_true rfl) (.l .n (.l .n (.l .n (.l (.l .n (.l (.c .n .n) (.c .n .n))) (.l (.l .n (.l .n (.c .n .n))) (.l (.l .n (.l (.c .n .n) (.c .n .n))) (.l (.l .n (.l .n (.c (.c .n .n) .n))) .n))))))) rfl ?_
  unfold aQ.f at H
  revert H; refine aN (fun t9193 A H => (cmk (dY.ac A) rfl rfl (dM H (fun c H => ?_) (fun c H => ?_))))
  refine aQ.l0_lp (a0_0 := a0_0) (a0_1 := a0_1) (a0_2 := a0_2) (a0_3 := a0_3) (k := k) H [] (fq rfl rfl fi_ rfl) ?_
  intro k x3 x4 hk H; rcases k with _ | k; exact bC H; rw [aQ.l0] at H
  refine cu 96 [(1, .bp 0 0), (3, .str x3), (4, .int .i64 x4), (18, .bool (decide (x4 < (a0_0.length : Int))))] [(0, .box [(aM a0_0), (aF a0_1), (aD a0_2), (aE a0_3)])] rfl rfl rfl (bM H (fun c H => ?_) (fun c H => ?_))
  refine nd_ H (fun c H => (nd_ H (fun c H => (Nd.mk nf_ (El.mk (aX _ _ nf_ nf_) (nd_ H (fun c H => (nd_ H (fun c H => (cu 176 [(1, .bp 0 0), (3, .str (((x3 ++ (⟨#[115, 116, 117, 102, 102, 32]⟩ : ByteArray)) ++ (aV ByteArray.empty a0_0 x4)) ++ (⟨#[10]⟩ : ByteArray))), (4, .int .i64 x4)] [(0, .box [(aM a0_0), (aF a0_1), (aD a0_2), (aE a0_3)])] rfl rfl rfl (⟨(k, ((x3 ++ (⟨#[115, 116, 117, 102, 102, 32]⟩ : ByteArray)) ++ (aV ByteArray.empty a0_0 x4)) ++ (⟨#[10]⟩ : ByteArray), wrap64 (x4 + 1)), [], ⟨H, lt_⟩, lt_, (fq rfl rfl fi_ rfl)⟩)))))))))))
  refine aQ.l1_lp (a0_1 := a0_1) (a0_2 := a0_2) (a0_3 := a0_3) (k := k) H [] (fq rfl rfl fi_ rfl) ?_
  intro k x3_1 x5 hk H; rcases k with _ | k; exact bC H; rw [aQ.l1] at H
  refine bM H (fun c H => ?_) (fun c H => ?_)
  refine nd_ H (fun c H => (nd_ H (fun c H => (Nd.mk nf_ (El.mk (bP _ _ nf_ nf_) (nd_ H (fun c H => (nd_ H (fun c H => (Nd.mk nf_ (Nd.mk nf_ (El.mk (bP _ _ nf_ nf_) (nd_ H (fun c H => (nd_ H (fun c H => (cu 296 [(1, .bp 0 0), (3, .str (((((x3_1 ++ (⟨#[102, 111, 101, 32]⟩ : ByteArray)) ++ ((aO a0_1 x5).f0)) ++ (⟨#[32]⟩ : ByteArray)) ++ ((aO a0_1 x5).f1)) ++ (⟨#[10]⟩ : ByteArray))), (5, .int .i64 x5)] [(0, .box [(aM a0_0), (aF a0_1), (aD a0_2), (aE a0_3)])] rfl rfl rfl (⟨(k, ((((x3_1 ++ (⟨#[102, 111, 101, 32]⟩ : ByteArray)) ++ ((aO a0_1 x5).f0)) ++ (⟨#[32]⟩ : ByteArray)) ++ ((aO a0_1 x5).f1)) ++ (⟨#[10]⟩ : ByteArray), wrap64 (x5 + 1)), [], ⟨H, lt_⟩, lt_, (fq rfl rfl fi_ rfl)⟩))))))))))))))))))
  refine aQ.l2_lp (a0_2 := a0_2) (a0_3 := a0_3) (k := k) H [] (fq rfl rfl fi_ rfl) ?_
  intro k x3_2 x6 hk H; rcases k with _ | k; exact bC H; rw [aQ.l2] at H
  refine cu 192 [(1, .bp 0 0), (3, .str x3_2), (6, .int .i64 x6), (59, .bool (decide (x6 < (a0_2.length : Int))))] [(0, .box [(aM a0_0), (aF a0_1), (aD a0_2), (aE a0_3)])] rfl rfl rfl (bM H (fun c H => ?_) (fun c H => ?_))
  refine nd_ H (fun c H => (Nd.mk nf_ (El.mk (bJ _ _ nf_ nf_) (bM H (fun c H => ?_) (fun c H => ?_)))))
  refine nd_ H (fun c H => (nd_ H (fun c H => (nd_ H (fun c H => ?_)))))
  revert H; refine aN (fun t9196 A H => (cmk (cD.ac A) rfl rfl (nd_ H (fun c H => (nd_ H (fun c H => (nd_ H (fun c H => (nd_ H (fun c H => (cu 400 [(1, .bp 0 0), (3, .str (((((((x3_2 ++ (⟨#[118, 101, 115, 115, 101, 108, 32]⟩ : ByteArray)) ++ ((aK a0_2 x6).f0)) ++ (⟨#[32]⟩ : ByteArray)) ++ t9196) ++ (⟨#[32]⟩ : ByteArray)) ++ ((aK a0_2 x6).f2)) ++ (⟨#[10]⟩ : ByteArray))), (6, .int .i64 x6)] [(0, .box [(aM a0_0), (aF a0_1), (aD a0_2), (aE a0_3)])] rfl rfl rfl (⟨(k, ((((((x3_2 ++ (⟨#[118, 101, 115, 115, 101, 108, 32]⟩ : ByteArray)) ++ ((aK a0_2 x6).f0)) ++ (⟨#[32]⟩ : ByteArray)) ++ t9196) ++ (⟨#[32]⟩ : ByteArray)) ++ ((aK a0_2 x6).f2)) ++ (⟨#[10]⟩ : ByteArray), wrap64 (x6 + 1)), [], ⟨H, lt_⟩, lt_, (fq rfl rfl fi_ rfl)⟩))))))))))))
  refine nd_ H (fun c H => (nd_ H (fun c H => (nd_ H (fun c H => (nd_ H (fun c H => (nd_ H (fun c H => (cu 360 [(1, .bp 0 0), (3, .str (((((x3_2 ++ (⟨#[106, 111, 105, 110, 116, 32]⟩ : ByteArray)) ++ ((aK a0_2 x6).f0)) ++ (⟨#[32]⟩ : ByteArray)) ++ ((aK a0_2 x6).f2)) ++ (⟨#[10]⟩ : ByteArray))), (6, .int .i64 x6)] [(0, .box [(aM a0_0), (aF a0_1), (aD a0_2), (aE a0_3)])] rfl rfl rfl (⟨(k, ((((x3_2 ++ (⟨#[106, 111, 105, 110, 116, 32]⟩ : ByteArray)) ++ ((aK a0_2 x6).f0)) ++ (⟨#[32]⟩ : ByteArray)) ++ ((aK a0_2 x6).f2)) ++ (⟨#[10]⟩ : ByteArray), wrap64 (x6 + 1)), [], ⟨H, lt_⟩, lt_, (fq rfl rfl fi_ rfl)⟩)))))))))))
  refine aQ.l3_lp (a0_3 := a0_3) (k := k) H [] (fq rfl rfl fi_ rfl) ?_
  intro k x3_3 x8 hk H; rcases k with _ | k; exact bC H; rw [aQ.l3] at H
  refine bM H (fun c H => ?_) (fun c H => ?_)
  refine nd_ H (fun c H => (Nd.mk nf_ (El.mk (bQ _ _ nf_ nf_) (cu 296 [(1, .bp 0 0), (3, .str x3_3), (8, .int .i64 x8), (9, .bp 280 0)] [(0, .box [(aM a0_0), (aF a0_1), (aD a0_2), (aE a0_3)]), (280, .box [.str ((aI a0_3 x8).f0), .str ((aI a0_3 x8).f1), .str ((aI a0_3 x8).f2), .str ((aI a0_3 x8).f3)])] rfl rfl rfl (nd_ H (fun c H => (nd_ H (fun c H => (nd_ H (fun c H => (nd_ H (fun c H => (nd_ H (fun c H => (nd_ H (fun c H => (nd_ H (fun c H => (nd_ H (fun c H => (nd_ H (fun c H => (cu 448 [(1, .bp 0 0), (3, .str (((((((((x3_3 ++ (⟨#[118, 97, 108, 118, 101, 32]⟩ : ByteArray)) ++ ((aI a0_3 x8).f0)) ++ (⟨#[32]⟩ : ByteArray)) ++ ((aI a0_3 x8).f1)) ++ (⟨#[32]⟩ : ByteArray)) ++ ((aI a0_3 x8).f2)) ++ (⟨#[32]⟩ : ByteArray)) ++ ((aI a0_3 x8).f3)) ++ (⟨#[10]⟩ : ByteArray))), (8, .int .i64 x8)] [(0, .box [(aM a0_0), (aF a0_1), (aD a0_2), (aE a0_3)])] rfl rfl rfl (⟨(k, ((((((((x3_3 ++ (⟨#[118, 97, 108, 118, 101, 32]⟩ : ByteArray)) ++ ((aI a0_3 x8).f0)) ++ (⟨#[32]⟩ : ByteArray)) ++ ((aI a0_3 x8).f1)) ++ (⟨#[32]⟩ : ByteArray)) ++ ((aI a0_3 x8).f2)) ++ (⟨#[32]⟩ : ByteArray)) ++ ((aI a0_3 x8).f3)) ++ (⟨#[10]⟩ : ByteArray), wrap64 (x8 + 1)), [], ⟨H, lt_⟩, lt_, (fq rfl rfl fi_ rfl)⟩))))))))))))))))))))))))
  cases H
  exact rz rfl
  cases H
  exact rz rfl
end Go.Proofs.YtnobkcplpbkigaaGreatDoor.VP
namespace Go.Proofs
open Go.Shelf Go.Sort Go.RowKit in
shelf_lay LaysM.n146 Nm 146 at Tryz as Tryz.gx146
end Go.Proofs
namespace Go.Proofs.YtnobkcplpbkigaaGreatDoor.VP
open Go Go.Aw Go.RowKit Go.Proofs
set_option maxRecDepth 100000
set_option maxHeartbeats 40000000
variable {G : Nat → Option Obj}
attribute [local irreducible] jK Lp Sq Cut kR kJ cJ
theorem strings_Split.ac [GvOk G] {s0 s1 : ByteArray} {r : List ByteArray} (H : strings_Split.f s0 s1 = some r) : cI Tryz.prog G 56 [] [.str s0, .str s1] [] (.sl 1 r.length (r.map aW)) := by
  exact aCL Tryz.gx146 ⟨_, Tryz.func56, by kernel_rfl, by kernel_rfl⟩ GvOk.i rfl rfl H (fun _ => rfl)
theorem gQ.ac [GvOk G] {a0 : ByteArray} {r : List ByteArray} (H : gQ.f a0 = some r) : cI Tryz.prog G 30 [] [.str a0] [] ((aM r)) := by
  refine bO tok hP Tryz.func30 rfl (by kernel_rfl) [.tmp 2] rfl (by kernel_rfl) (Nat.le_of_ble_eq_true rfl) (.l .n (.l .n (.l (.c .n .n) .n))) rfl ?_
  unfold gQ.f at H
  revert H; refine aN (fun t9254 A H => (cmk (strings_Split.ac A) rfl rfl (nd_ H (fun c H => (nd_ H (fun c H => (El.mk (aX _ _ nf_ nf_) (cu 88 [(3, (aM t9254)), (12, .bool (decide ((aV ByteArray.empty t9254 (wrap64 ((t9254.length : Int) - 1))).toList = (⟨#[]⟩ : ByteArray).toList)))] [] rfl rfl rfl (bM H (fun c H => ?_) (fun c H => ?_))))))))))
  refine Nd.mk nf_ (nd_ H (fun c H => ?_))
  cases H
  exact pG [] (aIC lm_ lm_)
  cases H
  exact rz rfl
end Go.Proofs.YtnobkcplpbkigaaGreatDoor.VP
namespace Go.Proofs
open Go.Shelf Go.Sort Go.RowKit in
shelf_lay LaysM.n145 Nm 145 at Tryz as Tryz.gx145
end Go.Proofs
namespace Go.Proofs.YtnobkcplpbkigaaGreatDoor.VP
open Go Go.Aw Go.RowKit Go.Proofs
set_option maxRecDepth 100000
set_option maxHeartbeats 40000000
variable {G : Nat → Option Obj}
attribute [local irreducible] jK Lp Sq Cut kR kJ cJ
theorem strings_Cut.ac [GvOk G] {s0 s1 : ByteArray} {r : ByteArray × ByteArray × Bool} (H : strings_Cut.f s0 s1 = some r) : cI Tryz.prog G 75 [] [.str s0, .str s1] [] (.tup [.str r.1, .str r.2.1, .bool r.2.2]) := by
  exact aGY Tryz.gx145 ⟨_, Tryz.func75, by kernel_rfl, by kernel_rfl⟩ GvOk.i rfl rfl H
theorem bS.l1_lp {F : (Exit → St → Prop) → St → Prop} {hv : List Tmp} {Q : Exit → St → Prop} {σ : St} {r : (List ByteArray) × Bool} {k : Nat} {t9319 : List ByteArray} {x5 : List ByteArray} {x33 : Int} (H : bS.l1 k x5 x33 t9319 = some r) (rn : List (Option Nat)) (h1 : cJ σ σ [] [(5, .own 0 x5.length), (33, .int .i64 x33)] [] [.arr 9 1 (x5.map aW)] rn)
    (h2 : ∀ (k0 : Nat) (x5 : List ByteArray) (x33 : Int), k0 < k + 1 → bS.l1 k0 x5 x33 t9319 = some r → dE σ hv [] [(5, .own 0 x5.length), (33, .int .i64 x33)] [] [.arr 9 1 (x5.map aW)] (F (fun e σ' => match e with | .normal => ∃ (y : Nat × (List ByteArray) × Int) (rn : List (Option Nat)), (bS.l1 y.1 y.2.1 y.2.2 t9319 = some r ∧ y.1 < k + 1) ∧ y.1 < k0 ∧ cJ σ σ' [] [(5, .own 0 y.2.1.length), (33, .int .i64 y.2.2)] [] [.arr 9 1 (y.2.1.map aW)] rn | e => Q e σ'))) : Lp F hv Q σ := by
  unfold Lp
  refine ⟨Nat × (List ByteArray) × Int, fun x => bS.l1 x.1 x.2.1 x.2.2 t9319 = some r ∧ x.1 < k + 1, fun x => x.1, [], fun x => [(5, .own 0 x.2.1.length), (33, .int .i64 x.2.2)], fun x => [], fun x => [.arr 9 1 (x.2.1.map aW)], ⟨(k, x5, x33), rn, ⟨H, Nat.lt_succ_self _⟩, h1⟩, ?_⟩
  rintro ⟨k, x5, x33⟩ ⟨H, hk⟩
  exact h2 k x5 x33 hk H
theorem bS.l0_lp {F : (Exit → St → Prop) → St → Prop} {hv : List Tmp} {Q : Exit → St → Prop} {σ : St} {r : (List ByteArray) × Bool} {k : Nat} {t9316 : ByteArray × ByteArray × Bool} {x16 : Int} (H : bS.l0 k x16 t9316 = some r) (rn : List (Option Nat)) (h1 : cJ σ σ [] [(16, .int .i64 x16)] [] [] rn)
    (h2 : ∀ (k0 : Nat) (x16 : Int), k0 < k + 1 → bS.l0 k0 x16 t9316 = some r → dE σ hv [] [(16, .int .i64 x16)] [] [] (F (fun e σ' => match e with | .normal => ∃ (y : Nat × Int) (rn : List (Option Nat)), (bS.l0 y.1 y.2 t9316 = some r ∧ y.1 < k + 1) ∧ y.1 < k0 ∧ cJ σ σ' [] [(16, .int .i64 y.2)] [] [] rn | e => Q e σ'))) : Lp F hv Q σ := by
  unfold Lp
  refine ⟨Nat × Int, fun x => bS.l0 x.1 x.2 t9316 = some r ∧ x.1 < k + 1, fun x => x.1, [], fun x => [(16, .int .i64 x.2)], fun x => [], fun x => [], ⟨(k, x16), rn, ⟨H, Nat.lt_succ_self _⟩, h1⟩, ?_⟩
  rintro ⟨k, x16⟩ ⟨H, hk⟩
  exact h2 k x16 hk H
theorem bS.ac [GvOk G] {k : Nat} {a0 : ByteArray} {r : (List ByteArray) × Bool} (H : bS.f k a0 = some r) : cI Tryz.prog G 57 [] [.str a0] [] (.tup [(aM r.1), .bool r.2]) := by
  refine bO tok hP Tryz.func57 rfl (by kernel_rfl) [.tmp 2, .tmp 3] rfl (by kernel_rfl) (Nat.le_of_ble_eq_true rfl) (.l .n (.l .n (.l (.c .n (.l .n (.l .n (.l (.l .n (.c .n (.l (.c .n .n) .n))) .n)))) (.l .n (.l (.l .n (.l .n (.l .n (.l (.c .n .n) .n)))) (.c .n .n)))))) rfl ?_
  unfold bS.f at H
  revert H; refine aN (fun t9316 A H => (cmk (strings_Cut.ac A) rfl rfl (cu 96 [(0, .str t9316.1), (15, .int .i64 (t9316.1.size : Int)), (16, .int .i64 0)] [] rfl rfl rfl (bS.l0_lp (t9316 := t9316) (k := k) H [] (fq rfl rfl fi_ rfl) ?_))))
  intro k x16 hk H; rcases k with _ | k; exact bC H; rw [bS.l0] at H
  refine bM H (fun c H => ?_) (fun c H => ?_)
  refine nd_ H (fun c H => (Nd.mk nf_ (bM H (fun c H => ?_) (fun c H => ?_))))
  refine Br.t ft_ (Br.t ft_ (Br.t ft_ (Br.t ft_ (cu 200 [(0, .str t9316.1), (15, .int .i64 (t9316.1.size : Int)), (16, .int .i64 x16), (28, .bool true)] [] rfl rfl rfl (Br.t rfl (cu 216 [(2, .nil), (3, .bool false)] [] rfl rfl rfl ?_))))))
  cases H
  exact eY [] (cF (qA) (cF (fX rfl) (eJ)))
  refine Br.f ff_ (Br.f ff_ (Nd.mk nf_ (Nd.mk nf_ (Br.f ff_ (Br.f ff_ (cu 200 [(0, .str t9316.1), (15, .int .i64 (t9316.1.size : Int)), (16, .int .i64 x16), (28, .bool (decide ((bt t9316.1 x16) > 126)))] [] rfl rfl rfl (bM H (fun c H => ?_) (fun c H => ?_))))))))
  refine cu 216 [(2, .nil), (3, .bool false)] [] rfl rfl rfl ?_
  cases H
  exact eY [] (cF (qA) (cF (fX rfl) (eJ)))
  exact ⟨(k, wrap64 (x16 + 1)), [], ⟨H, lt_⟩, lt_, (fq rfl rfl fi_ rfl)⟩
  revert H; refine aN (fun t9319 A H => (cmk (strings_Split.ac A) rfl rfl (bS.l1_lp (t9319 := t9319) (k := k) H [none] (bX ⟨⟨rfl, rfl⟩, ⟨.inl ⟨rfl, rfl⟩, trivial⟩⟩ ⟨rfl, trivial⟩ fi_ trivial rfl) ?_)))
  intro k x5 x33 hk H; rcases k with _ | k; exact bC H; rw [bS.l1] at H
  refine bM H (fun c H => ?_) (fun c H => ?_)
  refine nd_ H (fun c H => (Nd.mk nf_ (El.mk (aX _ _ nf_ nf_) (cu 177 [(5, .own 144 x5.length), (7, .str (aV ByteArray.empty t9319 x33)), (31, (aM t9319)), (32, .int .i64 (t9319.length : Int)), (33, .int .i64 x33)] [(144, .arr 9 1 (x5.map aW))] rfl rfl rfl (bM H (fun c H => ?_) (fun c H => ?_))))))
  exact ⟨(k, x5, wrap64 (x33 + 1)), [some 144], ⟨H, lt_⟩, lt_, (bX ⟨rfl, ⟨.inl ⟨rfl, rfl⟩, trivial⟩⟩ ⟨rfl, trivial⟩ fi_ trivial rfl)⟩
  refine bM H (fun c H => ?_) (fun c H => ?_)
  cases H
  exact eY [] (cF (qA) (cF (fX rfl) (eJ)))
  refine Or.inl (nd_ H (fun c H => (⟨(k, (x5 ++ ([aV ByteArray.empty t9319 x33] : List ByteArray)), wrap64 (x33 + 1)), [some 241], ⟨H, lt_⟩, lt_, (bX ⟨gA lm_, ⟨.inl ⟨rfl, rfl⟩, trivial⟩⟩ ⟨fm_, trivial⟩ fi_ trivial rfl)⟩)))
  refine cu 177 [(2, .own 144 x5.length), (3, .bool true)] [(144, .arr 9 1 (x5.map aW))] rfl rfl rfl ?_
  cases H
  exact eY [144] (cF (aAT rfl rfl) (cF (fX rfl) (eJ)))
theorem fD.ac [GvOk G] {k : Nat} {a0 : ByteArray} {r : (List ByteArray) × Bool} (H : fD.f k a0 = some r) : cI Tryz.prog G 31 [] [.str a0] [] (.tup [(aM r.1), .bool r.2]) := by
  refine bO tok hP Tryz.func31 rfl (by kernel_rfl) [.tmp 2, .tmp 3] rfl (by kernel_rfl) (Nat.le_of_ble_eq_true rfl) (.l .n (.l .n (.l (.c .n (.l (.c .n .n) .n)) (.c .n .n)))) rfl ?_
  unfold fD.f at H
  revert H; refine aN (fun t9321 A H => (cmk (bS.ac A) rfl rfl (dM H (fun c H => ?_) (fun c H => ?_))))
  refine Br.f ff_ (Br.f ff_ (Br.f ff_ (cu 128 [(4, (aM t9321.1)), (17, .bool (decide ((t9321.1.length : Int) > 16)))] [] rfl rfl rfl (bM H (fun c H => ?_) (fun c H => ?_)))))
  refine cu 144 [(2, .nil), (3, .bool false)] [] rfl rfl rfl ?_
  cases H
  exact eY [] (cF (qA) (cF (fX rfl) (eJ)))
  refine cu 152 [(2, (aM t9321.1)), (3, .bool true)] [] rfl rfl rfl ?_
  cases H
  exact rts rfl
  refine Br.t ft_ (Br.t ft_ (Br.t ft_ (cu 128 [(4, (aM t9321.1)), (17, .bool true)] [] rfl rfl rfl (Br.t rfl (cu 144 [(2, .nil), (3, .bool false)] [] rfl rfl rfl ?_)))))
  cases H
  exact eY [] (cF (qA) (cF (fX rfl) (eJ)))
theorem bZ.l0_lp {F : (Exit → St → Prop) → St → Prop} {hv : List Tmp} {Q : Exit → St → Prop} {σ : St} {r : Int × Bool} {k : Nat} {a0 : ByteArray} {x4 : Int} {x26 : Int} (H : bZ.l0 k a0 x4 x26 = some r) (rn : List (Option Nat)) (h1 : cJ σ σ [] [(4, .int .i64 x4), (26, .int .i64 x26)] [] [] rn)
    (h2 : ∀ (k0 : Nat) (x4 : Int) (x26 : Int), k0 < k + 1 → bZ.l0 k0 a0 x4 x26 = some r → dE σ hv [] [(4, .int .i64 x4), (26, .int .i64 x26)] [] [] (F (fun e σ' => match e with | .normal => ∃ (y : Nat × Int × Int) (rn : List (Option Nat)), (bZ.l0 y.1 a0 y.2.1 y.2.2 = some r ∧ y.1 < k + 1) ∧ y.1 < k0 ∧ cJ σ σ' [] [(4, .int .i64 y.2.1), (26, .int .i64 y.2.2)] [] [] rn | e => Q e σ'))) : Lp F hv Q σ := by
  unfold Lp
  refine ⟨Nat × Int × Int, fun x => bZ.l0 x.1 a0 x.2.1 x.2.2 = some r ∧ x.1 < k + 1, fun x => x.1, [], fun x => [(4, .int .i64 x.2.1), (26, .int .i64 x.2.2)], fun x => [], fun x => [], ⟨(k, x4, x26), rn, ⟨H, Nat.lt_succ_self _⟩, h1⟩, ?_⟩
  rintro ⟨k, x4, x26⟩ ⟨H, hk⟩
  exact h2 k x4 x26 hk H
theorem bZ.l1_lp {F : (Exit → St → Prop) → St → Prop} {hv : List Tmp} {Q : Exit → St → Prop} {σ : St} {r : Int × Bool} {k : Nat} {a0 : ByteArray} {x4_1 : Int} {x26_1 : Int} (H : bZ.l1 k a0 x4_1 x26_1 = some r) (rn : List (Option Nat)) (h1 : cJ σ σ [] [(4, .int .i64 x4_1), (26, .int .i64 x26_1)] [] [] rn)
    (h2 : ∀ (k0 : Nat) (x4_1 : Int) (x26_1 : Int), k0 < k + 1 → bZ.l1 k0 a0 x4_1 x26_1 = some r → dE σ hv [] [(4, .int .i64 x4_1), (26, .int .i64 x26_1)] [] [] (F (fun e σ' => match e with | .normal => ∃ (y : Nat × Int × Int) (rn : List (Option Nat)), (bZ.l1 y.1 a0 y.2.1 y.2.2 = some r ∧ y.1 < k + 1) ∧ y.1 < k0 ∧ cJ σ σ' [] [(4, .int .i64 y.2.1), (26, .int .i64 y.2.2)] [] [] rn | e => Q e σ'))) : Lp F hv Q σ := by
  unfold Lp
  refine ⟨Nat × Int × Int, fun x => bZ.l1 x.1 a0 x.2.1 x.2.2 = some r ∧ x.1 < k + 1, fun x => x.1, [], fun x => [(4, .int .i64 x.2.1), (26, .int .i64 x.2.2)], fun x => [], fun x => [], ⟨(k, x4_1, x26_1), rn, ⟨H, Nat.lt_succ_self _⟩, h1⟩, ?_⟩
  rintro ⟨k, x4_1, x26_1⟩ ⟨H, hk⟩
  exact h2 k x4_1 x26_1 hk H
theorem bZ.ac {k : Nat} {a0 : ByteArray} {r : Int × Bool} (H : bZ.f k a0 = some r) : cI Tryz.prog G 58 [] [.str a0] [] (.tup [.int .i64 r.1, .bool r.2]) := by
  refine bO tok hP Tryz.func58 rfl (by kernel_rfl) [.tmp 2, .tmp 3] rfl (by kernel_rfl) (Nat.le_of_ble_eq_true rfl) (.l .n (.l (.c .n (.l (.c .n .n) .n)) (.l .n (.l (.l .n (.l .n (.l .n (.l (.l .n (.l (.c .n (.l (.c .n .n) .n)) .n)) .n)))) .n)))) rfl ?_
  unfold bZ.f at H
  refine bM H (fun c H => ?_) (fun c H => ?_)
  refine Br.t ft_ (Br.t ft_ (Br.t ft_ (Br.t rfl (Br.t rfl (Br.t rfl (Br.t rfl (Br.t rfl (Br.t rfl (cu 160 [(0, .str a0), (23, .bool true)] [] rfl rfl rfl (Br.t rfl (cu 176 [(2, .int .i64 0), (3, .bool false)] [] rfl rfl rfl ?_)))))))))))
  cases H
  exact rts rfl
  refine Br.f ff_ (Br.f ff_ (Br.f ff_ (bM H (fun c H => ?_) (fun c H => ?_))))
  refine Br.t ft_ (Br.t ft_ (Br.t ft_ (Br.t ft_ (Br.t ft_ (cu 160 [(0, .str a0), (23, .bool true)] [] rfl rfl rfl (Br.t rfl (cu 176 [(2, .int .i64 0), (3, .bool false)] [] rfl rfl rfl ?_)))))))
  cases H
  exact rts rfl
  refine Br.f ff_ (Br.f ff_ (Br.f ff_ (bM H (fun c H => ?_) (fun c H => ?_))))
  refine Br.t ft_ (Nd.mk (by decide) (nd_ H (fun c H => (Br.t ft_ (Br.f ff_ (Br.t ft_ (Br.f ff_ (cu 160 [(0, .str a0), (23, .bool (decide ((bt a0 0) = 48)))] [] rfl rfl rfl (bM H (fun c H => ?_) (fun c H => ?_))))))))))
  refine cu 176 [(2, .int .i64 0), (3, .bool false)] [] rfl rfl rfl ?_
  cases H
  exact rts rfl
  refine bZ.l0_lp (a0 := a0) (k := k) H [] (fq rfl rfl fi_ rfl) ?_
  intro k x4 x26 hk H; rcases k with _ | k; exact bC H; rw [bZ.l0] at H
  refine bM H (fun c H => ?_) (fun c H => ?_)
  refine nd_ H (fun c H => (Nd.mk nf_ (bM H (fun c H => ?_) (fun c H => ?_))))
  refine Br.t ft_ (Br.t ft_ (Br.t ft_ (Br.t ft_ (cu 296 [(0, .str a0), (4, .int .i64 x4), (5, .int .i64 x26), (25, .int .i64 (a0.size : Int)), (26, .int .i64 x26), (38, .bool true)] [] rfl rfl rfl (Br.t rfl (cu 312 [(2, .int .i64 0), (3, .bool false)] [] rfl rfl rfl ?_))))))
  cases H
  exact rts rfl
  refine Br.f ff_ (Br.f ff_ (Nd.mk nf_ (Nd.mk nf_ (Br.f ff_ (Br.f ff_ (cu 296 [(0, .str a0), (4, .int .i64 x4), (5, .int .i64 x26), (25, .int .i64 (a0.size : Int)), (26, .int .i64 x26), (38, .bool (decide ((bt a0 x26) > 57)))] [] rfl rfl rfl (bM H (fun c H => ?_) (fun c H => ?_))))))))
  refine cu 312 [(2, .int .i64 0), (3, .bool false)] [] rfl rfl rfl ?_
  cases H
  exact rts rfl
  refine Nd.mk nf_ (Nd.mk nf_ (⟨(k, wrap64 ((wrap64 (10 * x4)) + (wrap64 (IntKind.wrap .u8 ((bt a0 x26) - 48)))), wrap64 (x26 + 1)), [], ⟨H, lt_⟩, lt_, (fq rfl rfl fi_ rfl)⟩))
  cases H
  exact rts rfl
  refine Br.f ff_ (Br.f ff_ (Br.f ff_ (Br.f ff_ (Br.f ff_ (cu 160 [(0, .str a0), (23, .bool false)] [] rfl rfl rfl (Br.f rfl (bZ.l1_lp (a0 := a0) (k := k) H [] (fq rfl rfl fi_ rfl) ?_)))))))
  intro k x4_1 x26_1 hk H; rcases k with _ | k; exact bC H; rw [bZ.l1] at H
  refine bM H (fun c H => ?_) (fun c H => ?_)
  refine nd_ H (fun c H => (Nd.mk nf_ (bM H (fun c H => ?_) (fun c H => ?_))))
  refine Br.t ft_ (Br.t ft_ (Br.t ft_ (Br.t ft_ (cu 296 [(0, .str a0), (4, .int .i64 x4_1), (5, .int .i64 x26_1), (25, .int .i64 (a0.size : Int)), (26, .int .i64 x26_1), (38, .bool true)] [] rfl rfl rfl (Br.t rfl (cu 312 [(2, .int .i64 0), (3, .bool false)] [] rfl rfl rfl ?_))))))
  cases H
  exact rts rfl
  refine Br.f ff_ (Br.f ff_ (Nd.mk nf_ (Nd.mk nf_ (Br.f ff_ (Br.f ff_ (cu 296 [(0, .str a0), (4, .int .i64 x4_1), (5, .int .i64 x26_1), (25, .int .i64 (a0.size : Int)), (26, .int .i64 x26_1), (38, .bool (decide ((bt a0 x26_1) > 57)))] [] rfl rfl rfl (bM H (fun c H => ?_) (fun c H => ?_))))))))
  refine cu 312 [(2, .int .i64 0), (3, .bool false)] [] rfl rfl rfl ?_
  cases H
  exact rts rfl
  refine Nd.mk nf_ (Nd.mk nf_ (⟨(k, wrap64 ((wrap64 (10 * x4_1)) + (wrap64 (IntKind.wrap .u8 ((bt a0 x26_1) - 48)))), wrap64 (x26_1 + 1)), [], ⟨H, lt_⟩, lt_, (fq rfl rfl fi_ rfl)⟩))
  cases H
  exact rts rfl
end Go.Proofs.YtnobkcplpbkigaaGreatDoor.VP
namespace Go.Proofs
open Go.Shelf Go.Sort Go.RowKit in
shelf_lay Lays.n192 Nm 192 at Tryz as Tryz.gx192
end Go.Proofs
namespace Go.Proofs.YtnobkcplpbkigaaGreatDoor.VP
open Go Go.Aw Go.RowKit Go.Proofs
set_option maxRecDepth 100000
set_option maxHeartbeats 40000000
variable {G : Nat → Option Obj}
attribute [local irreducible] jK Lp Sq Cut kR kJ cJ
theorem sort_Strings.ac {l0 : List ByteArray} {r : List ByteArray} (H : sort_Strings.f l0 = some r) : cI Tryz.prog G 76 [.arr 9 1 (l0.map aW)] [.own 0 l0.length] [.arr 9 1 (r.map aW)] .und := by
  exact wS Tryz.gx192 ⟨_, Tryz.func76, by kernel_rfl, by kernel_rfl⟩ G 9 rfl H (fun _ => rfl)
theorem eD.l0_lpO {F : (Exit → St → Prop) → St → Prop} {hv : List Tmp} {Q : Exit → St → Prop} {σ : St} {r : List ByteArray} {k : Nat} {l0 : List ByteArray} {l1 : List ByteArray} {x5 : List ByteArray} {x12 : Int} (H : eD.l0 k l0 l1 x5 x12 = some r) (rn : List (Option Nat)) (h1 : cJ σ σ [16] [(5, .own 0 x5.length), (12, .int .i64 x12)] [] [.arr 9 1 (x5.map aW)] rn)
    (h2 : ∀ (k0 : Nat) (x5 : List ByteArray) (x12 : Int), k0 < k + 1 → eD.l0 k0 l0 l1 x5 x12 = some r → dE σ hv [16] [(5, .own 0 x5.length), (12, .int .i64 x12)] [] [.arr 9 1 (x5.map aW)] (F (fun e σ' => match e with | .normal => ∃ (y : Nat × (List ByteArray) × Int) (rn : List (Option Nat)), (eD.l0 y.1 l0 l1 y.2.1 y.2.2 = some r ∧ y.1 < k + 1) ∧ y.1 < k0 ∧ cJ σ σ' [16] [(5, .own 0 y.2.1.length), (12, .int .i64 y.2.2)] [] [.arr 9 1 (y.2.1.map aW)] rn | e => Q e σ'))) : Lp F hv Q σ := by
  unfold Lp
  refine ⟨Nat × (List ByteArray) × Int, fun x => eD.l0 x.1 l0 l1 x.2.1 x.2.2 = some r ∧ x.1 < k + 1, fun x => x.1, [16], fun x => [(5, .own 0 x.2.1.length), (12, .int .i64 x.2.2)], fun x => [], fun x => [.arr 9 1 (x.2.1.map aW)], ⟨(k, x5, x12), rn, ⟨H, Nat.lt_succ_self _⟩, h1⟩, ?_⟩
  rintro ⟨k, x5, x12⟩ ⟨H, hk⟩
  exact h2 k x5 x12 hk H
theorem eD.acO {k : Nat} {l0 : List ByteArray} {l1 : List ByteArray} {r : List ByteArray} (H : eD.f k l0 l1 = some r) : cI Tryz.prog G 59 [] [(aM l0), (aM l1)] [.arr 9 1 (r.map aW)] (.own 0 r.length) := by
  refine bO tok hP Tryz.func59 rfl (by kernel_rfl) [.tmp 4] rfl (by kernel_rfl) (Nat.le_of_ble_eq_true rfl) (.l .n (.l .n (.l (.l .n (.l .n (.l .n (.l (.c .n .n) .n)))) (.c .n .n)))) rfl ?_
  unfold eD.f at H
  refine nd_ H (fun c H => (eD.l0_lpO (l0 := l0) (l1 := l1) (k := k) H [some 16] (bX ⟨gA lm_, ⟨.inl ⟨rfl, rfl⟩, trivial⟩⟩ ⟨fm_, trivial⟩ fi_ trivial rfl) ?_))
  intro k x5 x12 hk H; rcases k with _ | k; exact bC H; rw [eD.l0] at H
  refine bM H (fun c H => ?_) (fun c H => ?_)
  refine nd_ H (fun c H => (Nd.mk nf_ (El.mk (aX _ _ nf_ nf_) (cu 89 [(5, .own 56 x5.length), (7, .str (aV ByteArray.empty l1 x12)), (10, (aM l1)), (11, .int .i64 (l1.length : Int)), (12, .int .i64 x12)] [(56, .arr 9 1 (x5.map aW))] rfl rfl rfl ?_))))
  revert H; refine aN (fun t9540 A H => (eL (fT.ac A) (bT (oA rfl rfl) (bT (gD rfl) (eA))) (Or.inr ⟨rfl, kO⟩) rfl rfl (Nat.le_of_ble_eq_true rfl) (dM H (fun c H => ?_) (fun c H => ?_))))
  exact ⟨(k, x5, wrap64 (x12 + 1)), [some 56], ⟨H, lt_⟩, lt_, (bX ⟨rfl, ⟨.inl ⟨rfl, rfl⟩, trivial⟩⟩ ⟨rfl, trivial⟩ fi_ trivial rfl)⟩
  refine Or.inl (nd_ H (fun c H => (⟨(k, (x5 ++ ([aV ByteArray.empty l1 x12] : List ByteArray)), wrap64 (x12 + 1)), [some 145], ⟨H, lt_⟩, lt_, (bX ⟨gA lm_, ⟨.inl ⟨rfl, rfl⟩, trivial⟩⟩ ⟨fm_, trivial⟩ fi_ trivial rfl)⟩)))
  revert H; refine aN (fun t9542 A H => (bW [56] (sort_Strings.ac A) ⟨rfl, trivial⟩ rfl rfl rfl rfl rfl rfl rfl rfl ?_))
  have Lt9542 := aCJ A
  refine cu 81 [(5, .own 56 x5.length)] [(56, .arr 9 1 (t9542.map aW))] rfl rfl rfl ?_
  cases H
  exact fO [some 56] [] ((gA lm_)) ⟨rfl, trivial⟩ rfl
theorem eH.l0_lp {F : (Exit → St → Prop) → St → Prop} {hv : List Tmp} {Q : Exit → St → Prop} {σ : St} {r : Bool} {k : Nat} {l0 : List bR} {a1 : ByteArray} {a2 : ByteArray} {x11 : Int} (H : eH.l0 k l0 a1 a2 x11 = some r) (rn : List (Option Nat)) (h1 : cJ σ σ [] [(11, .int .i64 x11)] [] [] rn)
    (h2 : ∀ (k0 : Nat) (x11 : Int), k0 < k + 1 → eH.l0 k0 l0 a1 a2 x11 = some r → dE σ hv [] [(11, .int .i64 x11)] [] [] (F (fun e σ' => match e with | .normal => ∃ (y : Nat × Int) (rn : List (Option Nat)), (eH.l0 y.1 l0 a1 a2 y.2 = some r ∧ y.1 < k + 1) ∧ y.1 < k0 ∧ cJ σ σ' [] [(11, .int .i64 y.2)] [] [] rn | e => Q e σ'))) : Lp F hv Q σ := by
  unfold Lp
  refine ⟨Nat × Int, fun x => eH.l0 x.1 l0 a1 a2 x.2 = some r ∧ x.1 < k + 1, fun x => x.1, [], fun x => [(11, .int .i64 x.2)], fun x => [], fun x => [], ⟨(k, x11), rn, ⟨H, Nat.lt_succ_self _⟩, h1⟩, ?_⟩
  rintro ⟨k, x11⟩ ⟨H, hk⟩
  exact h2 k x11 hk H
theorem eH.ac {k : Nat} {l0 : List bR} {a1 : ByteArray} {a2 : ByteArray} {r : Bool} (H : eH.f k l0 a1 a2 = some r) : cI Tryz.prog G 36 [] [(cZ l0), .str a1, .str a2] [] (.bool r) := by
  refine bO tok hP Tryz.func36 rfl (by kernel_rfl) [.tmp 6] rfl (by kernel_rfl) (Nat.le_of_ble_eq_true rfl) (.l .n (.l (.l .n (.l .n (.l .n (.l (.l .n (.c .n (.l (.c .n .n) .n))) .n)))) .n)) rfl ?_
  unfold eH.f at H
  refine eH.l0_lp (l0 := l0) (a1 := a1) (a2 := a2) (k := k) H [] (fq rfl rfl fi_ rfl) ?_
  intro k x11 hk H; rcases k with _ | k; exact bC H; rw [eH.l0] at H
  refine bM H (fun c H => ?_) (fun c H => ?_)
  refine nd_ H (fun c H => (Nd.mk nf_ (El.mk (gE _ _ nf_ nf_) (jF H (fun c H => ?_) (fun c H => ?_)))))
  refine Br.t ft_ (Br.t ft_ (Br.t ft_ (Br.t ft_ (Br.t ft_ (cu 168 [(1, .str a1), (2, .str a2), (9, (cZ l0)), (10, .int .i64 (l0.length : Int)), (11, .int .i64 x11), (26, .bool true)] [] rfl rfl rfl (Br.t rfl (cu 176 [(6, .bool true)] [] rfl rfl rfl ?_)))))))
  cases H
  exact rz rfl
  refine Br.f ff_ (Br.f ff_ (Br.f ff_ (Br.f ff_ (Br.f ff_ (cu 168 [(1, .str a1), (2, .str a2), (9, (cZ l0)), (10, .int .i64 (l0.length : Int)), (11, .int .i64 x11), (26, .bool (decide (((cH l0 x11).f0).toList = a2.toList) && (decide (((cH l0 x11).f1).toList = a1.toList) && true)))] [] rfl rfl rfl (jF H (fun c H => ?_) (fun c H => ?_)))))))
  refine cu 176 [(6, .bool true)] [] rfl rfl rfl ?_
  cases H
  exact rz rfl
  exact ⟨(k, wrap64 (x11 + 1)), [], ⟨H, lt_⟩, lt_, (fq rfl rfl fi_ rfl)⟩
  cases H
  exact rz rfl
end Go.Proofs.YtnobkcplpbkigaaGreatDoor.VP
namespace Go.Proofs
open Go.Shelf Go.Sort Go.RowKit in
shelf_lay LaysGg.n6 Ggs 6 at Tryz as Tryz.gx6
end Go.Proofs
namespace Go.Proofs.YtnobkcplpbkigaaGreatDoor.VP
open Go Go.Aw Go.RowKit Go.Proofs
set_option maxRecDepth 100000
set_option maxHeartbeats 40000000
variable {G : Nat → Option Obj}
attribute [local irreducible] jK Lp Sq Cut kR kJ cJ
theorem dB.less (gb c Bs Pb size : Nat) (W : World) (F0 F1 : Nat → ByteArray) (hb : W.cell? ⟨Bs, 0, none⟩ = some (.pointer (some ⟨Pb, 0, none⟩))) (hp : W.cell? ⟨Pb, 1, none⟩ = some (.slice (some ⟨gb, 0, none⟩) size c))
    (hc0 : ∀ t, t < size → W.cell? ⟨gb, t * 2, none⟩ = some (.string (F0 t))) (hc1 : ∀ t, t < size → W.cell? ⟨gb, t * 2 + 1, none⟩ = some (.string (F1 t))) (hsz : size < 4611686018427387904) (i j : Nat) (hi : i < size) (hj : j < size) :
    Calls Tryz.prog 61 #[.int .i64 i, .int .i64 j, .pointer (some ⟨Bs, 0, none⟩)] W fun e w' => e = .returned (.bool ((Op.bytesLess (F0 i).toList (F0 j).toList || ((F0 i).toList == (F0 j).toList && Op.bytesLess (F1 i).toList (F1 j).toList)))) ∧ ∃ q, w' = W.drewN q := by
  have ci0 := hc0 i hi
  have cj0 := hc0 j hj
  generalize F0 i = x0 at ci0 ⊢
  generalize F0 j = y0 at cj0 ⊢
  have ci1 := hc1 i hi
  have cj1 := hc1 j hj
  generalize F1 i = x1 at ci1 ⊢
  generalize F1 j = y1 at cj1 ⊢
  clear hc0 hc1
  cases h1 : Op.bytesLess x0.toList y0.toList <;> cases h2 : (x0.toList == y0.toList) <;> cases h3 : Op.bytesLess x1.toList y1.toList
  all_goals (
    go_enter Tryz.func61, Tryz.ntmps61
    go_wp2
    go_quiet (fail)
    go_wp2
    go_ret
    exact ⟨rfl, nq, rfl⟩)
noncomputable def dB.ti : TypeInfo := (Tryz.prog.info? 24).get (by kernel_rfl)
noncomputable def dB.te : TypeInfo := (Tryz.prog.info? 47).get (by kernel_rfl)
theorem dB.sw (n : Nat) (h2 : 2 ≤ n) : Lib.swapperK n dB.te 25 = 9 := by
  have a : dB.te.hasPointers = true := by kernel_rfl
  have b : (dB.te.bytes == 8) = false := by kernel_rfl
  have c : (n == 0) = false := by simp; omega
  have d : (n == 1) = false := by simp; omega
  simp [Lib.swapperK, a, b, c, d]
theorem dB.ac {l r : List aC} {x0 : List ByteArray} {x1 : List aB} {x2 : List aA} (H : dB.f l = some r) : kX Tryz.prog G 60 6 [.arr 47 2 (l.map aJ), .box [.bp 2 0], .box [.own 3 x0.length, .own 0 l.length, .own 4 x1.length, .own 5 x2.length], .arr 9 1 (x0.map aW), .arr 49 3 (x1.map aH), .arr 52 4 (x2.map aG)] [.ifs 24 0 l.length, .cf 61 1] [.arr 47 2 (r.map aJ), .box [.bp 2 0], .box [.own 3 x0.length, .own 0 r.length, .own 4 x1.length, .own 5 x2.length], .arr 9 1 (x0.map aW), .arr 49 3 (x1.map aH), .arr 52 4 (x2.map aG)] .und := by
  obtain ⟨hl, rfl⟩ := yY H
  have e := (kY (vW aC.f0 aC.f1) l).1
  have h := qM (xs := l) (rest := [.arr 9 1 (x0.map aW), .arr 49 3 (x1.map aH), .arr 52 4 (x2.map aG)]) (cs := [.own 3 x0.length, .own 0 l.length, .own 4 x1.length, .own 5 x2.length]) Tryz.gx6 (n := 60) ⟨_, Tryz.func60, by kernel_rfl, by kernel_rfl⟩ rfl G 24 47 dB.ti dB.te (by kernel_rfl) (by kernel_rfl) (by kernel_rfl) (by kernel_rfl) 25 (fun _ => by kernel_rfl)
    (fun m hm => by
      rcases m with _ | _ | m
      · exact ⟨94, by kernel_rfl⟩
      · exact ⟨95, by kernel_rfl⟩
      · omega)
    (fun m hm => ⟨102, false, by rw [dB.sw m hm]; kernel_rfl, fun args W => run_callFunc_extern Tryz.func102 (by kernel_rfl) (by kernel_rfl) (by kernel_rfl) (e := Extern.ReflectliteSwapper.swap false) (by kernel_rfl) args W⟩)
    aJ 2 (fun _ => rfl) (fun _ => rfl) (by kernel_rfl) (fun _ => by kernel_rfl) (qF aC.f0 aC.f1) (vW aC.f0 aC.f1) 61 (enters_of Tryz.func61 (by kernel_rfl) rfl) 1
    (fun gb c Bs Pb size W F hb hp hc hsz i j hi hj => dB.less gb c Bs Pb size W (fun t => (F t).f0) (fun t => (F t).f1) hb hp (fun t ht => hc t ht 0 _ rfl) (fun t ht => hc t ht 1 _ rfl) hsz i j hi hj) hl rfl
  rw [e]; exact h
theorem cU.less (gb c Bs Pb size : Nat) (W : World) (F0 : Nat → ByteArray) (hb : W.cell? ⟨Bs, 0, none⟩ = some (.pointer (some ⟨Pb, 0, none⟩))) (hp : W.cell? ⟨Pb, 2, none⟩ = some (.slice (some ⟨gb, 0, none⟩) size c))
    (hc0 : ∀ t, t < size → W.cell? ⟨gb, t * 3, none⟩ = some (.string (F0 t))) (hsz : size < 4611686018427387904) (i j : Nat) (hi : i < size) (hj : j < size) :
    Calls Tryz.prog 62 #[.int .i64 i, .int .i64 j, .pointer (some ⟨Bs, 0, none⟩)] W fun e w' => e = .returned (.bool (Op.bytesLess (F0 i).toList (F0 j).toList)) ∧ ∃ q, w' = W.drewN q := by
  have ci0 := hc0 i hi
  have cj0 := hc0 j hj
  generalize F0 i = x0 at ci0 ⊢
  generalize F0 j = y0 at cj0 ⊢
  clear hc0
  all_goals (
    go_enter Tryz.func62, Tryz.ntmps62
    go_wp2
    go_quiet (fail)
    go_wp2
    go_ret
    exact ⟨rfl, nq, rfl⟩)
noncomputable def cU.ti : TypeInfo := (Tryz.prog.info? 25).get (by kernel_rfl)
noncomputable def cU.te : TypeInfo := (Tryz.prog.info? 49).get (by kernel_rfl)
theorem cU.sw (n : Nat) (h2 : 2 ≤ n) : Lib.swapperK n cU.te 25 = 9 := by
  have a : cU.te.hasPointers = true := by kernel_rfl
  have b : (cU.te.bytes == 8) = false := by kernel_rfl
  have c : (n == 0) = false := by simp; omega
  have d : (n == 1) = false := by simp; omega
  simp [Lib.swapperK, a, b, c, d]
theorem cU.ac {l r : List aB} {x0 : List ByteArray} {x1 : List aC} {x2 : List aA} (H : cU.f l = some r) : kX Tryz.prog G 60 6 [.arr 49 3 (l.map aH), .box [.bp 2 0], .box [.own 3 x0.length, .own 4 x1.length, .own 0 l.length, .own 5 x2.length], .arr 9 1 (x0.map aW), .arr 47 2 (x1.map aJ), .arr 52 4 (x2.map aG)] [.ifs 25 0 l.length, .cf 62 1] [.arr 49 3 (r.map aH), .box [.bp 2 0], .box [.own 3 x0.length, .own 4 x1.length, .own 0 r.length, .own 5 x2.length], .arr 9 1 (x0.map aW), .arr 47 2 (x1.map aJ), .arr 52 4 (x2.map aG)] .und := by
  obtain ⟨hl, rfl⟩ := yY H
  have e := (kY (qV aB.f0) l).1
  have h := qM (xs := l) (rest := [.arr 9 1 (x0.map aW), .arr 47 2 (x1.map aJ), .arr 52 4 (x2.map aG)]) (cs := [.own 3 x0.length, .own 4 x1.length, .own 0 l.length, .own 5 x2.length]) Tryz.gx6 (n := 60) ⟨_, Tryz.func60, by kernel_rfl, by kernel_rfl⟩ rfl G 25 49 cU.ti cU.te (by kernel_rfl) (by kernel_rfl) (by kernel_rfl) (by kernel_rfl) 25 (fun _ => by kernel_rfl)
    (fun m hm => by
      rcases m with _ | _ | m
      · exact ⟨94, by kernel_rfl⟩
      · exact ⟨95, by kernel_rfl⟩
      · omega)
    (fun m hm => ⟨102, false, by rw [cU.sw m hm]; kernel_rfl, fun args W => run_callFunc_extern Tryz.func102 (by kernel_rfl) (by kernel_rfl) (by kernel_rfl) (e := Extern.ReflectliteSwapper.swap false) (by kernel_rfl) args W⟩)
    aH 3 (fun _ => rfl) (fun _ => rfl) (by kernel_rfl) (fun _ => by kernel_rfl) (zK aB.f0) (qV aB.f0) 62 (enters_of Tryz.func62 (by kernel_rfl) rfl) 2
    (fun gb c Bs Pb size W F hb hp hc hsz i j hi hj => cU.less gb c Bs Pb size W (fun t => (F t).f0) hb hp (fun t ht => hc t ht 0 _ rfl) hsz i j hi hj) hl rfl
  rw [e]; exact h
theorem cM.l0_lp {F : (Exit → St → Prop) → St → Prop} {hv : List Tmp} {Q : Exit → St → Prop} {σ : St} {r : ByteArray × ByteArray × ByteArray × ByteArray × Bool} {k : Nat} {a0_3 : List aA} {a1 : ByteArray} {x11 : Int} (H : cM.l0 k a0_3 a1 x11 = some r) (rn : List (Option Nat)) (h1 : cJ σ σ [0] [(11, .int .i64 x11)] [] [] rn)
    (h2 : ∀ (k0 : Nat) (x11 : Int), k0 < k + 1 → cM.l0 k0 a0_3 a1 x11 = some r → dE σ hv [0] [(11, .int .i64 x11)] [] [] (F (fun e σ' => match e with | .normal => ∃ (y : Nat × Int) (rn : List (Option Nat)), (cM.l0 y.1 a0_3 a1 y.2 = some r ∧ y.1 < k + 1) ∧ y.1 < k0 ∧ cJ σ σ' [0] [(11, .int .i64 y.2)] [] [] rn | e => Q e σ'))) : Lp F hv Q σ := by
  unfold Lp
  refine ⟨Nat × Int, fun x => cM.l0 x.1 a0_3 a1 x.2 = some r ∧ x.1 < k + 1, fun x => x.1, [0], fun x => [(11, .int .i64 x.2)], fun x => [], fun x => [], ⟨(k, x11), rn, ⟨H, Nat.lt_succ_self _⟩, h1⟩, ?_⟩
  rintro ⟨k, x11⟩ ⟨H, hk⟩
  exact h2 k x11 hk H
theorem cM.ac {k : Nat} {a0_0 : List ByteArray} {a0_1 : List aC} {a0_2 : List aB} {a0_3 : List aA} {a1 : ByteArray} {r : ByteArray × ByteArray × ByteArray × ByteArray × Bool} (H : cM.f k a0_0 a0_1 a0_2 a0_3 a1 = some r) : cI Tryz.prog G 63 [] [.agg [(aM a0_0), (aF a0_1), (aD a0_2), (aE a0_3)], .str a1] [] (.tup [.agg [.str r.1, .str r.2.1, .str r.2.2.1, .str r.2.2.2.1], .bool r.2.2.2.2]) := by
  refine bO tok hP Tryz.func63 rfl (by kernel_rfl) [.cell 4 52, .tmp 5] rfl (by kernel_rfl) (Nat.le_of_ble_eq_true rfl) (.l .n (.l (.l .n (.l .n (.l .n (.l (.c .n .n) .n)))) (.c .n .n))) rfl ?_
  unfold cM.f at H
  refine cM.l0_lp (a0_3 := a0_3) (a1 := a1) (k := k) H [] (fq rfl rfl fi_ rfl) ?_
  intro k x11 hk H; rcases k with _ | k; exact bC H; rw [cM.l0] at H
  refine bM H (fun c H => ?_) (fun c H => ?_)
  refine nd_ H (fun c H => (Nd.mk nf_ (El.mk (bQ _ _ nf_ nf_) (cu 96 [(1, .str a1), (4, .bp 8 0), (7, .bp 80 0), (9, (aE a0_3)), (10, .int .i64 (a0_3.length : Int)), (11, .int .i64 x11)] [(8, .box [.str (⟨#[]⟩ : ByteArray), .str (⟨#[]⟩ : ByteArray), .str (⟨#[]⟩ : ByteArray), .str (⟨#[]⟩ : ByteArray)]), (80, .box [.str ((aI a0_3 x11).f0), .str ((aI a0_3 x11).f1), .str ((aI a0_3 x11).f2), .str ((aI a0_3 x11).f3)])] rfl rfl rfl (bM H (fun c H => ?_) (fun c H => ?_))))))
  cases H
  exact rts rfl
  exact ⟨(k, wrap64 (x11 + 1)), [], ⟨H, lt_⟩, lt_, (fq rfl rfl fi_ rfl)⟩
  refine cu 88 [(4, .bp 8 0), (5, .bool false)] [(8, .box [.str (⟨#[]⟩ : ByteArray), .str (⟨#[]⟩ : ByteArray), .str (⟨#[]⟩ : ByteArray), .str (⟨#[]⟩ : ByteArray)])] rfl rfl rfl ?_
  cases H
  exact rts rfl
theorem dA.less (gb c Bs Pb size : Nat) (W : World) (F0 : Nat → ByteArray) (hb : W.cell? ⟨Bs, 0, none⟩ = some (.pointer (some ⟨Pb, 0, none⟩))) (hp : W.cell? ⟨Pb, 3, none⟩ = some (.slice (some ⟨gb, 0, none⟩) size c))
    (hc0 : ∀ t, t < size → W.cell? ⟨gb, t * 4, none⟩ = some (.string (F0 t))) (hsz : size < 4611686018427387904) (i j : Nat) (hi : i < size) (hj : j < size) :
    Calls Tryz.prog 64 #[.int .i64 i, .int .i64 j, .pointer (some ⟨Bs, 0, none⟩)] W fun e w' => e = .returned (.bool (Op.bytesLess (F0 i).toList (F0 j).toList)) ∧ ∃ q, w' = W.drewN q := by
  have ci0 := hc0 i hi
  have cj0 := hc0 j hj
  generalize F0 i = x0 at ci0 ⊢
  generalize F0 j = y0 at cj0 ⊢
  clear hc0
  all_goals (
    go_enter Tryz.func64, Tryz.ntmps64
    go_wp2
    go_quiet (fail)
    go_wp2
    go_ret
    exact ⟨rfl, nq, rfl⟩)
noncomputable def dA.ti : TypeInfo := (Tryz.prog.info? 26).get (by kernel_rfl)
noncomputable def dA.te : TypeInfo := (Tryz.prog.info? 52).get (by kernel_rfl)
theorem dA.sw (n : Nat) (h2 : 2 ≤ n) : Lib.swapperK n dA.te 25 = 9 := by
  have a : dA.te.hasPointers = true := by kernel_rfl
  have b : (dA.te.bytes == 8) = false := by kernel_rfl
  have c : (n == 0) = false := by simp; omega
  have d : (n == 1) = false := by simp; omega
  simp [Lib.swapperK, a, b, c, d]
theorem dA.ac {l r : List aA} {x0 : List ByteArray} {x1 : List aC} {x2 : List aB} (H : dA.f l = some r) : kX Tryz.prog G 60 6 [.arr 52 4 (l.map aG), .box [.bp 2 0], .box [.own 3 x0.length, .own 4 x1.length, .own 5 x2.length, .own 0 l.length], .arr 9 1 (x0.map aW), .arr 47 2 (x1.map aJ), .arr 49 3 (x2.map aH)] [.ifs 26 0 l.length, .cf 64 1] [.arr 52 4 (r.map aG), .box [.bp 2 0], .box [.own 3 x0.length, .own 4 x1.length, .own 5 x2.length, .own 0 r.length], .arr 9 1 (x0.map aW), .arr 47 2 (x1.map aJ), .arr 49 3 (x2.map aH)] .und := by
  obtain ⟨hl, rfl⟩ := yY H
  have e := (kY (qV aA.f0) l).1
  have h := qM (xs := l) (rest := [.arr 9 1 (x0.map aW), .arr 47 2 (x1.map aJ), .arr 49 3 (x2.map aH)]) (cs := [.own 3 x0.length, .own 4 x1.length, .own 5 x2.length, .own 0 l.length]) Tryz.gx6 (n := 60) ⟨_, Tryz.func60, by kernel_rfl, by kernel_rfl⟩ rfl G 26 52 dA.ti dA.te (by kernel_rfl) (by kernel_rfl) (by kernel_rfl) (by kernel_rfl) 25 (fun _ => by kernel_rfl)
    (fun m hm => by
      rcases m with _ | _ | m
      · exact ⟨94, by kernel_rfl⟩
      · exact ⟨95, by kernel_rfl⟩
      · omega)
    (fun m hm => ⟨102, false, by rw [dA.sw m hm]; kernel_rfl, fun args W => run_callFunc_extern Tryz.func102 (by kernel_rfl) (by kernel_rfl) (by kernel_rfl) (e := Extern.ReflectliteSwapper.swap false) (by kernel_rfl) args W⟩)
    aG 4 (fun _ => rfl) (fun _ => rfl) (by kernel_rfl) (fun _ => by kernel_rfl) (zK aA.f0) (qV aA.f0) 64 (enters_of Tryz.func64 (by kernel_rfl) rfl) 3
    (fun gb c Bs Pb size W F hb hp hc hsz i j hi hj => dA.less gb c Bs Pb size W (fun t => (F t).f0) hb hp (fun t ht => hc t ht 0 _ rfl) hsz i j hi hj) hl rfl
  rw [e]; exact h
theorem cY.l0_lp {F : (Exit → St → Prop) → St → Prop} {hv : List Tmp} {Q : Exit → St → Prop} {σ : St} {r : Int × (List ByteArray) × (List aC) × (List aB) × (List aA)} {k : Nat} {a0_0 : List ByteArray} {a0_1 : List aC} {a0_2 : List aB} {a0_3 : List aA} {l1 : List ByteArray} {x7 : Int} {x42 : Int} (H : cY.l0 k a0_0 a0_1 a0_2 a0_3 l1 x7 x42 = some r) (rn : List (Option Nat)) (h1 : cJ σ σ [] [(7, .int .i64 x7), (42, .int .i64 x42)] [] [] rn)
    (h2 : ∀ (k0 : Nat) (x7 : Int) (x42 : Int), k0 < k + 1 → cY.l0 k0 a0_0 a0_1 a0_2 a0_3 l1 x7 x42 = some r → dE σ hv [] [(7, .int .i64 x7), (42, .int .i64 x42)] [] [] (F (fun e σ' => match e with | .normal => ∃ (y : Nat × Int × Int) (rn : List (Option Nat)), (cY.l0 y.1 a0_0 a0_1 a0_2 a0_3 l1 y.2.1 y.2.2 = some r ∧ y.1 < k + 1) ∧ y.1 < k0 ∧ cJ σ σ' [] [(7, .int .i64 y.2.1), (42, .int .i64 y.2.2)] [] [] rn | e => Q e σ'))) : Lp F hv Q σ := by
  unfold Lp
  refine ⟨Nat × Int × Int, fun x => cY.l0 x.1 a0_0 a0_1 a0_2 a0_3 l1 x.2.1 x.2.2 = some r ∧ x.1 < k + 1, fun x => x.1, [], fun x => [(7, .int .i64 x.2.1), (42, .int .i64 x.2.2)], fun x => [], fun x => [], ⟨(k, x7, x42), rn, ⟨H, Nat.lt_succ_self _⟩, h1⟩, ?_⟩
  rintro ⟨k, x7, x42⟩ ⟨H, hk⟩
  exact h2 k x7 x42 hk H

end Go.Proofs.YtnobkcplpbkigaaGreatDoor.VP

