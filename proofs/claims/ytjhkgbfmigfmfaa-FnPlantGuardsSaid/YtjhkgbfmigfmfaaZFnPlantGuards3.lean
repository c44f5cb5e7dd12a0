import Derived.Test.YtjhkgbfmigfmfaaZFnPlantGuards2
import Derived.Shelf.Lay
import Derived.Shelf.Sort.AssemblyIn
import Derived.Ground.SoProg
import Derived.Test.YtjhkgbfmigfmfaaProg
import Derived.KernelRfl
set_option linter.unusedVariables false
set_option linter.unusedSimpArgs false
namespace Go.Proofs.Ytjhkgbfmigfmfaa.GV
open Go Go.Aw Go.RowKit Go.Proofs
set_option maxRecDepth 100000
set_option maxHeartbeats 40000000
variable {G : Nat → Option Obj}
attribute [local irreducible] kW Lp Sq Cut mV cM
theorem aT.ac {k : Nat} {a0_0 : List Int} {a0_1 : Int} {a1_0 : List ByteArray} {a1_1 : List aF} {a1_2 : List aB} {a1_3 : List aA} {r : (List ByteArray) × (List aF) × (List aB) × (List aA) × (List Int) × Int} (H : aT.f k a0_0 a0_1 a1_0 a1_1 a1_2 a1_3 = some r) : cK Try.prog G 33 [.box [(bP a0_0), .int .i64 a0_1]] [.bp 0 0, .agg [(aG a1_0), (aE a1_1), (aD a1_2), (aC a1_3)]] [.box [(bP r.2.2.2.2.1), .int .i64 r.2.2.2.2.2]] (.agg [(aG r.1), (aE r.2.1), (aD r.2.2.1), (aC r.2.2.2.1)]) := by
  refine bN tok hP Try.func33 rfl (by kernel_rfl) [.cell 4 28] rfl (by kernel_rfl) (Nat.le_of_ble_eq_true rfl) (.l .n (.l .n (.j (.l .n (.l .n (.l .n (.c .n (.l .n (.l .n (.l (.l .n (.l (.c .n .n) .n)) (.l .n (.l (.l .n (.l (.c .n .n) .n)) (.l .n (.l (.c .n .n) (.j .n (.l (.c .n (.l (.l .n (.l .n (.c .n .n))) .n)) (.l .n (.l (.c .n (.l .n (.l .n (.c .n .n)))) (.c .n (.l (.l .n (.l .n (.l (.c .n .n) (.c .n .n)))) (.l .n (.l .n (.l (.c .n .n) (.c .n .n))))))))))))))))))))) (.c .n .n)))) rfl ?_
  unfold aT.f at H
  revert H; refine aK (fun t8586 A H => (cmk (dV.acO A) rfl rfl (aT.j0_sq (KK := k + 1) (r := r) ?_ ?_)))
  revert H; refine aK (fun t8651 A H => (bQ [0] (aN.ac A) ⟨rfl, trivial⟩ rfl rfl rfl rfl rfl rfl rfl rfl (bT H (fun c H => ?_) (fun c H => ?_))))
  refine Or.inr (Or.inl ?_)
  revert H; refine aK (fun t8652 A H => (bQ [0] (bF.ac A) ⟨rfl, trivial⟩ rfl rfl rfl rfl rfl (iX ⟨rfl, ⟨kF rfl lm_ lm_, trivial⟩⟩) rfl rfl (Or.inl (nd_ H (fun c H => (⟨(k, (t8586.1 ++ ([t8652.1] : List ByteArray)), t8586.2.1, t8586.2.2.1, t8586.2.2.2, t8652.2.1, t8652.2.2), [some 129, some 26, some 27, some 28], ⟨H, lt_⟩, (bG trivial ⟨fm_, ⟨rfl, ⟨rfl, ⟨rfl, trivial⟩⟩⟩⟩ fi_ ⟨⟨_, rfl⟩, ⟨_, rfl, ⟨eL lm_, ⟨rfl, ⟨rfl, ⟨rfl, trivial⟩⟩⟩⟩⟩, ⟨⟨_, rfl⟩, ⟨_, rfl, ⟨.inl ⟨rfl, rfl⟩, ⟨.inl ⟨rfl, rfl⟩, trivial⟩⟩⟩, trivial⟩⟩ rfl)⟩))))))
  refine cu 97 [(0, .bp 0 0), (4, .bp 9 0), (5, .bp 33 0), (18, .int .i64 t8651.1), (65, .bool (decide (t8651.1 = 1)))] [(0, .box [(bP t8651.2.1), .int .i64 t8651.2.2]), (9, .box [.nil, .nil, .nil, .nil]), (25, .arr 9 1 (t8586.1.map bB)), (26, .arr 66 2 (t8586.2.1.map aV)), (27, .arr 68 3 (t8586.2.2.1.map aS)), (28, .arr 53 4 (t8586.2.2.2.map aR)), (33, .box [.own 25 t8586.1.length, .own 26 t8586.2.1.length, .own 27 t8586.2.2.1.length, .own 28 t8586.2.2.2.length])] rfl rfl rfl (bT H (fun c H => ?_) (fun c H => ?_))
  refine Or.inr (Or.inl ?_)
  revert H; refine aK (fun t8653 A H => (bQ [0] (bF.ac A) ⟨rfl, trivial⟩ rfl rfl rfl rfl rfl (iX ⟨rfl, ⟨kF rfl lm_ lm_, trivial⟩⟩) rfl rfl (Or.inr (Or.inl ?_))))
  revert H; refine aK (fun t8654 A H => (bQ [0] (bF.ac A) ⟨rfl, trivial⟩ rfl rfl rfl rfl rfl (iX ⟨rfl, ⟨kF rfl lm_ lm_, trivial⟩⟩) rfl rfl (Or.inl (nd_ H (fun c H => (⟨(k, t8586.1, (t8586.2.1 ++ ([(⟨t8653.1, t8654.1⟩ : aF)] : List aF)), t8586.2.2.1, t8586.2.2.2, t8654.2.1, t8654.2.2), [some 25, some 177, some 27, some 28], ⟨H, lt_⟩, (bG trivial ⟨rfl, ⟨fm_, ⟨rfl, ⟨rfl, trivial⟩⟩⟩⟩ fi_ ⟨⟨_, rfl⟩, ⟨_, rfl, ⟨rfl, ⟨eL lm_, ⟨rfl, ⟨rfl, trivial⟩⟩⟩⟩⟩, ⟨⟨_, rfl⟩, ⟨_, rfl, ⟨.inl ⟨rfl, rfl⟩, ⟨.inl ⟨rfl, rfl⟩, trivial⟩⟩⟩, trivial⟩⟩ rfl)⟩))))))
  refine bT H (fun c H => ?_) (fun c H => ?_)
  refine bT H (fun c H => ?_) (fun c H => ?_)
  revert H; refine aK (fun t8655 A H => (bQ [0] (aN.ac A) ⟨rfl, trivial⟩ rfl rfl rfl rfl rfl rfl rfl rfl (cu 193 [(0, .bp 0 0), (4, .bp 9 0), (5, .bp 33 0), (6, .int .i64 t8655.1)] [(0, .box [(bP t8655.2.1), .int .i64 t8655.2.2]), (9, .box [.nil, .nil, .nil, .nil]), (25, .arr 9 1 (t8586.1.map bB)), (26, .arr 66 2 (t8586.2.1.map aV)), (27, .arr 68 3 (t8586.2.2.1.map aS)), (28, .arr 53 4 (t8586.2.2.2.map aR)), (33, .box [.own 25 t8586.1.length, .own 26 t8586.2.1.length, .own 27 t8586.2.2.1.length, .own 28 t8586.2.2.2.length])] rfl rfl rfl (Or.inr (Or.inl ?_)))))
  revert H; refine aK (fun t8656 A H => (bQ [0] (bF.ac A) ⟨rfl, trivial⟩ rfl rfl rfl rfl rfl (iX ⟨rfl, ⟨kF rfl lm_ lm_, trivial⟩⟩) rfl rfl (nd_ H (fun c H => (nd_ H (fun c H => (El.mk (bL _ _ nf_ nf_) (⟨(k, t8586.1, t8586.2.1, (t8586.2.2.1.set (t8655.1).toNat (⟨t8656.1, (aO t8586.2.2.1 t8655.1).f1, (aO t8586.2.2.1 t8655.1).f2⟩ : aB)), t8586.2.2.2, t8656.2.1, t8656.2.2), [some 25, some 26, some 27, some 28], ⟨H, lt_⟩, (bG trivial ⟨rfl, ⟨rfl, ⟨fm_, ⟨rfl, trivial⟩⟩⟩⟩ fi_ ⟨⟨_, rfl⟩, ⟨_, rfl, ⟨rfl, ⟨rfl, ⟨eL lm_, ⟨rfl, trivial⟩⟩⟩⟩⟩, ⟨⟨_, rfl⟩, ⟨_, rfl, ⟨.inl ⟨rfl, rfl⟩, ⟨.inl ⟨rfl, rfl⟩, trivial⟩⟩⟩, trivial⟩⟩ rfl)⟩))))))))
  exact ⟨(k, t8586.1, t8586.2.1, t8586.2.2.1, t8586.2.2.2, t8651.2.1, t8651.2.2), [some 25, some 26, some 27, some 28], ⟨H, lt_⟩, (bG trivial ⟨rfl, ⟨rfl, ⟨rfl, ⟨rfl, trivial⟩⟩⟩⟩ fi_ ⟨⟨_, rfl⟩, ⟨_, rfl, ⟨rfl, ⟨rfl, ⟨rfl, ⟨rfl, trivial⟩⟩⟩⟩⟩, ⟨⟨_, rfl⟩, ⟨_, rfl, ⟨.inl ⟨rfl, rfl⟩, ⟨.inl ⟨rfl, rfl⟩, trivial⟩⟩⟩, trivial⟩⟩ rfl)⟩
  refine bT H (fun c H => ?_) (fun c H => ?_)
  refine bT H (fun c H => ?_) (fun c H => ?_)
  revert H; refine aK (fun t8657 A H => (bQ [0] (aN.ac A) ⟨rfl, trivial⟩ rfl rfl rfl rfl rfl rfl rfl rfl (cu 209 [(0, .bp 0 0), (4, .bp 9 0), (5, .bp 33 0), (7, .int .i64 t8657.1)] [(0, .box [(bP t8657.2.1), .int .i64 t8657.2.2]), (9, .box [.nil, .nil, .nil, .nil]), (25, .arr 9 1 (t8586.1.map bB)), (26, .arr 66 2 (t8586.2.1.map aV)), (27, .arr 68 3 (t8586.2.2.1.map aS)), (28, .arr 53 4 (t8586.2.2.2.map aR)), (33, .box [.own 25 t8586.1.length, .own 26 t8586.2.1.length, .own 27 t8586.2.2.1.length, .own 28 t8586.2.2.2.length])] rfl rfl rfl (Or.inl ?_))))
  revert H; refine aK (fun t8658 A H => (bQ [0] (aN.ac A) ⟨rfl, trivial⟩ rfl rfl rfl rfl rfl rfl rfl rfl (nd_ H (fun c H => (nd_ H (fun c H => (El.mk (vX (ys := ([(-1), 0, 1000, 1001] : List Int).map yC) lm_ (xY _ _ nf_ nf_)) (nd_ H (fun c H => (nd_ H (fun c H => (El.mk (bL _ _ nf_ nf_) (⟨(k, t8586.1, t8586.2.1, (t8586.2.2.1.set (t8657.1).toNat (⟨(aO t8586.2.2.1 t8657.1).f0, rd ([(-1), 0, 1000, 1001] : List Int) t8658.1, (aO t8586.2.2.1 t8657.1).f2⟩ : aB)), t8586.2.2.2, t8658.2.1, t8658.2.2), [some 25, some 26, some 27, some 28], ⟨H, lt_⟩, (bG trivial ⟨rfl, ⟨rfl, ⟨fm_, ⟨rfl, trivial⟩⟩⟩⟩ fi_ ⟨⟨_, rfl⟩, ⟨_, rfl, ⟨rfl, ⟨rfl, ⟨eL lm_, ⟨rfl, trivial⟩⟩⟩⟩⟩, ⟨⟨_, rfl⟩, ⟨_, rfl, ⟨.inl ⟨rfl, rfl⟩, ⟨.inl ⟨rfl, rfl⟩, trivial⟩⟩⟩, trivial⟩⟩ rfl)⟩)))))))))))))
  exact ⟨(k, t8586.1, t8586.2.1, t8586.2.2.1, t8586.2.2.2, t8651.2.1, t8651.2.2), [some 25, some 26, some 27, some 28], ⟨H, lt_⟩, (bG trivial ⟨rfl, ⟨rfl, ⟨rfl, ⟨rfl, trivial⟩⟩⟩⟩ fi_ ⟨⟨_, rfl⟩, ⟨_, rfl, ⟨rfl, ⟨rfl, ⟨rfl, ⟨rfl, trivial⟩⟩⟩⟩⟩, ⟨⟨_, rfl⟩, ⟨_, rfl, ⟨.inl ⟨rfl, rfl⟩, ⟨.inl ⟨rfl, rfl⟩, trivial⟩⟩⟩, trivial⟩⟩ rfl)⟩
  refine bT H (fun c H => ?_) (fun c H => ?_)
  refine cu 177 [(0, .bp 0 0), (4, .bp 9 0), (5, .bp 33 0), (124, .bool (decide ((t8586.2.2.1.length : Int) > 0)))] [(0, .box [(bP t8651.2.1), .int .i64 t8651.2.2]), (9, .box [.nil, .nil, .nil, .nil]), (25, .arr 9 1 (t8586.1.map bB)), (26, .arr 66 2 (t8586.2.1.map aV)), (27, .arr 68 3 (t8586.2.2.1.map aS)), (28, .arr 53 4 (t8586.2.2.2.map aR)), (33, .box [.own 25 t8586.1.length, .own 26 t8586.2.1.length, .own 27 t8586.2.2.1.length, .own 28 t8586.2.2.2.length])] rfl rfl rfl (bT H (fun c H => ?_) (fun c H => ?_))
  revert H; refine aK (fun t8659 A H => (bQ [0] (aN.ac A) ⟨rfl, trivial⟩ rfl rfl rfl rfl rfl rfl rfl rfl (Or.inr (Or.inl ?_))))
  revert H; refine aK (fun t8660 A H => (bQ [0] (bF.ac A) ⟨rfl, trivial⟩ rfl rfl rfl rfl rfl (iX ⟨rfl, ⟨kF rfl lm_ lm_, trivial⟩⟩) rfl rfl (nd_ H (fun c H => (nd_ H (fun c H => (El.mk (bL _ _ nf_ nf_) (⟨(k, t8586.1, t8586.2.1, (t8586.2.2.1.set (t8659.1).toNat (⟨(aO t8586.2.2.1 t8659.1).f0, (aO t8586.2.2.1 t8659.1).f1, t8660.1⟩ : aB)), t8586.2.2.2, t8660.2.1, t8660.2.2), [some 25, some 26, some 27, some 28], ⟨H, lt_⟩, (bG trivial ⟨rfl, ⟨rfl, ⟨fm_, ⟨rfl, trivial⟩⟩⟩⟩ fi_ ⟨⟨_, rfl⟩, ⟨_, rfl, ⟨rfl, ⟨rfl, ⟨eL lm_, ⟨rfl, trivial⟩⟩⟩⟩⟩, ⟨⟨_, rfl⟩, ⟨_, rfl, ⟨.inl ⟨rfl, rfl⟩, ⟨.inl ⟨rfl, rfl⟩, trivial⟩⟩⟩, trivial⟩⟩ rfl)⟩))))))))
  exact ⟨(k, t8586.1, t8586.2.1, t8586.2.2.1, t8586.2.2.2, t8651.2.1, t8651.2.2), [some 25, some 26, some 27, some 28], ⟨H, lt_⟩, (bG trivial ⟨rfl, ⟨rfl, ⟨rfl, ⟨rfl, trivial⟩⟩⟩⟩ fi_ ⟨⟨_, rfl⟩, ⟨_, rfl, ⟨rfl, ⟨rfl, ⟨rfl, ⟨rfl, trivial⟩⟩⟩⟩⟩, ⟨⟨_, rfl⟩, ⟨_, rfl, ⟨.inl ⟨rfl, rfl⟩, ⟨.inl ⟨rfl, rfl⟩, trivial⟩⟩⟩, trivial⟩⟩ rfl)⟩
  refine aT.j1_sq (t8586 := t8586) (t8651 := t8651) (KK := k + 1) (r := r) ?_ ?_
  refine bT H (fun c H => ?_) (fun c H => ?_)
  exact ⟨(k, decide (t8651.1 = 5)), [], ⟨H, lt_⟩, (fq rfl rfl fi_ rfl)⟩
  exact ⟨(k, decide (t8651.1 = 6)), [], ⟨H, lt_⟩, (fq rfl rfl fi_ rfl)⟩
  intro k x137 hk H; rcases k with _ | k; exact bD H; rw [aT.j1] at H
  refine iI H (fun c H => ?_) (fun c H => ?_)
  refine cu 177 [(0, .bp 0 0), (4, .bp 9 0), (5, .bp 33 0), (143, .bool (decide ((t8586.2.2.2.length : Int) > 0)))] [(0, .box [(bP t8651.2.1), .int .i64 t8651.2.2]), (9, .box [.nil, .nil, .nil, .nil]), (25, .arr 9 1 (t8586.1.map bB)), (26, .arr 66 2 (t8586.2.1.map aV)), (27, .arr 68 3 (t8586.2.2.1.map aS)), (28, .arr 53 4 (t8586.2.2.2.map aR)), (33, .box [.own 25 t8586.1.length, .own 26 t8586.2.1.length, .own 27 t8586.2.2.1.length, .own 28 t8586.2.2.2.length])] rfl rfl rfl (bT H (fun c H => ?_) (fun c H => ?_))
  revert H; refine aK (fun t8661 A H => (bQ [0] (aN.ac A) ⟨rfl, trivial⟩ rfl rfl rfl rfl rfl rfl rfl rfl ?_))
  revert H; refine aK (fun t8662 A H => (bQ [0] (aN.ac A) ⟨rfl, trivial⟩ rfl rfl rfl rfl rfl rfl rfl rfl (cu 257 [(0, .bp 0 0), (4, .bp 9 0), (5, .bp 33 0), (8, .int .i64 t8661.1), (150, .int .i64 t8662.1), (156, .bool (decide (t8662.1 = 0)))] [(0, .box [(bP t8662.2.1), .int .i64 t8662.2.2]), (9, .box [.nil, .nil, .nil, .nil]), (25, .arr 9 1 (t8586.1.map bB)), (26, .arr 66 2 (t8586.2.1.map aV)), (27, .arr 68 3 (t8586.2.2.1.map aS)), (28, .arr 53 4 (t8586.2.2.2.map aR)), (33, .box [.own 25 t8586.1.length, .own 26 t8586.2.1.length, .own 27 t8586.2.2.1.length, .own 28 t8586.2.2.2.length])] rfl rfl rfl (bT H (fun c H => ?_) (fun c H => ?_)))))
  refine Or.inr (Or.inl ?_)
  revert H; refine aK (fun t8663 A H => (bQ [0] (bF.ac A) ⟨rfl, trivial⟩ rfl rfl rfl rfl rfl (iX ⟨rfl, ⟨kF rfl lm_ lm_, trivial⟩⟩) rfl rfl (nd_ H (fun c H => (nd_ H (fun c H => (El.mk (aZ _ _ nf_ nf_) (⟨(k, t8586.1, t8586.2.1, t8586.2.2.1, (t8586.2.2.2.set (t8661.1).toNat (⟨t8663.1, (aH t8586.2.2.2 t8661.1).f1, (aH t8586.2.2.2 t8661.1).f2, (aH t8586.2.2.2 t8661.1).f3⟩ : aA)), t8663.2.1, t8663.2.2), [some 25, some 26, some 27, some 28], ⟨H, lt_⟩, (bG trivial ⟨rfl, ⟨rfl, ⟨rfl, ⟨fm_, trivial⟩⟩⟩⟩ fi_ ⟨⟨_, rfl⟩, ⟨_, rfl, ⟨rfl, ⟨rfl, ⟨rfl, ⟨eL lm_, trivial⟩⟩⟩⟩⟩, ⟨⟨_, rfl⟩, ⟨_, rfl, ⟨.inl ⟨rfl, rfl⟩, ⟨.inl ⟨rfl, rfl⟩, trivial⟩⟩⟩, trivial⟩⟩ rfl)⟩))))))))
  refine bT H (fun c H => ?_) (fun c H => ?_)
  refine nd_ H (fun c H => (nd_ H (fun c H => (El.mk (aZ _ _ nf_ nf_) (Or.inr (Or.inl ?_))))))
  revert H; refine aK (fun t8664 A H => (bQ [0] (bF.ac A) ⟨rfl, trivial⟩ rfl rfl rfl rfl rfl (iX ⟨rfl, ⟨kF rfl lm_ lm_, trivial⟩⟩) rfl rfl (Nd.mk nf_ (Nd.mk nf_ (El.mk (aZ _ _ nf_ nf_) (⟨(k, t8586.1, t8586.2.1, t8586.2.2.1, (t8586.2.2.2.set (t8661.1).toNat (⟨(aH t8586.2.2.2 t8661.1).f0, t8664.1, (aH t8586.2.2.2 t8661.1).f2, (aH t8586.2.2.2 t8661.1).f3⟩ : aA)), t8664.2.1, t8664.2.2), [some 25, some 26, some 27, some 28], ⟨H, lt_⟩, (bG trivial ⟨rfl, ⟨rfl, ⟨rfl, ⟨fm_, trivial⟩⟩⟩⟩ fi_ ⟨⟨_, rfl⟩, ⟨_, rfl, ⟨rfl, ⟨rfl, ⟨rfl, ⟨eL lm_, trivial⟩⟩⟩⟩⟩, ⟨⟨_, rfl⟩, ⟨_, rfl, ⟨.inl ⟨rfl, rfl⟩, ⟨.inl ⟨rfl, rfl⟩, trivial⟩⟩⟩, trivial⟩⟩ rfl)⟩))))))
  refine bT H (fun c H => ?_) (fun c H => ?_)
  refine Or.inr (Or.inl ?_)
  revert H; refine aK (fun t8665 A H => (bQ [0] (bF.ac A) ⟨rfl, trivial⟩ rfl rfl rfl rfl rfl (iX ⟨rfl, ⟨kF rfl lm_ lm_, trivial⟩⟩) rfl rfl (nd_ H (fun c H => (nd_ H (fun c H => (El.mk (aZ _ _ nf_ nf_) (⟨(k, t8586.1, t8586.2.1, t8586.2.2.1, (t8586.2.2.2.set (t8661.1).toNat (⟨(aH t8586.2.2.2 t8661.1).f0, (aH t8586.2.2.2 t8661.1).f1, t8665.1, (aH t8586.2.2.2 t8661.1).f3⟩ : aA)), t8665.2.1, t8665.2.2), [some 25, some 26, some 27, some 28], ⟨H, lt_⟩, (bG trivial ⟨rfl, ⟨rfl, ⟨rfl, ⟨fm_, trivial⟩⟩⟩⟩ fi_ ⟨⟨_, rfl⟩, ⟨_, rfl, ⟨rfl, ⟨rfl, ⟨rfl, ⟨eL lm_, trivial⟩⟩⟩⟩⟩, ⟨⟨_, rfl⟩, ⟨_, rfl, ⟨.inl ⟨rfl, rfl⟩, ⟨.inl ⟨rfl, rfl⟩, trivial⟩⟩⟩, trivial⟩⟩ rfl)⟩))))))))
  refine nd_ H (fun c H => (nd_ H (fun c H => (El.mk (aZ _ _ nf_ nf_) (⟨(k, t8586.1, t8586.2.1, t8586.2.2.1, (t8586.2.2.2.set (t8661.1).toNat (⟨(aH t8586.2.2.2 t8661.1).f0, (aH t8586.2.2.2 t8661.1).f1, (aH t8586.2.2.2 t8661.1).f2, (⟨#[]⟩ : ByteArray)⟩ : aA)), t8662.2.1, t8662.2.2), [some 25, some 26, some 27, some 28], ⟨H, lt_⟩, (bG trivial ⟨rfl, ⟨rfl, ⟨rfl, ⟨fm_, trivial⟩⟩⟩⟩ fi_ ⟨⟨_, rfl⟩, ⟨_, rfl, ⟨rfl, ⟨rfl, ⟨rfl, ⟨eL lm_, trivial⟩⟩⟩⟩⟩, ⟨⟨_, rfl⟩, ⟨_, rfl, ⟨.inl ⟨rfl, rfl⟩, ⟨.inl ⟨rfl, rfl⟩, trivial⟩⟩⟩, trivial⟩⟩ rfl)⟩)))))
  exact ⟨(k, t8586.1, t8586.2.1, t8586.2.2.1, t8586.2.2.2, t8651.2.1, t8651.2.2), [some 25, some 26, some 27, some 28], ⟨H, lt_⟩, (bG trivial ⟨rfl, ⟨rfl, ⟨rfl, ⟨rfl, trivial⟩⟩⟩⟩ fi_ ⟨⟨_, rfl⟩, ⟨_, rfl, ⟨rfl, ⟨rfl, ⟨rfl, ⟨rfl, trivial⟩⟩⟩⟩⟩, ⟨⟨_, rfl⟩, ⟨_, rfl, ⟨.inl ⟨rfl, rfl⟩, ⟨.inl ⟨rfl, rfl⟩, trivial⟩⟩⟩, trivial⟩⟩ rfl)⟩
  refine bT H (fun c H => ?_) (fun c H => ?_)
  revert H; refine aK (fun t8666 A H => (bQ [0] (aN.ac A) ⟨rfl, trivial⟩ rfl rfl rfl rfl rfl rfl rfl rfl (cu 193 [(4, .bp 9 0), (5, .bp 33 0), (9, .int .i64 (wrap64 (8 + t8666.1)))] [(0, .box [(bP t8666.2.1), .int .i64 t8666.2.2]), (9, .box [.nil, .nil, .nil, .nil]), (25, .arr 9 1 (t8586.1.map bB)), (26, .arr 66 2 (t8586.2.1.map aV)), (27, .arr 68 3 (t8586.2.2.1.map aS)), (28, .arr 53 4 (t8586.2.2.2.map aR)), (33, .box [.own 25 t8586.1.length, .own 26 t8586.2.1.length, .own 27 t8586.2.2.1.length, .own 28 t8586.2.2.2.length])] rfl rfl rfl (aT.l0_lp (t8666 := t8666) (k := k) H [some 25, some 26, some 27, some 28] (bG ⟨.inl ⟨rfl, rfl⟩, trivial⟩ ⟨rfl, ⟨rfl, ⟨rfl, ⟨rfl, trivial⟩⟩⟩⟩ fi_ ⟨⟨_, rfl⟩, ⟨_, rfl, ⟨rfl, ⟨rfl, ⟨rfl, ⟨rfl, trivial⟩⟩⟩⟩⟩, trivial⟩ rfl) ?_))))
  intro k x10 x1033000_1 x1033001_1 x1033002_1 x1033003_1 hk H; rcases k with _ | k; exact bD H; rw [aT.l0] at H
  refine bT H (fun c H => ?_) (fun c H => ?_)
  revert H; refine aK (fun t8668 A H => (cmk (cQ.ac A) rfl rfl (nd_ H (fun c H => (Or.inl (nd_ H (fun c H => (iQ 325 [(4, .bp 9 0), (5, .bp 33 0), (9, .int .i64 (wrap64 (8 + t8666.1))), (10, .int .i64 x10)] [(0, .box [(bP t8666.2.1), .int .i64 t8666.2.2]), (9, .box [.nil, .nil, .nil, .nil]), (33, .box [.own 301 (x1033000_1.length + 1), .own 202 x1033001_1.length, .own 203 x1033002_1.length, .own 204 x1033003_1.length]), (202, .arr 66 2 (x1033001_1.map aV)), (203, .arr 68 3 (x1033002_1.map aS)), (204, .arr 53 4 (x1033003_1.map aR)), (301, .arr 9 1 ((x1033000_1 ++ ([(⟨#[122]⟩ : ByteArray) ++ t8668] : List ByteArray)).map bB))] rfl ⟨.inl rfl, ⟨.inl rfl, ⟨.inl rfl, ⟨.inl rfl, trivial⟩⟩⟩⟩ ⟨rfl, ⟨rfl, ⟨rfl, ⟨rfl, ⟨rfl, ⟨rfl, ⟨fm_, trivial⟩⟩⟩⟩⟩⟩⟩ (⟨(k, wrap64 (x10 + 1), (x1033000_1 ++ ([(⟨#[122]⟩ : ByteArray) ++ t8668] : List ByteArray)), x1033001_1, x1033002_1, x1033003_1), [some 301, some 202, some 203, some 204], ⟨H, lt_⟩, lt_, (bG ⟨.inl ⟨rfl, rfl⟩, trivial⟩ ⟨rfl, ⟨rfl, ⟨rfl, ⟨rfl, trivial⟩⟩⟩⟩ fi_ ⟨⟨_, rfl⟩, ⟨_, rfl, ⟨eL lm_, ⟨rfl, ⟨rfl, ⟨rfl, trivial⟩⟩⟩⟩⟩, trivial⟩ rfl)⟩)))))))))
  exact ⟨(k, x1033000_1, x1033001_1, x1033002_1, x1033003_1, t8666.2.1, t8666.2.2), [some 201, some 202, some 203, some 204], ⟨H, lt_⟩, (bG trivial ⟨rfl, ⟨rfl, ⟨rfl, ⟨rfl, trivial⟩⟩⟩⟩ fi_ ⟨⟨_, rfl⟩, ⟨_, rfl, ⟨rfl, ⟨rfl, ⟨rfl, ⟨rfl, trivial⟩⟩⟩⟩⟩, ⟨⟨_, rfl⟩, ⟨_, rfl, ⟨.inl ⟨rfl, rfl⟩, ⟨.inl ⟨rfl, rfl⟩, trivial⟩⟩⟩, trivial⟩⟩ rfl)⟩
  refine cu 177 [(0, .bp 0 0), (4, .bp 9 0), (5, .bp 33 0), (213, .bool (decide (t8651.1 = 8)))] [(0, .box [(bP t8651.2.1), .int .i64 t8651.2.2]), (9, .box [.nil, .nil, .nil, .nil]), (25, .arr 9 1 (t8586.1.map bB)), (26, .arr 66 2 (t8586.2.1.map aV)), (27, .arr 68 3 (t8586.2.2.1.map aS)), (28, .arr 53 4 (t8586.2.2.2.map aR)), (33, .box [.own 25 t8586.1.length, .own 26 t8586.2.1.length, .own 27 t8586.2.2.1.length, .own 28 t8586.2.2.2.length])] rfl rfl rfl (bT H (fun c H => ?_) (fun c H => ?_))
  revert H; refine aK (fun t8669 A H => (bQ [0] (aN.ac A) ⟨rfl, trivial⟩ rfl rfl rfl rfl rfl rfl rfl rfl (aT.l1_lp (t8669 := t8669) (k := k) H [some 25, some 26, some 27, some 28] (bG ⟨.inl ⟨rfl, rfl⟩, trivial⟩ ⟨rfl, ⟨rfl, ⟨rfl, ⟨rfl, trivial⟩⟩⟩⟩ fi_ ⟨⟨_, rfl⟩, ⟨_, rfl, ⟨rfl, ⟨rfl, ⟨rfl, ⟨rfl, trivial⟩⟩⟩⟩⟩, trivial⟩ rfl) ?_)))
  intro k x12 x1033000_2 x1033001_2 x1033002_2 x1033003_2 hk H; rcases k with _ | k; exact bD H; rw [aT.l1] at H
  refine cu 261 [(4, .bp 9 0), (5, .bp 33 0), (11, .int .i64 (wrap64 (14 + t8669.1))), (12, .int .i64 x12), (222, .bool (decide ((x1033002_2.length : Int) < (wrap64 (14 + t8669.1)))))] [(0, .box [(bP t8669.2.1), .int .i64 t8669.2.2]), (9, .box [.nil, .nil, .nil, .nil]), (33, .box [.own 217 x1033000_2.length, .own 218 x1033001_2.length, .own 219 x1033002_2.length, .own 220 x1033003_2.length]), (217, .arr 9 1 (x1033000_2.map bB)), (218, .arr 66 2 (x1033001_2.map aV)), (219, .arr 68 3 (x1033002_2.map aS)), (220, .arr 53 4 (x1033003_2.map aR))] rfl rfl rfl (bT H (fun c H => ?_) (fun c H => ?_))
  revert H; refine aK (fun t8671 A H => (cmk (cQ.ac A) rfl rfl (nd_ H (fun c H => (Or.inl (nd_ H (fun c H => (iQ 349 [(4, .bp 9 0), (5, .bp 33 0), (11, .int .i64 (wrap64 (14 + t8669.1))), (12, .int .i64 x12)] [(0, .box [(bP t8669.2.1), .int .i64 t8669.2.2]), (9, .box [.nil, .nil, .nil, .nil]), (33, .box [.own 217 x1033000_2.length, .own 218 x1033001_2.length, .own 325 (x1033002_2.length + 1), .own 220 x1033003_2.length]), (217, .arr 9 1 (x1033000_2.map bB)), (218, .arr 66 2 (x1033001_2.map aV)), (220, .arr 53 4 (x1033003_2.map aR)), (325, .arr 68 3 ((x1033002_2 ++ ([(⟨(⟨#[122, 122]⟩ : ByteArray) ++ t8671, 0, (⟨#[115]⟩ : ByteArray)⟩ : aB)] : List aB)).map aS))] rfl ⟨.inl rfl, ⟨.inl rfl, ⟨.inl rfl, ⟨.inl rfl, trivial⟩⟩⟩⟩ ⟨rfl, ⟨rfl, ⟨rfl, ⟨rfl, ⟨rfl, ⟨rfl, ⟨fm_, trivial⟩⟩⟩⟩⟩⟩⟩ (⟨(k, wrap64 (x12 + 1), x1033000_2, x1033001_2, (x1033002_2 ++ ([(⟨(⟨#[122, 122]⟩ : ByteArray) ++ t8671, 0, (⟨#[115]⟩ : ByteArray)⟩ : aB)] : List aB)), x1033003_2), [some 217, some 218, some 325, some 220], ⟨H, lt_⟩, lt_, (bG ⟨.inl ⟨rfl, rfl⟩, trivial⟩ ⟨rfl, ⟨rfl, ⟨rfl, ⟨rfl, trivial⟩⟩⟩⟩ fi_ ⟨⟨_, rfl⟩, ⟨_, rfl, ⟨rfl, ⟨rfl, ⟨eL lm_, ⟨rfl, trivial⟩⟩⟩⟩⟩, trivial⟩ rfl)⟩)))))))))
  exact ⟨(k, x1033000_2, x1033001_2, x1033002_2, x1033003_2, t8669.2.1, t8669.2.2), [some 217, some 218, some 219, some 220], ⟨H, lt_⟩, (bG trivial ⟨rfl, ⟨rfl, ⟨rfl, ⟨rfl, trivial⟩⟩⟩⟩ fi_ ⟨⟨_, rfl⟩, ⟨_, rfl, ⟨rfl, ⟨rfl, ⟨rfl, ⟨rfl, trivial⟩⟩⟩⟩⟩, ⟨⟨_, rfl⟩, ⟨_, rfl, ⟨.inl ⟨rfl, rfl⟩, ⟨.inl ⟨rfl, rfl⟩, trivial⟩⟩⟩, trivial⟩⟩ rfl)⟩
  revert H; refine aK (fun t8672 A H => (bQ [0] (aN.ac A) ⟨rfl, trivial⟩ rfl rfl rfl rfl rfl rfl rfl rfl (aT.l2_lp (t8672 := t8672) (k := k) H [some 25, some 26, some 27, some 28] (bG ⟨.inl ⟨rfl, rfl⟩, trivial⟩ ⟨rfl, ⟨rfl, ⟨rfl, ⟨rfl, trivial⟩⟩⟩⟩ fi_ ⟨⟨_, rfl⟩, ⟨_, rfl, ⟨rfl, ⟨rfl, ⟨rfl, ⟨rfl, trivial⟩⟩⟩⟩⟩, trivial⟩ rfl) ?_)))
  intro k x14 x1033000_3 x1033001_3 x1033002_3 x1033003_3 hk H; rcases k with _ | k; exact bD H; rw [aT.l2] at H
  refine bT H (fun c H => ?_) (fun c H => ?_)
  refine Br.t ft_ (Br.t ft_ (Br.t ft_ (Br.t ft_ (cu 309 [(4, .bp 9 0), (5, .bp 33 0), (13, .int .i64 (wrap64 (18 + t8672.1))), (14, .int .i64 x14), (32, .bool (decide ((x1033002_3.length : Int) > 1)))] [(0, .box [(bP t8672.2.1), .int .i64 t8672.2.2]), (9, .box [.nil, .nil, .nil, .nil]), (33, .box [.own 217 x1033000_3.length, .own 218 x1033001_3.length, .own 219 x1033002_3.length, .own 220 x1033003_3.length]), (217, .arr 9 1 (x1033000_3.map bB)), (218, .arr 66 2 (x1033001_3.map aV)), (219, .arr 68 3 (x1033002_3.map aS)), (220, .arr 53 4 (x1033003_3.map aR))] rfl rfl rfl (bT H (fun c H => ?_) (fun c H => ?_))))))
  revert H; refine aK (fun t8674 A H => (cmk (cQ.ac A) rfl rfl (nd_ H (fun c H => (Nd.mk (by decide) (nd_ H (fun c H => (El.mk (bL _ _ nf_ nf_) (Nd.mk (by decide) (nd_ H (fun c H => (El.mk (bL _ _ nf_ nf_) (Or.inl (nd_ H (fun c H => (iQ 477 [(4, .bp 9 0), (5, .bp 33 0), (13, .int .i64 (wrap64 (18 + t8672.1))), (14, .int .i64 x14)] [(0, .box [(bP t8672.2.1), .int .i64 t8672.2.2]), (9, .box [.nil, .nil, .nil, .nil]), (33, .box [.own 217 x1033000_3.length, .own 218 x1033001_3.length, .own 219 x1033002_3.length, .own 453 (x1033003_3.length + 1)]), (217, .arr 9 1 (x1033000_3.map bB)), (218, .arr 66 2 (x1033001_3.map aV)), (219, .arr 68 3 (x1033002_3.map aS)), (453, .arr 53 4 ((x1033003_3 ++ ([(⟨(⟨#[122, 122]⟩ : ByteArray) ++ t8674, (aO x1033002_3 0).f0, (aO x1033002_3 1).f0, (⟨#[115]⟩ : ByteArray)⟩ : aA)] : List aA)).map aR))] rfl ⟨.inl rfl, ⟨.inl rfl, ⟨.inl rfl, ⟨.inl rfl, trivial⟩⟩⟩⟩ ⟨rfl, ⟨rfl, ⟨rfl, ⟨rfl, ⟨rfl, ⟨rfl, ⟨fm_, trivial⟩⟩⟩⟩⟩⟩⟩ (⟨(k, wrap64 (x14 + 1), x1033000_3, x1033001_3, x1033002_3, (x1033003_3 ++ ([(⟨(⟨#[122, 122]⟩ : ByteArray) ++ t8674, (aO x1033002_3 0).f0, (aO x1033002_3 1).f0, (⟨#[115]⟩ : ByteArray)⟩ : aA)] : List aA))), [some 217, some 218, some 219, some 453], ⟨H, lt_⟩, lt_, (bG ⟨.inl ⟨rfl, rfl⟩, trivial⟩ ⟨rfl, ⟨rfl, ⟨rfl, ⟨rfl, trivial⟩⟩⟩⟩ fi_ ⟨⟨_, rfl⟩, ⟨_, rfl, ⟨rfl, ⟨rfl, ⟨rfl, ⟨eL lm_, trivial⟩⟩⟩⟩⟩, trivial⟩ rfl)⟩)))))))))))))))))
  exact ⟨(k, x1033000_3, x1033001_3, x1033002_3, x1033003_3, t8672.2.1, t8672.2.2), [some 217, some 218, some 219, some 220], ⟨H, lt_⟩, (bG trivial ⟨rfl, ⟨rfl, ⟨rfl, ⟨rfl, trivial⟩⟩⟩⟩ fi_ ⟨⟨_, rfl⟩, ⟨_, rfl, ⟨rfl, ⟨rfl, ⟨rfl, ⟨rfl, trivial⟩⟩⟩⟩⟩, ⟨⟨_, rfl⟩, ⟨_, rfl, ⟨.inl ⟨rfl, rfl⟩, ⟨.inl ⟨rfl, rfl⟩, trivial⟩⟩⟩, trivial⟩⟩ rfl)⟩
  refine Br.f ff_ (Br.f ff_ (Br.f ff_ (Br.f ff_ (cu 309 [(4, .bp 9 0), (5, .bp 33 0), (13, .int .i64 (wrap64 (18 + t8672.1))), (14, .int .i64 x14), (32, .bool false)] [(0, .box [(bP t8672.2.1), .int .i64 t8672.2.2]), (9, .box [.nil, .nil, .nil, .nil]), (33, .box [.own 217 x1033000_3.length, .own 218 x1033001_3.length, .own 219 x1033002_3.length, .own 220 x1033003_3.length]), (217, .arr 9 1 (x1033000_3.map bB)), (218, .arr 66 2 (x1033001_3.map aV)), (219, .arr 68 3 (x1033002_3.map aS)), (220, .arr 53 4 (x1033003_3.map aR))] rfl rfl rfl (Br.f rfl (⟨(k, x1033000_3, x1033001_3, x1033002_3, x1033003_3, t8672.2.1, t8672.2.2), [some 217, some 218, some 219, some 220], ⟨H, lt_⟩, (bG trivial ⟨rfl, ⟨rfl, ⟨rfl, ⟨rfl, trivial⟩⟩⟩⟩ fi_ ⟨⟨_, rfl⟩, ⟨_, rfl, ⟨rfl, ⟨rfl, ⟨rfl, ⟨rfl, trivial⟩⟩⟩⟩⟩, ⟨⟨_, rfl⟩, ⟨_, rfl, ⟨.inl ⟨rfl, rfl⟩, ⟨.inl ⟨rfl, rfl⟩, trivial⟩⟩⟩, trivial⟩⟩ rfl)⟩))))))
  intro k x1033000 x1033001 x1033002 x1033003 x1000000 x1000001 hk H; rcases k with _ | k; exact bD H; rw [aT.j0] at H
  refine cu 69 [(4, .bp 9 0)] [(0, .box [(bP x1000000), .int .i64 x1000001]), (9, .box [.own 49 x1033000.length, .own 50 x1033001.length, .own 51 x1033002.length, .own 52 x1033003.length]), (49, .arr 9 1 (x1033000.map bB)), (50, .arr 66 2 (x1033001.map aV)), (51, .arr 68 3 (x1033002.map aS)), (52, .arr 53 4 (x1033003.map aR))] rfl rfl rfl ?_
  cases H
  exact eT [some 0] [49, 50, 51, 52] ((gW (cC (vF rfl rfl) (cC (vF rfl rfl) (cC (vF rfl rfl) (cC (vF rfl rfl) (hQ))))))) ⟨rfl, trivial⟩ rfl
theorem jX.ac {k : Nat} {a0_0 : List Int} {a0_1 : Int} {r : (List ByteArray) × (List aF) × (List aB) × (List aA) × (List Int) × Int} (H : jX.f k a0_0 a0_1 = some r) : cK Try.prog G 14 [.box [(bP a0_0), .int .i64 a0_1]] [.bp 0 0] [.box [(bP r.2.2.2.2.1), .int .i64 r.2.2.2.2.2]] (.agg [(aG r.1), (aE r.2.1), (aD r.2.2.1), (aC r.2.2.2.1)]) := by
  refine bN tok hP Try.func14 rfl (by kernel_rfl) [.cell 2 28] rfl (by kernel_rfl) (Nat.le_of_ble_eq_true rfl) (.l .n (.l .n (.l (.l .n (.l (.c .n .n) .n)) .n))) rfl ?_
  unfold jX.f at H
  revert H; refine aK (fun t8676 A H => (bQ [0] (aJ.ac A) ⟨rfl, trivial⟩ rfl rfl rfl rfl rfl rfl rfl rfl ?_))
  revert H; refine aK (fun t8681 A H => (bQ [0] (aN.ac A) ⟨rfl, trivial⟩ rfl rfl rfl rfl rfl rfl rfl rfl (bT H (fun c H => ?_) (fun c H => ?_))))
  revert H; refine aK (fun t8682 A H => (bQ [0] (aT.ac A) ⟨rfl, trivial⟩ rfl rfl rfl rfl rfl rfl rfl rfl (cu 97 [(2, .bp 1 0)] [(0, .box [(bP t8682.2.2.2.2.1), .int .i64 t8682.2.2.2.2.2]), (1, .box [(aG t8682.1), (aE t8682.2.1), (aD t8682.2.2.1), (aC t8682.2.2.2.1)])] rfl rfl rfl ?_)))
  cases H
  exact eT [some 0] [] ((rta rfl)) ⟨rfl, trivial⟩ rfl
  cases H
  exact eT [some 0] [] ((rta rfl)) ⟨rfl, trivial⟩ rfl
theorem fY.ac {a0_0 : List Int} {a0_1 : Int} {a1_0 : List ByteArray} {a1_1 : List aF} {a1_2 : List aB} {a1_3 : List aA} {r : ByteArray × (List Int) × Int} (H : fY.f a0_0 a0_1 a1_0 a1_1 a1_2 a1_3 = some r) : cK Try.prog G 36 [.box [(bP a0_0), .int .i64 a0_1]] [.bp 0 0, .agg [(aG a1_0), (aE a1_1), (aD a1_2), (aC a1_3)]] [.box [(bP r.2.1), .int .i64 r.2.2]] (.str r.1) := by
  refine bN tok hP Try.func36 rfl (by kernel_rfl) [.tmp 4] rfl (by kernel_rfl) (Nat.le_of_ble_eq_true rfl) (.l .n (.l (.c .n (.l (.c .n .n) .n)) (.c .n .n))) rfl ?_
  unfold fY.f at H
  refine bT H (fun c H => ?_) (fun c H => ?_)
  refine Br.t ft_ ?_
  revert H; refine aK (fun t8766 A H => (bQ [0] (aN.ac A) ⟨rfl, trivial⟩ rfl rfl rfl rfl rfl rfl rfl rfl (Br.t ft_ (Br.t ft_ (cu 89 [(0, .bp 0 0), (3, .bp 1 0), (13, .bool (decide (t8766.1 > 0)))] [(0, .box [(bP t8766.2.1), .int .i64 t8766.2.2]), (1, .box [(aG a1_0), (aE a1_1), (aD a1_2), (aC a1_3)])] rfl rfl rfl (bT H (fun c H => ?_) (fun c H => ?_)))))))
  revert H; refine aK (fun t8767 A H => (bQ [0] (aN.ac A) ⟨rfl, trivial⟩ rfl rfl rfl rfl rfl rfl rfl rfl (nd_ H (fun c H => (nd_ H (fun c H => (El.mk (bL _ _ nf_ nf_) (cu 177 [(4, .str ((aO a1_2 t8767.1).f0))] [(0, .box [(bP t8767.2.1), .int .i64 t8767.2.2])] rfl rfl rfl ?_))))))))
  cases H
  exact eT [some 0] [] ((gX rfl)) ⟨rfl, trivial⟩ rfl
  refine Or.inr (Or.inl ?_)
  revert H; refine aK (fun t8768 A H => (bQ [0] (bF.ac A) ⟨rfl, trivial⟩ rfl rfl rfl rfl rfl (iX ⟨rfl, ⟨kF rfl lm_ lm_, trivial⟩⟩) rfl rfl (cu 121 [(4, .str t8768.1)] [(0, .box [(bP t8768.2.1), .int .i64 t8768.2.2])] rfl rfl rfl ?_)))
  cases H
  exact eT [some 0] [] ((gX rfl)) ⟨rfl, trivial⟩ rfl
  refine Br.f ff_ (Br.f ff_ (Br.f ff_ (cu 89 [(0, .bp 0 0), (3, .bp 1 0), (13, .bool false)] [(0, .box [(bP a0_0), .int .i64 a0_1]), (1, .box [(aG a1_0), (aE a1_1), (aD a1_2), (aC a1_3)])] rfl rfl rfl (Br.f rfl (Or.inr (Or.inl ?_))))))
  revert H; refine aK (fun t8769 A H => (bQ [0] (bF.ac A) ⟨rfl, trivial⟩ rfl rfl rfl rfl rfl (iX ⟨rfl, ⟨kF rfl lm_ lm_, trivial⟩⟩) rfl rfl (cu 121 [(4, .str t8769.1)] [(0, .box [(bP t8769.2.1), .int .i64 t8769.2.2])] rfl rfl rfl ?_)))
  cases H
  exact eT [some 0] [] ((gX rfl)) ⟨rfl, trivial⟩ rfl
theorem dM.l0_lp {F : (Exit → St → Prop) → St → Prop} {hv : List Tmp} {Q : Exit → St → Prop} {σ : St} {r : ByteArray × (List Int) × Int} {k : Nat} {a0_0 : List Int} {a0_1 : Int} {a1_0 : List ByteArray} {a1_1 : List aF} {a1_2 : List aB} {a1_3 : List aA} {x5 : List ByteArray} {x6 : Int} (H : dM.l0 k a0_0 a0_1 a1_0 a1_1 a1_2 a1_3 x5 x6 = some r) (rn : List (Option Nat)) (h1 : cM σ σ [17] [(5, .own 0 x5.length), (6, .int .i64 x6)] [] [.arr 9 1 (x5.map bB)] rn)
    (h2 : ∀ (k0 : Nat) (x5 : List ByteArray) (x6 : Int), k0 < k + 1 → dM.l0 k0 a0_0 a0_1 a1_0 a1_1 a1_2 a1_3 x5 x6 = some r → dF σ hv [17] [(5, .own 0 x5.length), (6, .int .i64 x6)] [] [.arr 9 1 (x5.map bB)] (F (fun e σ' => match e with | .normal => ∃ (y : Nat × (List ByteArray) × Int) (rn : List (Option Nat)), (dM.l0 y.1 a0_0 a0_1 a1_0 a1_1 a1_2 a1_3 y.2.1 y.2.2 = some r ∧ y.1 < k + 1) ∧ y.1 < k0 ∧ cM σ σ' [17] [(5, .own 0 y.2.1.length), (6, .int .i64 y.2.2)] [] [.arr 9 1 (y.2.1.map bB)] rn | e => Q e σ'))) : Lp F hv Q σ := by
  unfold Lp
  refine ⟨Nat × (List ByteArray) × Int, fun x => dM.l0 x.1 a0_0 a0_1 a1_0 a1_1 a1_2 a1_3 x.2.1 x.2.2 = some r ∧ x.1 < k + 1, fun x => x.1, [17], fun x => [(5, .own 0 x.2.1.length), (6, .int .i64 x.2.2)], fun x => [], fun x => [.arr 9 1 (x.2.1.map bB)], ⟨(k, x5, x6), rn, ⟨H, Nat.lt_succ_self _⟩, h1⟩, ?_⟩
  rintro ⟨k, x5, x6⟩ ⟨H, hk⟩
  exact h2 k x5 x6 hk H
theorem dM.ac {k : Nat} {a0_0 : List Int} {a0_1 : Int} {a1_0 : List ByteArray} {a1_1 : List aF} {a1_2 : List aB} {a1_3 : List aA} {r : ByteArray × (List Int) × Int} (H : dM.f k a0_0 a0_1 a1_0 a1_1 a1_2 a1_3 = some r) : cK Try.prog G 35 [.box [(bP a0_0), .int .i64 a0_1]] [.bp 0 0, .agg [(aG a1_0), (aE a1_1), (aD a1_2), (aC a1_3)]] [.box [(bP r.2.1), .int .i64 r.2.2]] (.str r.1) := by
  refine bN tok hP Try.func35 rfl (by kernel_rfl) [.tmp 4] rfl (by kernel_rfl) (Nat.le_of_ble_eq_true rfl) (.l .n (.l .n (.l (.l .n (.l (.c .n .n) (.c .n .n))) (.l (.l .n (.l (.c .n .n) .n)) (.c .n .n))))) rfl ?_
  unfold dM.f at H
  refine Or.inl (dM.l0_lp (a0_0 := a0_0) (a0_1 := a0_1) (a1_0 := a1_0) (a1_1 := a1_1) (a1_2 := a1_2) (a1_3 := a1_3) (k := k) H [some 17] (bG ⟨eL lm_, ⟨.inl ⟨rfl, rfl⟩, trivial⟩⟩ ⟨fm_, trivial⟩ fi_ trivial rfl) ?_)
  intro k x5 x6 hk H; rcases k with _ | k; exact bD H; rw [dM.l0] at H
  refine cu 82 [(0, .bp 0 0), (3, .bp 1 0), (5, .own 41 x5.length), (6, .int .i64 x6), (12, .bool (decide (x6 < (a1_2.length : Int))))] [(0, .box [(bP a0_0), .int .i64 a0_1]), (1, .box [(aG a1_0), (aE a1_1), (aD a1_2), (aC a1_3)]), (41, .arr 9 1 (x5.map bB))] rfl rfl rfl (bT H (fun c H => ?_) (fun c H => ?_))
  refine nd_ H (fun c H => (Nd.mk nf_ (El.mk (bL _ _ nf_ nf_) (bT H (fun c H => ?_) (fun c H => ?_)))))
  refine Nd.mk nf_ (Nd.mk nf_ (El.mk (bL _ _ nf_ nf_) (Or.inl (nd_ H (fun c H => (iQ 218 [(0, .bp 0 0), (3, .bp 1 0), (5, .own 202 (x5.length + 1)), (6, .int .i64 x6)] [(0, .box [(bP a0_0), .int .i64 a0_1]), (1, .box [(aG a1_0), (aE a1_1), (aD a1_2), (aC a1_3)]), (202, .arr 9 1 ((x5 ++ ([(aO a1_2 x6).f0] : List ByteArray)).map bB))] rfl ⟨.inl rfl, ⟨.inl rfl, ⟨.inl rfl, ⟨.inl rfl, trivial⟩⟩⟩⟩ ⟨rfl, ⟨rfl, ⟨fm_, trivial⟩⟩⟩ (⟨(k, (x5 ++ ([(aO a1_2 x6).f0] : List ByteArray)), wrap64 (x6 + 1)), [some 202], ⟨H, lt_⟩, lt_, (bG ⟨eL lm_, ⟨.inl ⟨rfl, rfl⟩, trivial⟩⟩ ⟨rfl, trivial⟩ fi_ trivial rfl)⟩)))))))
  refine cu 138 [(0, .bp 0 0), (3, .bp 1 0), (5, .own 41 x5.length), (6, .int .i64 x6)] [(0, .box [(bP a0_0), .int .i64 a0_1]), (1, .box [(aG a1_0), (aE a1_1), (aD a1_2), (aC a1_3)]), (41, .arr 9 1 (x5.map bB))] rfl rfl rfl (⟨(k, x5, wrap64 (x6 + 1)), [some 41], ⟨H, lt_⟩, lt_, (bG ⟨rfl, ⟨.inl ⟨rfl, rfl⟩, trivial⟩⟩ ⟨rfl, trivial⟩ fi_ trivial rfl)⟩)
  refine bT H (fun c H => ?_) (fun c H => ?_)
  refine Br.t ft_ ?_
  revert H; refine aK (fun t8777 A H => (bQ [0] (aN.ac A) ⟨rfl, trivial⟩ rfl rfl rfl rfl rfl rfl rfl rfl (Br.t ft_ (Br.t ft_ (bT H (fun c H => ?_) (fun c H => ?_))))))
  revert H; refine aK (fun t8778 A H => (bQ [0] (aN.ac A) ⟨rfl, trivial⟩ rfl rfl rfl rfl rfl rfl rfl rfl (nd_ H (fun c H => (nd_ H (fun c H => (El.mk (aP _ _ nf_ nf_) (cu 210 [(4, .str (bE ByteArray.empty x5 t8778.1))] [(0, .box [(bP t8778.2.1), .int .i64 t8778.2.2])] rfl rfl rfl ?_))))))))
  cases H
  exact eT [some 0] [] ((gX rfl)) ⟨rfl, trivial⟩ rfl
  revert H; refine aK (fun t8779 A H => (bQ [0] (fY.ac A) ⟨rfl, trivial⟩ rfl rfl rfl rfl rfl rfl rfl rfl (cu 178 [(4, .str t8779.1)] [(0, .box [(bP t8779.2.1), .int .i64 t8779.2.2])] rfl rfl rfl ?_)))
  cases H
  exact eT [some 0] [] ((gX rfl)) ⟨rfl, trivial⟩ rfl
  refine Br.f ff_ (Br.f ff_ (Br.f ff_ (Br.f rfl ?_)))
  revert H; refine aK (fun t8780 A H => (bQ [0] (fY.ac A) ⟨rfl, trivial⟩ rfl rfl rfl rfl rfl rfl rfl rfl (cu 178 [(4, .str t8780.1)] [(0, .box [(bP t8780.2.1), .int .i64 t8780.2.2])] rfl rfl rfl ?_)))
  cases H
  exact eT [some 0] [] ((gX rfl)) ⟨rfl, trivial⟩ rfl
theorem bO.l1_lp {F : (Exit → St → Prop) → St → Prop} {hv : List Tmp} {Q : Exit → St → Prop} {σ : St} {r : Bool} {k : Nat} {a0_0 : List ByteArray} {a0_1 : List aF} {x4 : Int} (H : bO.l1 k a0_0 a0_1 x4 = some r) (rn : List (Option Nat)) (h1 : cM σ σ [] [(4, .int .i64 x4)] [] [] rn)
    (h2 : ∀ (k0 : Nat) (x4 : Int), k0 < k + 1 → bO.l1 k0 a0_0 a0_1 x4 = some r → dF σ hv [] [(4, .int .i64 x4)] [] [] (F (fun e σ' => match e with | .normal => ∃ (y : Nat × Int) (rn : List (Option Nat)), (bO.l1 y.1 a0_0 a0_1 y.2 = some r ∧ y.1 < k + 1) ∧ y.1 < k0 ∧ cM σ σ' [] [(4, .int .i64 y.2)] [] [] rn | e => Q e σ'))) : Lp F hv Q σ := by
  unfold Lp
  refine ⟨Nat × Int, fun x => bO.l1 x.1 a0_0 a0_1 x.2 = some r ∧ x.1 < k + 1, fun x => x.1, [], fun x => [(4, .int .i64 x.2)], fun x => [], fun x => [], ⟨(k, x4), rn, ⟨H, Nat.lt_succ_self _⟩, h1⟩, ?_⟩
  rintro ⟨k, x4⟩ ⟨H, hk⟩
  exact h2 k x4 hk H
theorem bO.l0_lp {F : (Exit → St → Prop) → St → Prop} {hv : List Tmp} {Q : Exit → St → Prop} {σ : St} {r : Bool} {k : Nat} {a0_0 : List ByteArray} {a0_1 : List aF} {x3 : Int} (H : bO.l0 k a0_0 a0_1 x3 = some r) (rn : List (Option Nat)) (h1 : cM σ σ [] [(3, .int .i64 x3)] [] [] rn)
    (h2 : ∀ (k0 : Nat) (x3 : Int), k0 < k + 1 → bO.l0 k0 a0_0 a0_1 x3 = some r → dF σ hv [] [(3, .int .i64 x3)] [] [] (F (fun e σ' => match e with | .normal => ∃ (y : Nat × Int) (rn : List (Option Nat)), (bO.l0 y.1 a0_0 a0_1 y.2 = some r ∧ y.1 < k + 1) ∧ y.1 < k0 ∧ cM σ σ' [] [(3, .int .i64 y.2)] [] [] rn | e => Q e σ'))) : Lp F hv Q σ := by
  unfold Lp
  refine ⟨Nat × Int, fun x => bO.l0 x.1 a0_0 a0_1 x.2 = some r ∧ x.1 < k + 1, fun x => x.1, [], fun x => [(3, .int .i64 x.2)], fun x => [], fun x => [], ⟨(k, x3), rn, ⟨H, Nat.lt_succ_self _⟩, h1⟩, ?_⟩
  rintro ⟨k, x3⟩ ⟨H, hk⟩
  exact h2 k x3 hk H
theorem bO.ac {k : Nat} {a0_0 : List ByteArray} {a0_1 : List aF} {a0_2 : List aB} {a0_3 : List aA} {r : Bool} (H : bO.f k a0_0 a0_1 a0_2 a0_3 = some r) : cK Try.prog G 46 [] [.agg [(aG a0_0), (aE a0_1), (aD a0_2), (aC a0_3)]] [] (.bool r) := by
  refine bN tok hP Try.func46 rfl (by kernel_rfl) [.tmp 2] rfl (by kernel_rfl) (Nat.le_of_ble_eq_true rfl) (.l .n (.l (.c .n (.l (.c .n .n) .n)) (.l (.l .n (.l .n (.l (.c .n (.l (.c .n .n) .n)) .n))) (.l (.l .n (.l (.c .n .n) (.l (.l .n (.c .n (.l (.c .n .n) .n))) .n))) .n)))) rfl ?_
  unfold bO.f at H
  refine bT H (fun c H => ?_) (fun c H => ?_)
  refine Br.t ft_ (Br.t ft_ (Br.t ft_ (Br.t ft_ (cu 96 [(1, .bp 0 0), (15, .bool true)] [(0, .box [(aG a0_0), (aE a0_1), (aD a0_2), (aC a0_3)])] rfl rfl rfl (Br.t rfl (cu 104 [(2, .bool false)] [] rfl rfl rfl ?_))))))
  cases H
  exact rz rfl
  refine Br.f ff_ (Br.f ff_ (Br.f ff_ (Br.f ff_ (cu 96 [(1, .bp 0 0), (15, .bool (decide ((a0_1.length : Int) > 12)))] [(0, .box [(aG a0_0), (aE a0_1), (aD a0_2), (aC a0_3)])] rfl rfl rfl (bT H (fun c H => ?_) (fun c H => ?_))))))
  refine cu 104 [(2, .bool false)] [] rfl rfl rfl ?_
  cases H
  exact rz rfl
  refine bO.l0_lp (a0_0 := a0_0) (a0_1 := a0_1) (k := k) H [] (fq rfl rfl fi_ rfl) ?_
  intro k x3 hk H; rcases k with _ | k; exact bD H; rw [bO.l0] at H
  refine bT H (fun c H => ?_) (fun c H => ?_)
  refine nd_ H (fun c H => (Nd.mk nf_ (El.mk (aP _ _ nf_ nf_) ?_)))
  revert H; refine aK (fun t8856 A H => (cmk (aX.ac A) rfl rfl (dY H (fun c H => ?_) (fun c H => ?_))))
  refine Br.f ff_ (Br.f ff_ (bT H (fun c H => ?_) (fun c H => ?_)))
  refine Br.t ft_ (Br.t ft_ (Br.t ft_ (Br.t ft_ (nd_ H (fun c H => (nd_ H (fun c H => (El.mk (aP _ _ nf_ nf_) (Br.t ft_ (Br.t ft_ (Br.t ft_ (Br.t ft_ (Br.t ft_ (Nd.mk nf_ (Nd.mk nf_ (El.mk (aP _ _ nf_ nf_) (Br.t ft_ (Br.t ft_ (Br.f ff_ (Br.t ft_ (Br.f ff_ (cu 344 [(1, .bp 0 0), (3, .int .i64 x3), (47, .bool (!(Op.bytesLess (bE ByteArray.empty a0_0 (wrap64 (x3 - 1))).toList (bE ByteArray.empty a0_0 x3).toList)))] [(0, .box [(aG a0_0), (aE a0_1), (aD a0_2), (aC a0_3)])] rfl rfl rfl (dY H (fun c H => ?_) (fun c H => ?_))))))))))))))))))))))))
  exact ⟨(k, wrap64 (x3 + 1)), [], ⟨H, lt_⟩, lt_, (fq rfl rfl fi_ rfl)⟩
  refine cu 352 [(2, .bool false)] [] rfl rfl rfl ?_
  cases H
  exact rz rfl
  refine Br.f ff_ (Br.f ff_ (Br.f ff_ (Br.f ff_ (Br.f ff_ (Br.f ff_ (Br.f ff_ (Br.f ff_ (Br.f ff_ (Br.f ff_ (Br.f ff_ (Br.f ff_ (Br.f ff_ (Br.f ff_ (cu 344 [(1, .bp 0 0), (3, .int .i64 x3), (47, .bool false)] [(0, .box [(aG a0_0), (aE a0_1), (aD a0_2), (aC a0_3)])] rfl rfl rfl (Br.f rfl (⟨(k, wrap64 (x3 + 1)), [], ⟨H, lt_⟩, lt_, (fq rfl rfl fi_ rfl)⟩))))))))))))))))
  refine Br.t ft_ (Br.t ft_ (Br.t ft_ (Br.t ft_ (cu 344 [(1, .bp 0 0), (3, .int .i64 x3), (47, .bool true)] [(0, .box [(aG a0_0), (aE a0_1), (aD a0_2), (aC a0_3)])] rfl rfl rfl (Br.t rfl (cu 352 [(2, .bool false)] [] rfl rfl rfl ?_))))))
  cases H
  exact rz rfl
  refine bO.l1_lp (a0_0 := a0_0) (a0_1 := a0_1) (k := k) H [] (fq rfl rfl fi_ rfl) ?_
  intro k x4 hk H; rcases k with _ | k; exact bD H; rw [bO.l1] at H
  refine cu 192 [(1, .bp 0 0), (4, .int .i64 x4), (52, .bool (decide (x4 < (a0_1.length : Int))))] [(0, .box [(aG a0_0), (aE a0_1), (aD a0_2), (aC a0_3)])] rfl rfl rfl (bT H (fun c H => ?_) (fun c H => ?_))
  refine nd_ H (fun c H => (Nd.mk nf_ (El.mk (dO _ _ nf_ nf_) (dY H (fun c H => ?_) (fun c H => ?_)))))
  refine Br.f ff_ (Br.f ff_ (Br.f ff_ (Br.f ff_ ?_)))
  revert H; refine aK (fun t8866 A H => (cmk (cG.ac A) rfl rfl (Br.f ff_ (Br.f ff_ (dY H (fun c H => ?_) (fun c H => ?_))))))
  refine Br.f ff_ (Br.f ff_ (Br.f ff_ (Br.f ff_ ?_)))
  revert H; refine aK (fun t8867 A H => (cmk (cG.ac A) rfl rfl (Br.f ff_ (Br.f ff_ (dY H (fun c H => ?_) (fun c H => ?_))))))
  refine Br.f ff_ (Br.f ff_ (bT H (fun c H => ?_) (fun c H => ?_)))
  refine Br.t ft_ (Br.t ft_ (Br.t ft_ (Br.t ft_ (nd_ H (fun c H => (nd_ H (fun c H => (El.mk (dO _ _ nf_ nf_) (Br.t ft_ (Br.t ft_ (Br.t ft_ ?_)))))))))))
  revert H; refine aK (fun t8868 A H => (cmk (fU.ac A) rfl rfl (Br.t ft_ (Br.f ff_ (Br.t ft_ (Br.f ff_ (cu 536 [(1, .bp 0 0), (4, .int .i64 x4), (95, .bool (!t8868))] [(0, .box [(aG a0_0), (aE a0_1), (aD a0_2), (aC a0_3)])] rfl rfl rfl (dY H (fun c H => ?_) (fun c H => ?_)))))))))
  exact ⟨(k, wrap64 (x4 + 1)), [], ⟨H, lt_⟩, lt_, (fq rfl rfl fi_ rfl)⟩
  refine cu 544 [(2, .bool false)] [] rfl rfl rfl ?_
  cases H
  exact rz rfl
  refine Br.f ff_ (Br.f ff_ (Br.f ff_ (Br.f ff_ (Br.f ff_ (Br.f ff_ (Br.f ff_ (Br.f ff_ (Br.f ff_ (Br.f ff_ (Br.f ff_ (cu 536 [(1, .bp 0 0), (4, .int .i64 x4), (95, .bool false)] [(0, .box [(aG a0_0), (aE a0_1), (aD a0_2), (aC a0_3)])] rfl rfl rfl (Br.f rfl (⟨(k, wrap64 (x4 + 1)), [], ⟨H, lt_⟩, lt_, (fq rfl rfl fi_ rfl)⟩)))))))))))))
  refine Br.t ft_ (Br.t ft_ (Br.t ft_ (Br.t ft_ (cu 536 [(1, .bp 0 0), (4, .int .i64 x4), (95, .bool true)] [(0, .box [(aG a0_0), (aE a0_1), (aD a0_2), (aC a0_3)])] rfl rfl rfl (Br.t rfl (cu 544 [(2, .bool false)] [] rfl rfl rfl ?_))))))
  cases H
  exact rz rfl
  refine Br.t ft_ (Br.t ft_ (Br.t ft_ (Br.t ft_ (Br.t ft_ (Br.t ft_ (Br.t rfl (Br.t rfl (Br.t rfl (Br.t rfl (Br.t rfl (cu 536 [(1, .bp 0 0), (4, .int .i64 x4), (95, .bool true)] [(0, .box [(aG a0_0), (aE a0_1), (aD a0_2), (aC a0_3)])] rfl rfl rfl (Br.t rfl (cu 544 [(2, .bool false)] [] rfl rfl rfl ?_)))))))))))))
  cases H
  exact rz rfl
  refine Br.t ft_ (Br.t ft_ (Br.t ft_ (Br.t ft_ (Br.t ft_ (Br.t ft_ (Br.t rfl (Br.t rfl (Br.t rfl (Br.t rfl (Br.t rfl (Br.t rfl (Br.t rfl (Br.t rfl (Br.t rfl (Br.t rfl (Br.t rfl (Br.t rfl (cu 536 [(1, .bp 0 0), (4, .int .i64 x4), (95, .bool true)] [(0, .box [(aG a0_0), (aE a0_1), (aD a0_2), (aC a0_3)])] rfl rfl rfl (Br.t rfl (cu 544 [(2, .bool false)] [] rfl rfl rfl ?_))))))))))))))))))))
  cases H
  exact rz rfl
  cases H
  exact rz rfl
theorem dD.l0_lp {F : (Exit → St → Prop) → St → Prop} {hv : List Tmp} {Q : Exit → St → Prop} {σ : St} {r : Bool} {k : Nat} {a0_2 : List aB} {x3 : Int} (H : dD.l0 k a0_2 x3 = some r) (rn : List (Option Nat)) (h1 : cM σ σ [] [(3, .int .i64 x3)] [] [] rn)
    (h2 : ∀ (k0 : Nat) (x3 : Int), k0 < k + 1 → dD.l0 k0 a0_2 x3 = some r → dF σ hv [] [(3, .int .i64 x3)] [] [] (F (fun e σ' => match e with | .normal => ∃ (y : Nat × Int) (rn : List (Option Nat)), (dD.l0 y.1 a0_2 y.2 = some r ∧ y.1 < k + 1) ∧ y.1 < k0 ∧ cM σ σ' [] [(3, .int .i64 y.2)] [] [] rn | e => Q e σ'))) : Lp F hv Q σ := by
  unfold Lp
  refine ⟨Nat × Int, fun x => dD.l0 x.1 a0_2 x.2 = some r ∧ x.1 < k + 1, fun x => x.1, [], fun x => [(3, .int .i64 x.2)], fun x => [], fun x => [], ⟨(k, x3), rn, ⟨H, Nat.lt_succ_self _⟩, h1⟩, ?_⟩
  rintro ⟨k, x3⟩ ⟨H, hk⟩
  exact h2 k x3 hk H
theorem dD.ac {k : Nat} {a0_0 : List ByteArray} {a0_1 : List aF} {a0_2 : List aB} {a0_3 : List aA} {r : Bool} (H : dD.f k a0_0 a0_1 a0_2 a0_3 = some r) : cK Try.prog G 47 [] [.agg [(aG a0_0), (aE a0_1), (aD a0_2), (aC a0_3)]] [] (.bool r) := by
  refine bN tok hP Try.func47 rfl (by kernel_rfl) [.tmp 2] rfl (by kernel_rfl) (Nat.le_of_ble_eq_true rfl) (.l .n (.l .n (.l (.l .n (.l (.c .n .n) (.l (.l .n (.c .n (.l (.c .n .n) .n))) .n))) .n))) rfl ?_
  unfold dD.f at H
  refine bT H (fun c H => ?_) (fun c H => ?_)
  cases H
  exact rz rfl
  refine dD.l0_lp (a0_2 := a0_2) (k := k) H [] (fq rfl rfl fi_ rfl) ?_
  intro k x3 hk H; rcases k with _ | k; exact bD H; rw [dD.l0] at H
  refine cu 96 [(1, .bp 0 0), (3, .int .i64 x3), (13, .bool (decide (x3 < (a0_2.length : Int))))] [(0, .box [(aG a0_0), (aE a0_1), (aD a0_2), (aC a0_3)])] rfl rfl rfl (bT H (fun c H => ?_) (fun c H => ?_))
  refine nd_ H (fun c H => (Nd.mk nf_ (El.mk (bL _ _ nf_ nf_) ?_)))
  revert H; refine aK (fun t8909 A H => (cmk (aX.ac A) rfl rfl (dY H (fun c H => ?_) (fun c H => ?_))))
  refine Br.f ff_ (Br.f ff_ (bT H (fun c H => ?_) (fun c H => ?_)))
  refine Br.t ft_ (Br.t ft_ (Br.t ft_ (Br.t ft_ (nd_ H (fun c H => (nd_ H (fun c H => (El.mk (bL _ _ nf_ nf_) (Br.t ft_ (Br.t ft_ (Br.t ft_ (Br.t ft_ (Br.t ft_ (Br.f ff_ (Br.t ft_ (Br.f ff_ (dY H (fun c H => ?_) (fun c H => ?_))))))))))))))))))
  refine Br.f ff_ (Br.f ff_ ?_)
  revert H; refine aK (fun t8910 A H => (cmk (gF.ac A) rfl rfl (Br.f ff_ (Br.f ff_ (dY H (fun c H => ?_) (fun c H => ?_))))))
  refine Br.f ff_ (Br.f ff_ ?_)
  revert H; refine aK (fun t8911 A H => (cmk (aX.ac A) rfl rfl (Br.f ff_ (Br.f ff_ (cu 408 [(1, .bp 0 0), (3, .int .i64 x3), (52, .bool (!t8911))] [(0, .box [(aG a0_0), (aE a0_1), (aD a0_2), (aC a0_3)])] rfl rfl rfl (dY H (fun c H => ?_) (fun c H => ?_)))))))
  exact ⟨(k, wrap64 (x3 + 1)), [], ⟨H, lt_⟩, lt_, (fq rfl rfl fi_ rfl)⟩
  refine cu 416 [(2, .bool false)] [] rfl rfl rfl ?_
  cases H
  exact rz rfl
  refine Br.t ft_ (Br.t ft_ (Br.t ft_ (Br.t ft_ (cu 408 [(1, .bp 0 0), (3, .int .i64 x3), (52, .bool true)] [(0, .box [(aG a0_0), (aE a0_1), (aD a0_2), (aC a0_3)])] rfl rfl rfl (Br.t rfl (cu 416 [(2, .bool false)] [] rfl rfl rfl ?_))))))
  cases H
  exact rz rfl
  refine Br.t ft_ (Br.t ft_ (Br.t ft_ (Br.t ft_ (Br.t rfl (Br.t rfl (Br.t rfl (Br.t rfl (Br.t rfl (cu 408 [(1, .bp 0 0), (3, .int .i64 x3), (52, .bool true)] [(0, .box [(aG a0_0), (aE a0_1), (aD a0_2), (aC a0_3)])] rfl rfl rfl (Br.t rfl (cu 416 [(2, .bool false)] [] rfl rfl rfl ?_)))))))))))
  cases H
  exact rz rfl
  refine Br.f ff_ (Br.f ff_ (Br.f ff_ (Br.f ff_ (Br.f ff_ (Br.f ff_ (Br.f ff_ (Br.f ff_ (Br.f ff_ (Br.f ff_ (Br.f ff_ (Br.f ff_ (Br.f rfl (Br.f rfl (Br.f rfl ?_))))))))))))))
  revert H; refine aK (fun t8912 A H => (cmk (gF.ac A) rfl rfl (Br.f rfl (Br.f rfl (dY H (fun c H => ?_) (fun c H => ?_))))))
  refine Br.f ff_ (Br.f ff_ ?_)
  revert H; refine aK (fun t8913 A H => (cmk (aX.ac A) rfl rfl (Br.f ff_ (Br.f ff_ (cu 408 [(1, .bp 0 0), (3, .int .i64 x3), (52, .bool (!t8913))] [(0, .box [(aG a0_0), (aE a0_1), (aD a0_2), (aC a0_3)])] rfl rfl rfl (dY H (fun c H => ?_) (fun c H => ?_)))))))
  exact ⟨(k, wrap64 (x3 + 1)), [], ⟨H, lt_⟩, lt_, (fq rfl rfl fi_ rfl)⟩
  refine cu 416 [(2, .bool false)] [] rfl rfl rfl ?_
  cases H
  exact rz rfl
  refine Br.t ft_ (Br.t ft_ (Br.t ft_ (Br.t ft_ (cu 408 [(1, .bp 0 0), (3, .int .i64 x3), (52, .bool true)] [(0, .box [(aG a0_0), (aE a0_1), (aD a0_2), (aC a0_3)])] rfl rfl rfl (Br.t rfl (cu 416 [(2, .bool false)] [] rfl rfl rfl ?_))))))
  cases H
  exact rz rfl
  refine Br.t ft_ (Br.t ft_ (Br.t ft_ (Br.t ft_ (Br.t rfl (Br.t rfl (Br.t rfl (Br.t rfl (Br.t rfl (Br.t rfl (Br.t rfl (Br.t rfl (Br.t rfl (Br.t rfl (cu 408 [(1, .bp 0 0), (3, .int .i64 x3), (52, .bool true)] [(0, .box [(aG a0_0), (aE a0_1), (aD a0_2), (aC a0_3)])] rfl rfl rfl (Br.t rfl (cu 416 [(2, .bool false)] [] rfl rfl rfl ?_))))))))))))))))
  cases H
  exact rz rfl
  cases H
  exact rz rfl
theorem dC.l0_lp {F : (Exit → St → Prop) → St → Prop} {hv : List Tmp} {Q : Exit → St → Prop} {σ : St} {r : Bool} {k : Nat} {a0_0 : List ByteArray} {a0_1 : List aF} {a0_2 : List aB} {a0_3 : List aA} {x3 : Int} (H : dC.l0 k a0_0 a0_1 a0_2 a0_3 x3 = some r) (rn : List (Option Nat)) (h1 : cM σ σ [] [(3, .int .i64 x3)] [] [] rn)
    (h2 : ∀ (k0 : Nat) (x3 : Int), k0 < k + 1 → dC.l0 k0 a0_0 a0_1 a0_2 a0_3 x3 = some r → dF σ hv [] [(3, .int .i64 x3)] [] [] (F (fun e σ' => match e with | .normal => ∃ (y : Nat × Int) (rn : List (Option Nat)), (dC.l0 y.1 a0_0 a0_1 a0_2 a0_3 y.2 = some r ∧ y.1 < k + 1) ∧ y.1 < k0 ∧ cM σ σ' [] [(3, .int .i64 y.2)] [] [] rn | e => Q e σ'))) : Lp F hv Q σ := by
  unfold Lp
  refine ⟨Nat × Int, fun x => dC.l0 x.1 a0_0 a0_1 a0_2 a0_3 x.2 = some r ∧ x.1 < k + 1, fun x => x.1, [], fun x => [(3, .int .i64 x.2)], fun x => [], fun x => [], ⟨(k, x3), rn, ⟨H, Nat.lt_succ_self _⟩, h1⟩, ?_⟩
  rintro ⟨k, x3⟩ ⟨H, hk⟩
  exact h2 k x3 hk H
theorem dC.ac {k : Nat} {a0_0 : List ByteArray} {a0_1 : List aF} {a0_2 : List aB} {a0_3 : List aA} {r : Bool} (H : dC.f k a0_0 a0_1 a0_2 a0_3 = some r) : cK Try.prog G 48 [] [.agg [(aG a0_0), (aE a0_1), (aD a0_2), (aC a0_3)]] [] (.bool r) := by
  refine bN tok hP Try.func48 rfl (by kernel_rfl) [.tmp 2] rfl (by kernel_rfl) (Nat.le_of_ble_eq_true rfl) (.l .n (.l .n (.l (.l .n (.l (.c .n .n) (.l (.l .n (.c .n (.l (.c .n .n) .n))) .n))) .n))) rfl ?_
  unfold dC.f at H
  refine bT H (fun c H => ?_) (fun c H => ?_)
  cases H
  exact rz rfl
  refine dC.l0_lp (a0_0 := a0_0) (a0_1 := a0_1) (a0_2 := a0_2) (a0_3 := a0_3) (k := k) H [] (fq rfl rfl fi_ rfl) ?_
  intro k x3 hk H; rcases k with _ | k; exact bD H; rw [dC.l0] at H
  refine cu 96 [(1, .bp 0 0), (3, .int .i64 x3), (13, .bool (decide (x3 < (a0_3.length : Int))))] [(0, .box [(aG a0_0), (aE a0_1), (aD a0_2), (aC a0_3)])] rfl rfl rfl (bT H (fun c H => ?_) (fun c H => ?_))
  refine nd_ H (fun c H => (Nd.mk nf_ (El.mk (aZ _ _ nf_ nf_) ?_)))
  revert H; refine aK (fun t8961 A H => (cmk (aX.ac A) rfl rfl (dY H (fun c H => ?_) (fun c H => ?_))))
  refine Br.f ff_ (Br.f ff_ (bT H (fun c H => ?_) (fun c H => ?_)))
  refine Br.t ft_ (Br.t ft_ (Br.t ft_ (Br.t ft_ (nd_ H (fun c H => (nd_ H (fun c H => (El.mk (aZ _ _ nf_ nf_) (Br.t ft_ (Br.t ft_ (Br.t ft_ (Br.t ft_ (Br.t ft_ (Br.f ff_ (Br.t ft_ (Br.f ff_ (dY H (fun c H => ?_) (fun c H => ?_))))))))))))))))))
  refine Br.f ff_ (Br.f ff_ (Br.f ff_ (Br.f ff_ (Br.f ff_ (dY H (fun c H => ?_) (fun c H => ?_))))))
  refine Br.f ff_ (Br.f ff_ (Br.f ff_ ?_))
  revert H; refine aK (fun t8962 A H => (cmk (cO.ac A) rfl rfl (Br.f ff_ (Br.f ff_ (bT H (fun c H => ?_) (fun c H => ?_))))))
  refine Br.t ft_ (Br.t ft_ (Br.t ft_ (Br.t ft_ (Br.t ft_ (Br.t rfl (Br.t rfl (Br.t rfl (Br.t rfl (Br.t rfl (cu 528 [(1, .bp 0 0), (3, .int .i64 x3), (67, .bool true)] [(0, .box [(aG a0_0), (aE a0_1), (aD a0_2), (aC a0_3)])] rfl rfl rfl (Br.t rfl (cu 536 [(2, .bool false)] [] rfl rfl rfl ?_))))))))))))
  cases H
  exact rz rfl
  refine Br.f ff_ (Br.f ff_ (Br.f ff_ ?_))
  revert H; refine aK (fun t8963 A H => (cmk (cO.ac A) rfl rfl (Br.f ff_ (Br.f ff_ (bT H (fun c H => ?_) (fun c H => ?_))))))
  refine Br.t ft_ (Br.t ft_ (Br.t ft_ (Br.t ft_ (cu 528 [(1, .bp 0 0), (3, .int .i64 x3), (67, .bool true)] [(0, .box [(aG a0_0), (aE a0_1), (aD a0_2), (aC a0_3)])] rfl rfl rfl (Br.t rfl (cu 536 [(2, .bool false)] [] rfl rfl rfl ?_))))))
  cases H
  exact rz rfl
  refine Br.f ff_ (Br.f ff_ ?_)
  revert H; refine aK (fun t8964 A H => (cmk (aX.ac A) rfl rfl (Br.f ff_ (Br.f ff_ (cu 528 [(1, .bp 0 0), (3, .int .i64 x3), (67, .bool (!t8964))] [(0, .box [(aG a0_0), (aE a0_1), (aD a0_2), (aC a0_3)])] rfl rfl rfl (dY H (fun c H => ?_) (fun c H => ?_)))))))
  exact ⟨(k, wrap64 (x3 + 1)), [], ⟨H, lt_⟩, lt_, (fq rfl rfl fi_ rfl)⟩
  refine cu 536 [(2, .bool false)] [] rfl rfl rfl ?_
  cases H
  exact rz rfl
  refine Br.t ft_ (Br.t ft_ (Br.t ft_ (Br.t ft_ (Br.t ft_ (Br.t rfl (Br.t rfl (Br.t rfl (Br.t rfl (Br.t rfl (Br.t rfl (Br.t rfl (Br.t rfl (Br.t rfl (Br.t rfl (Br.t rfl (cu 528 [(1, .bp 0 0), (3, .int .i64 x3), (67, .bool true)] [(0, .box [(aG a0_0), (aE a0_1), (aD a0_2), (aC a0_3)])] rfl rfl rfl (Br.t rfl (cu 536 [(2, .bool false)] [] rfl rfl rfl ?_))))))))))))))))))
  cases H
  exact rz rfl
  refine Br.t ft_ (Br.t ft_ (Br.t ft_ (Br.t ft_ (Br.t ft_ (Br.t rfl (Br.t rfl (Br.t rfl (Br.t rfl (Br.t rfl (Br.t rfl (Br.t rfl (Br.t rfl (Br.t rfl (Br.t rfl (Br.t rfl (Br.t rfl (Br.t rfl (Br.t rfl (Br.t rfl (Br.t rfl (Br.t rfl (cu 528 [(1, .bp 0 0), (3, .int .i64 x3), (67, .bool true)] [(0, .box [(aG a0_0), (aE a0_1), (aD a0_2), (aC a0_3)])] rfl rfl rfl (Br.t rfl ?_)))))))))))))))))))))))
  refine cu 536 [(2, .bool false)] [] rfl rfl rfl ?_
  cases H
  exact rz rfl
  refine Br.f ff_ (Br.f ff_ (Br.f ff_ (Br.f ff_ (Br.f ff_ (Br.f ff_ (Br.f ff_ (Br.f ff_ (Br.f ff_ (Br.f ff_ (Br.f ff_ (Br.f ff_ (Br.f rfl (Br.f rfl (Br.f rfl (Br.f rfl (Br.f rfl (Br.f rfl (dY H (fun c H => ?_) (fun c H => ?_)))))))))))))))))))
  refine Br.f ff_ (Br.f ff_ (Br.f ff_ ?_))
  revert H; refine aK (fun t8965 A H => (cmk (cO.ac A) rfl rfl (Br.f ff_ (Br.f ff_ (bT H (fun c H => ?_) (fun c H => ?_))))))
  refine Br.t ft_ (Br.t ft_ (Br.t ft_ (Br.t ft_ (Br.t ft_ (Br.t rfl (Br.t rfl (Br.t rfl (Br.t rfl (Br.t rfl (cu 528 [(1, .bp 0 0), (3, .int .i64 x3), (67, .bool true)] [(0, .box [(aG a0_0), (aE a0_1), (aD a0_2), (aC a0_3)])] rfl rfl rfl (Br.t rfl (cu 536 [(2, .bool false)] [] rfl rfl rfl ?_))))))))))))
  cases H
  exact rz rfl
  refine Br.f ff_ (Br.f ff_ (Br.f ff_ ?_))
  revert H; refine aK (fun t8966 A H => (cmk (cO.ac A) rfl rfl (Br.f ff_ (Br.f ff_ (bT H (fun c H => ?_) (fun c H => ?_))))))
  refine Br.t ft_ (Br.t ft_ (Br.t ft_ (Br.t ft_ (cu 528 [(1, .bp 0 0), (3, .int .i64 x3), (67, .bool true)] [(0, .box [(aG a0_0), (aE a0_1), (aD a0_2), (aC a0_3)])] rfl rfl rfl (Br.t rfl (cu 536 [(2, .bool false)] [] rfl rfl rfl ?_))))))
  cases H
  exact rz rfl
  refine Br.f ff_ (Br.f ff_ ?_)
  revert H; refine aK (fun t8967 A H => (cmk (aX.ac A) rfl rfl (Br.f ff_ (Br.f ff_ (cu 528 [(1, .bp 0 0), (3, .int .i64 x3), (67, .bool (!t8967))] [(0, .box [(aG a0_0), (aE a0_1), (aD a0_2), (aC a0_3)])] rfl rfl rfl (dY H (fun c H => ?_) (fun c H => ?_)))))))
  exact ⟨(k, wrap64 (x3 + 1)), [], ⟨H, lt_⟩, lt_, (fq rfl rfl fi_ rfl)⟩
  refine cu 536 [(2, .bool false)] [] rfl rfl rfl ?_
  cases H
  exact rz rfl
  refine Br.t ft_ (Br.t ft_ (Br.t ft_ (Br.t ft_ (Br.t ft_ (Br.t rfl (Br.t rfl (Br.t rfl (Br.t rfl (Br.t rfl (Br.t rfl (Br.t rfl (Br.t rfl (Br.t rfl (Br.t rfl (Br.t rfl (cu 528 [(1, .bp 0 0), (3, .int .i64 x3), (67, .bool true)] [(0, .box [(aG a0_0), (aE a0_1), (aD a0_2), (aC a0_3)])] rfl rfl rfl (Br.t rfl (cu 536 [(2, .bool false)] [] rfl rfl rfl ?_))))))))))))))))))
  cases H
  exact rz rfl
  refine Br.t ft_ (Br.t ft_ (Br.t ft_ (Br.t ft_ (Br.t rfl (Br.t rfl (Br.t rfl (Br.t rfl (Br.t rfl (Br.t rfl (Br.t rfl (Br.t rfl (Br.t rfl (Br.t rfl (Br.t rfl (Br.t rfl (Br.t rfl (Br.t rfl (Br.t rfl (Br.t rfl (Br.t rfl (Br.t rfl (Br.t rfl (Br.t rfl ?_)))))))))))))))))))))))
  refine Br.t rfl (Br.t rfl (Br.t rfl (cu 528 [(1, .bp 0 0), (3, .int .i64 x3), (67, .bool true)] [(0, .box [(aG a0_0), (aE a0_1), (aD a0_2), (aC a0_3)])] rfl rfl rfl (Br.t rfl (cu 536 [(2, .bool false)] [] rfl rfl rfl ?_)))))
  cases H
  exact rz rfl
  cases H
  exact rz rfl
theorem eZ.ac {k : Nat} {a0_0 : List ByteArray} {a0_1 : List aF} {a0_2 : List aB} {a0_3 : List aA} {r : Bool} (H : eZ.f k a0_0 a0_1 a0_2 a0_3 = some r) : cK Try.prog G 26 [] [.agg [(aG a0_0), (aE a0_1), (aD a0_2), (aC a0_3)]] [] (.bool r) := by
  refine bN tok hP Try.func26 rfl (by kernel_rfl) [.tmp 2] rfl (by kernel_rfl) (Nat.le_of_ble_eq_true rfl) (.l .n (.c .n .n)) rfl ?_
  unfold eZ.f at H
  revert H; refine aK (fun t8971 A H => (cmk (bO.ac A) rfl rfl (iI H (fun c H => ?_) (fun c H => ?_))))
  refine Br.t ft_ ?_
  revert H; refine aK (fun t8972 A H => (cmk (dD.ac A) rfl rfl (Br.t ft_ (iI H (fun c H => ?_) (fun c H => ?_)))))
  refine Br.t ft_ ?_
  revert H; refine aK (fun t8973 A H => (cmk (dC.ac A) rfl rfl (Br.t ft_ (cu 104 [(2, .bool t8973)] [] rfl rfl rfl ?_))))
  cases H
  exact rz rfl
  refine Br.f ff_ (Br.f ff_ (cu 104 [(2, .bool false)] [] rfl rfl rfl ?_))
  cases H
  exact rz rfl
  refine Br.f ff_ (Br.f ff_ (Br.f rfl (Br.f rfl (Br.f rfl (cu 104 [(2, .bool false)] [] rfl rfl rfl ?_)))))
  cases H
  exact rz rfl
theorem fI.ac {k : Nat} {a0_0 : List ByteArray} {a0_1 : List aF} {a0_2 : List aB} {a0_3 : List aA} {a1 : ByteArray} {r : Int} (H : fI.f k a0_0 a0_1 a0_2 a0_3 a1 = some r) : cK Try.prog G 49 [] [.agg [(aG a0_0), (aE a0_1), (aD a0_2), (aC a0_3)], .str a1] [] (.int .i64 r) := by
  refine bN tok hP Try.func49 rfl (by kernel_rfl) [.tmp 4] rfl (by kernel_rfl) (Nat.le_of_ble_eq_true rfl) (.l .n (.l .n (.l .n (.c .n .n)))) rfl ?_
  unfold fI.f at H
  revert H; refine aK (fun t9000 A H => (cmk (cO.ac A) rfl rfl (bT H (fun c H => ?_) (fun c H => ?_))))
  cases H
  exact rz rfl
  refine nd_ H (fun c H => (nd_ H (fun c H => (El.mk (bL _ _ nf_ nf_) (cu 120 [(4, .int .i64 ((aO a0_2 t9000).f1))] [] rfl rfl rfl ?_)))))
  cases H
  exact rz rfl
theorem gZ.ac {a0_0 : ByteArray} {a0_1 : ByteArray} {a0_2 : ByteArray} {a0_3 : ByteArray} {a1 : ByteArray} {r : ByteArray} (H : gZ.f a0_0 a0_1 a0_2 a0_3 a1 = some r) : cK Try.prog G 63 [] [.agg [.str a0_0, .str a0_1, .str a0_2, .str a0_3], .str a1] [] (.str r) := by
  refine bN tok hP Try.func63 rfl (by kernel_rfl) [.tmp 4] rfl (by kernel_rfl) (Nat.le_of_ble_eq_true rfl) (.l .n (.l .n (.l (.c .n .n) .n))) rfl ?_
  unfold gZ.f at H
  refine bT H (fun c H => ?_) (fun c H => ?_)
  cases H
  exact rz rfl
  refine cu 80 [(2, .bp 0 0), (14, .bool (decide (a0_2.toList = a1.toList)))] [(0, .box [.str a0_0, .str a0_1, .str a0_2, .str a0_3])] rfl rfl rfl (bT H (fun c H => ?_) (fun c H => ?_))
  cases H
  exact rz rfl
  cases H
  exact rz rfl
theorem fD.l0_lpO {F : (Exit → St → Prop) → St → Prop} {hv : List Tmp} {Q : Exit → St → Prop} {σ : St} {r : List aI} {k : Nat} {a0_0 : List ByteArray} {a0_1 : List aF} {a0_2 : List aB} {a0_3 : List aA} {a1_0 : List ByteArray} {a1_1 : List ByteArray} {a2 : ByteArray} {x7 : List aI} {x9 : Int} (H : fD.l0 k a0_0 a0_1 a0_2 a0_3 a1_0 a1_1 a2 x7 x9 = some r) (rn : List (Option Nat)) (h1 : cM σ σ [24] [(7, .own 0 x7.length), (9, .int .i64 x9)] [] [.deep 30 2 [9, 9] (x7.map aL)] rn)
    (h2 : ∀ (k0 : Nat) (x7 : List aI) (x9 : Int), k0 < k + 1 → fD.l0 k0 a0_0 a0_1 a0_2 a0_3 a1_0 a1_1 a2 x7 x9 = some r → dF σ hv [24] [(7, .own 0 x7.length), (9, .int .i64 x9)] [] [.deep 30 2 [9, 9] (x7.map aL)] (F (fun e σ' => match e with | .normal => ∃ (y : Nat × (List aI) × Int) (rn : List (Option Nat)), (fD.l0 y.1 a0_0 a0_1 a0_2 a0_3 a1_0 a1_1 a2 y.2.1 y.2.2 = some r ∧ y.1 < k + 1) ∧ y.1 < k0 ∧ cM σ σ' [24] [(7, .own 0 y.2.1.length), (9, .int .i64 y.2.2)] [] [.deep 30 2 [9, 9] (y.2.1.map aL)] rn | e => Q e σ'))) : Lp F hv Q σ := by
  unfold Lp
  refine ⟨Nat × (List aI) × Int, fun x => fD.l0 x.1 a0_0 a0_1 a0_2 a0_3 a1_0 a1_1 a2 x.2.1 x.2.2 = some r ∧ x.1 < k + 1, fun x => x.1, [24], fun x => [(7, .own 0 x.2.1.length), (9, .int .i64 x.2.2)], fun x => [], fun x => [.deep 30 2 [9, 9] (x.2.1.map aL)], ⟨(k, x7, x9), rn, ⟨H, Nat.lt_succ_self _⟩, h1⟩, ?_⟩
  rintro ⟨k, x7, x9⟩ ⟨H, hk⟩
  exact h2 k x7 x9 hk H
theorem fD.acO {k : Nat} {a0_0 : List ByteArray} {a0_1 : List aF} {a0_2 : List aB} {a0_3 : List aA} {a1_0 : List ByteArray} {a1_1 : List ByteArray} {a2 : ByteArray} {r : List aI} (H : fD.f k a0_0 a0_1 a0_2 a0_3 a1_0 a1_1 a2 = some r) : cK Try.prog G 54 [] [.agg [(aG a0_0), (aE a0_1), (aD a0_2), (aC a0_3)], .agg [(aG a1_0), (aG a1_1)], .str a2] [.deep 30 2 [9, 9] (r.map aL)] (.own 0 r.length) := by
  refine bN tok hP Try.func54 rfl (by kernel_rfl) [.tmp 6] rfl (by kernel_rfl) (Nat.le_of_ble_eq_true rfl) (.l .n (.l .n (.c .n (.l (.l .n (.l .n (.f 0 (.c .n (.l (.c .n .n) .n)) .n))) .n)))) rfl ?_
  unfold fD.f at H
  refine Or.inr (Or.inr ⟨rfl, [9, 9], ?_⟩)
  refine nd_ H (fun c H => (nd_ H (fun c H => (El.mk (aP _ _ nf_ nf_) (iQ 112 [(2, .str a2), (3, .bp 0 0), (4, .bp 8 0), (7, .own 24 0), (8, .str (bE ByteArray.empty a1_0 (wrap64 ((a1_0.length : Int) - 1))))] [(0, .box [(aG a0_0), (aE a0_1), (aD a0_2), (aC a0_3)]), (8, .box [(aG a1_0), (aG a1_1)]), (24, .deep 30 2 [9, 9] (([] : List aI).map aL))] rfl ⟨.inl rfl, ⟨.inl rfl, ⟨.inl rfl, ⟨.inl rfl, ⟨.inl rfl, trivial⟩⟩⟩⟩⟩ ⟨rfl, ⟨rfl, ⟨fm_, trivial⟩⟩⟩ (fD.l0_lpO (a0_0 := a0_0) (a0_1 := a0_1) (a0_2 := a0_2) (a0_3 := a0_3) (a1_0 := a1_0) (a1_1 := a1_1) (a2 := a2) (k := k) H [some 24] (bG ⟨eL lm_, ⟨.inl ⟨rfl, rfl⟩, trivial⟩⟩ ⟨rfl, trivial⟩ fi_ trivial rfl) ?_))))))
  intro k x7 x9 hk H; rcases k with _ | k; exact bD H; rw [fD.l0] at H
  refine bT H (fun c H => ?_) (fun c H => ?_)
  refine nd_ H (fun c H => (Nd.mk nf_ (El.mk (aZ _ _ nf_ nf_) ?_)))
  revert H; refine aK (fun t9351 A H => (cmk (gZ.ac A) rfl rfl (cu 225 [(2, .str a2), (3, .bp 0 0), (4, .bp 8 0), (7, .own 120 x7.length), (8, .str (bE ByteArray.empty a1_0 (wrap64 ((a1_0.length : Int) - 1)))), (9, .int .i64 x9), (10, .str t9351)] [(0, .box [(aG a0_0), (aE a0_1), (aD a0_2), (aC a0_3)]), (8, .box [(aG a1_0), (aG a1_1)]), (120, .deep 30 2 [9, 9] (x7.map aL))] rfl rfl rfl (bT H (fun c H => ?_) (fun c H => ?_)))))
  refine Br.t ft_ (Br.t ft_ (Br.t ft_ (Br.t ft_ (Br.t rfl (Br.t rfl (Br.t rfl (Br.t rfl (Br.t rfl (Br.t rfl (cu 377 [(2, .str a2), (3, .bp 0 0), (4, .bp 8 0), (7, .own 120 x7.length), (8, .str (bE ByteArray.empty a1_0 (wrap64 ((a1_0.length : Int) - 1)))), (9, .int .i64 x9), (10, .str t9351), (52, .bool true)] [(0, .box [(aG a0_0), (aE a0_1), (aD a0_2), (aC a0_3)]), (8, .box [(aG a1_0), (aG a1_1)]), (120, .deep 30 2 [9, 9] (x7.map aL))] rfl rfl rfl (Br.t rfl (jE 377 [] [(2, .str a2), (3, .bp 0 0), (4, .bp 8 0), (7, .own 120 x7.length), (8, .str (bE ByteArray.empty a1_0 (wrap64 ((a1_0.length : Int) - 1)))), (9, .int .i64 x9)] [(0, .box [(aG a0_0), (aE a0_1), (aD a0_2), (aC a0_3)]), (8, .box [(aG a1_0), (aG a1_1)]), (120, .deep 30 2 [9, 9] (x7.map aL))] rfl rfl ⟨.inl (.inl rfl), ⟨.inl (.inl rfl), ⟨.inl (.inl rfl), ⟨.inl (.inl rfl), ⟨.inl (.inl rfl), ⟨.inl (.inl rfl), trivial⟩⟩⟩⟩⟩⟩ ⟨.inl (rfl), ⟨.inl (rfl), ⟨.inl (rfl), trivial⟩⟩⟩ (⟨(k, x7, wrap64 (x9 + 1)), [some 120], ⟨H, lt_⟩, lt_, (bG ⟨rfl, ⟨.inl ⟨rfl, rfl⟩, trivial⟩⟩ ⟨rfl, trivial⟩ fi_ trivial rfl)⟩)))))))))))))
  refine Br.f ff_ (Br.f ff_ (Br.f ff_ ?_))
  revert H; refine aK (fun t9352 A H => (cmk (cG.ac A) rfl rfl (Br.f ff_ (iI H (fun c H => ?_) (fun c H => ?_)))))
  refine Br.t ft_ (Br.t ft_ (Br.t ft_ (Br.t ft_ (Br.t ft_ (cu 377 [(2, .str a2), (3, .bp 0 0), (4, .bp 8 0), (7, .own 120 x7.length), (8, .str (bE ByteArray.empty a1_0 (wrap64 ((a1_0.length : Int) - 1)))), (9, .int .i64 x9), (10, .str t9351), (52, .bool true)] [(0, .box [(aG a0_0), (aE a0_1), (aD a0_2), (aC a0_3)]), (8, .box [(aG a1_0), (aG a1_1)]), (120, .deep 30 2 [9, 9] (x7.map aL))] rfl rfl rfl (Br.t rfl (jE 377 [] [(2, .str a2), (3, .bp 0 0), (4, .bp 8 0), (7, .own 120 x7.length), (8, .str (bE ByteArray.empty a1_0 (wrap64 ((a1_0.length : Int) - 1)))), (9, .int .i64 x9)] [(0, .box [(aG a0_0), (aE a0_1), (aD a0_2), (aC a0_3)]), (8, .box [(aG a1_0), (aG a1_1)]), (120, .deep 30 2 [9, 9] (x7.map aL))] rfl rfl ⟨.inl (.inl rfl), ⟨.inl (.inl rfl), ⟨.inl (.inl rfl), ⟨.inl (.inl rfl), ⟨.inl (.inl rfl), ⟨.inl (.inl rfl), trivial⟩⟩⟩⟩⟩⟩ ⟨.inl (rfl), ⟨.inl (rfl), ⟨.inl (rfl), trivial⟩⟩⟩ (⟨(k, x7, wrap64 (x9 + 1)), [some 120], ⟨H, lt_⟩, lt_, (bG ⟨rfl, ⟨.inl ⟨rfl, rfl⟩, trivial⟩⟩ ⟨rfl, trivial⟩ fi_ trivial rfl)⟩))))))))
  refine Br.f ff_ (Br.f ff_ (Br.f ff_ (iW H (fun c H => ?_) (fun c H => ?_))))
  refine Br.f ff_ (Br.f ff_ (Br.f ff_ (Br.f ff_ (Br.f ff_ (Br.f ff_ (cu 377 [(2, .str a2), (3, .bp 0 0), (4, .bp 8 0), (7, .own 120 x7.length), (8, .str (bE ByteArray.empty a1_0 (wrap64 ((a1_0.length : Int) - 1)))), (9, .int .i64 x9), (10, .str t9351), (52, .bool false)] [(0, .box [(aG a0_0), (aE a0_1), (aD a0_2), (aC a0_3)]), (8, .box [(aG a1_0), (aG a1_1)]), (120, .deep 30 2 [9, 9] (x7.map aL))] rfl rfl rfl (Br.f rfl (Or.inl (nd_ H (fun c H => (Or.inl (nd_ H (fun c H => (Or.inl (nd_ H (fun c H => (Nd.mk nf_ (Nd.mk nf_ (El.mk (aZ _ _ nf_ nf_) (Or.inl (nd_ H (fun c H => (⟨[9, 9], ?_⟩)))))))))))))))))))))))
  refine nd_ H (fun c H => (jE 569 [1000000433, 1000000529, 2000000553] [(2, .str a2), (3, .bp 0 0), (4, .bp 8 0), (7, .own 553 (x7.length + 1)), (8, .str (bE ByteArray.empty a1_0 (wrap64 ((a1_0.length : Int) - 1)))), (9, .int .i64 x9)] [(0, .box [(aG a0_0), (aE a0_1), (aD a0_2), (aC a0_3)]), (8, .box [(aG a1_0), (aG a1_1)]), (553, .deep 30 2 [9, 9] ((x7 ++ ([(⟨((([] : List ByteArray) ++ a1_0) ++ ([t9351] : List ByteArray)), ((([] : List ByteArray) ++ a1_1) ++ ([(aH a0_3 x9).f0] : List ByteArray))⟩ : aI)] : List aI)).map aL))] rfl rfl ⟨.inl (.inl rfl), ⟨.inl (.inl rfl), ⟨.inl (.inl rfl), ⟨.inl (.inl rfl), ⟨.inl (.inl rfl), ⟨.inl (.inl rfl), trivial⟩⟩⟩⟩⟩⟩ ⟨.inl (rfl), ⟨.inl (rfl), ⟨sA [(aG ((([] : List ByteArray) ++ a1_0) ++ ([t9351] : List ByteArray))), (aG ((([] : List ByteArray) ++ a1_1) ++ ([(aH a0_3 x9).f0] : List ByteArray)))] rfl rfl ⟨rQ rfl rfl (.inr lm_) lm_ (qD jZ), ⟨rQ rfl rfl (.inr lm_) lm_ (qD jZ), trivial⟩⟩ (set_app _ lm_) rfl, trivial⟩⟩⟩ (⟨(k, (x7 ++ ([(⟨((([] : List ByteArray) ++ a1_0) ++ ([t9351] : List ByteArray)), ((([] : List ByteArray) ++ a1_1) ++ ([(aH a0_3 x9).f0] : List ByteArray))⟩ : aI)] : List aI)), wrap64 (x9 + 1)), [some 553], ⟨H, lt_⟩, lt_, (bG ⟨eL lm_, ⟨.inl ⟨rfl, rfl⟩, trivial⟩⟩ ⟨rfl, trivial⟩ fi_ trivial rfl)⟩)))
  refine Br.t ft_ (Br.t ft_ ?_)
  revert H; refine aK (fun t9353 A H => (cmk (fI.ac A) rfl rfl (Br.t ft_ (Br.f ff_ (Br.t ft_ (Br.f ff_ (cu 377 [(2, .str a2), (3, .bp 0 0), (4, .bp 8 0), (7, .own 120 x7.length), (8, .str (bE ByteArray.empty a1_0 (wrap64 ((a1_0.length : Int) - 1)))), (9, .int .i64 x9), (10, .str t9351), (52, .bool (decide (t9353 > 0)))] [(0, .box [(aG a0_0), (aE a0_1), (aD a0_2), (aC a0_3)]), (8, .box [(aG a1_0), (aG a1_1)]), (120, .deep 30 2 [9, 9] (x7.map aL))] rfl rfl rfl (bT H (fun c H => ?_) (fun c H => ?_)))))))))
  refine jE 377 [] [(2, .str a2), (3, .bp 0 0), (4, .bp 8 0), (7, .own 120 x7.length), (8, .str (bE ByteArray.empty a1_0 (wrap64 ((a1_0.length : Int) - 1)))), (9, .int .i64 x9)] [(0, .box [(aG a0_0), (aE a0_1), (aD a0_2), (aC a0_3)]), (8, .box [(aG a1_0), (aG a1_1)]), (120, .deep 30 2 [9, 9] (x7.map aL))] rfl rfl ⟨.inl (.inl rfl), ⟨.inl (.inl rfl), ⟨.inl (.inl rfl), ⟨.inl (.inl rfl), ⟨.inl (.inl rfl), ⟨.inl (.inl rfl), trivial⟩⟩⟩⟩⟩⟩ ⟨.inl (rfl), ⟨.inl (rfl), ⟨.inl (rfl), trivial⟩⟩⟩ (⟨(k, x7, wrap64 (x9 + 1)), [some 120], ⟨H, lt_⟩, lt_, (bG ⟨rfl, ⟨.inl ⟨rfl, rfl⟩, trivial⟩⟩ ⟨rfl, trivial⟩ fi_ trivial rfl)⟩)
  refine Or.inl (nd_ H (fun c H => (Or.inl (nd_ H (fun c H => (Or.inl (nd_ H (fun c H => (Nd.mk nf_ (Nd.mk nf_ (El.mk (aZ _ _ nf_ nf_) (Or.inl (nd_ H (fun c H => (⟨[9, 9], ?_⟩)))))))))))))))
  refine nd_ H (fun c H => (jE 569 [1000000433, 1000000529, 2000000553] [(2, .str a2), (3, .bp 0 0), (4, .bp 8 0), (7, .own 553 (x7.length + 1)), (8, .str (bE ByteArray.empty a1_0 (wrap64 ((a1_0.length : Int) - 1)))), (9, .int .i64 x9)] [(0, .box [(aG a0_0), (aE a0_1), (aD a0_2), (aC a0_3)]), (8, .box [(aG a1_0), (aG a1_1)]), (553, .deep 30 2 [9, 9] ((x7 ++ ([(⟨((([] : List ByteArray) ++ a1_0) ++ ([t9351] : List ByteArray)), ((([] : List ByteArray) ++ a1_1) ++ ([(aH a0_3 x9).f0] : List ByteArray))⟩ : aI)] : List aI)).map aL))] rfl rfl ⟨.inl (.inl rfl), ⟨.inl (.inl rfl), ⟨.inl (.inl rfl), ⟨.inl (.inl rfl), ⟨.inl (.inl rfl), ⟨.inl (.inl rfl), trivial⟩⟩⟩⟩⟩⟩ ⟨.inl (rfl), ⟨.inl (rfl), ⟨sA [(aG ((([] : List ByteArray) ++ a1_0) ++ ([t9351] : List ByteArray))), (aG ((([] : List ByteArray) ++ a1_1) ++ ([(aH a0_3 x9).f0] : List ByteArray)))] rfl rfl ⟨rQ rfl rfl (.inr lm_) lm_ (qD jZ), ⟨rQ rfl rfl (.inr lm_) lm_ (qD jZ), trivial⟩⟩ (set_app _ lm_) rfl, trivial⟩⟩⟩ (⟨(k, (x7 ++ ([(⟨((([] : List ByteArray) ++ a1_0) ++ ([t9351] : List ByteArray)), ((([] : List ByteArray) ++ a1_1) ++ ([(aH a0_3 x9).f0] : List ByteArray))⟩ : aI)] : List aI)), wrap64 (x9 + 1)), [some 553], ⟨H, lt_⟩, lt_, (bG ⟨eL lm_, ⟨.inl ⟨rfl, rfl⟩, trivial⟩⟩ ⟨rfl, trivial⟩ fi_ trivial rfl)⟩)))
  cases H
  exact eT [some 120] [] ((rfl)) ⟨rfl, trivial⟩ rfl
theorem aW.l2_lpO {F : (Exit → St → Prop) → St → Prop} {hv : List Tmp} {Q : Exit → St → Prop} {σ : St} {r : List aI} {k : Nat} {a0_0 : List ByteArray} {a0_1 : List aF} {a0_2 : List aB} {a0_3 : List aA} {a2 : ByteArray} {x8 : List aI} {x9 : Int} {x11 : Int} {x7_2 : List aI} {x10_1 : List aI} {x12 : List aI} {x12n : Nat} {x13 : Int} (H : aW.l2 k a0_0 a0_1 a0_2 a0_3 a2 x7_2 x8 x9 x10_1 x11 x12 x12n x13 = some r) (rn : List (Option Nat)) (h1 : cM σ σ [346, 347, 428] [(7, .own 0 x7_2.length), (10, .own 1 x10_1.length), (12, .own 2 x12.length), (13, .int .i64 x13)] [] [.deep 30 2 [9, 9] (x7_2.map aL), .deep 30 2 [9, 9] (x10_1.map aL), .tail 30 2 [9, 9] (x12.map aL) x12n] rn)
    (h2 : ∀ (k0 : Nat) (x7_2 : List aI) (x10_1 : List aI) (x12 : List aI) (x12n : Nat) (x13 : Int), k0 < k + 1 → aW.l2 k0 a0_0 a0_1 a0_2 a0_3 a2 x7_2 x8 x9 x10_1 x11 x12 x12n x13 = some r → dF σ hv [346, 347, 428] [(7, .own 0 x7_2.length), (10, .own 1 x10_1.length), (12, .own 2 x12.length), (13, .int .i64 x13)] [] [.deep 30 2 [9, 9] (x7_2.map aL), .deep 30 2 [9, 9] (x10_1.map aL), .tail 30 2 [9, 9] (x12.map aL) x12n] (F (fun e σ' => match e with | .normal => ∃ (y : Nat × (List aI) × (List aI) × (List aI) × Nat × Int) (rn : List (Option Nat)), (aW.l2 y.1 a0_0 a0_1 a0_2 a0_3 a2 y.2.1 x8 x9 y.2.2.1 x11 y.2.2.2.1 y.2.2.2.2.1 y.2.2.2.2.2 = some r ∧ y.1 < k + 1) ∧ y.1 < k0 ∧ cM σ σ' [346, 347, 428] [(7, .own 0 y.2.1.length), (10, .own 1 y.2.2.1.length), (12, .own 2 y.2.2.2.1.length), (13, .int .i64 y.2.2.2.2.2)] [] [.deep 30 2 [9, 9] (y.2.1.map aL), .deep 30 2 [9, 9] (y.2.2.1.map aL), .tail 30 2 [9, 9] (y.2.2.2.1.map aL) y.2.2.2.2.1] rn | e => Q e σ'))) : Lp F hv Q σ := by
  unfold Lp
  refine ⟨Nat × (List aI) × (List aI) × (List aI) × Nat × Int, fun x => aW.l2 x.1 a0_0 a0_1 a0_2 a0_3 a2 x.2.1 x8 x9 x.2.2.1 x11 x.2.2.2.1 x.2.2.2.2.1 x.2.2.2.2.2 = some r ∧ x.1 < k + 1, fun x => x.1, [346, 347, 428], fun x => [(7, .own 0 x.2.1.length), (10, .own 1 x.2.2.1.length), (12, .own 2 x.2.2.2.1.length), (13, .int .i64 x.2.2.2.2.2)], fun x => [], fun x => [.deep 30 2 [9, 9] (x.2.1.map aL), .deep 30 2 [9, 9] (x.2.2.1.map aL), .tail 30 2 [9, 9] (x.2.2.2.1.map aL) x.2.2.2.2.1], ⟨(k, x7_2, x10_1, x12, x12n, x13), rn, ⟨H, Nat.lt_succ_self _⟩, h1⟩, ?_⟩
  rintro ⟨k, x7_2, x10_1, x12, x12n, x13⟩ ⟨H, hk⟩
  exact h2 k x7_2 x10_1 x12 x12n x13 hk H
theorem aW.l1_lpO {F : (Exit → St → Prop) → St → Prop} {hv : List Tmp} {Q : Exit → St → Prop} {σ : St} {r : List aI} {k : Nat} {a0_0 : List ByteArray} {a0_1 : List aF} {a0_2 : List aB} {a0_3 : List aA} {a2 : ByteArray} {x8 : List aI} {x9 : Int} {x7_1 : List aI} {x10 : List aI} {x11 : Int} (H : aW.l1 k a0_0 a0_1 a0_2 a0_3 a2 x7_1 x8 x9 x10 x11 = some r) (rn : List (Option Nat)) (h1 : cM σ σ [240, 322] [(7, .own 0 x7_1.length), (10, .own 1 x10.length), (11, .int .i64 x11)] [] [.deep 30 2 [9, 9] (x7_1.map aL), .deep 30 2 [9, 9] (x10.map aL)] rn)
    (h2 : ∀ (k0 : Nat) (x7_1 : List aI) (x10 : List aI) (x11 : Int), k0 < k + 1 → aW.l1 k0 a0_0 a0_1 a0_2 a0_3 a2 x7_1 x8 x9 x10 x11 = some r → dF σ hv [240, 322] [(7, .own 0 x7_1.length), (10, .own 1 x10.length), (11, .int .i64 x11)] [] [.deep 30 2 [9, 9] (x7_1.map aL), .deep 30 2 [9, 9] (x10.map aL)] (F (fun e σ' => match e with | .normal => ∃ (y : Nat × (List aI) × (List aI) × Int) (rn : List (Option Nat)), (aW.l1 y.1 a0_0 a0_1 a0_2 a0_3 a2 y.2.1 x8 x9 y.2.2.1 y.2.2.2 = some r ∧ y.1 < k + 1) ∧ y.1 < k0 ∧ cM σ σ' [240, 322] [(7, .own 0 y.2.1.length), (10, .own 1 y.2.2.1.length), (11, .int .i64 y.2.2.2)] [] [.deep 30 2 [9, 9] (y.2.1.map aL), .deep 30 2 [9, 9] (y.2.2.1.map aL)] rn | e => Q e σ'))) : Lp F hv Q σ := by
  unfold Lp
  refine ⟨Nat × (List aI) × (List aI) × Int, fun x => aW.l1 x.1 a0_0 a0_1 a0_2 a0_3 a2 x.2.1 x8 x9 x.2.2.1 x.2.2.2 = some r ∧ x.1 < k + 1, fun x => x.1, [240, 322], fun x => [(7, .own 0 x.2.1.length), (10, .own 1 x.2.2.1.length), (11, .int .i64 x.2.2.2)], fun x => [], fun x => [.deep 30 2 [9, 9] (x.2.1.map aL), .deep 30 2 [9, 9] (x.2.2.1.map aL)], ⟨(k, x7_1, x10, x11), rn, ⟨H, Nat.lt_succ_self _⟩, h1⟩, ?_⟩
  rintro ⟨k, x7_1, x10, x11⟩ ⟨H, hk⟩
  exact h2 k x7_1 x10 x11 hk H
theorem aW.l0_lpO {F : (Exit → St → Prop) → St → Prop} {hv : List Tmp} {Q : Exit → St → Prop} {σ : St} {r : List aI} {k : Nat} {a0_0 : List ByteArray} {a0_1 : List aF} {a0_2 : List aB} {a0_3 : List aA} {a2 : ByteArray} {x7 : List aI} {x8 : List aI} {x9 : Int} (H : aW.l0 k a0_0 a0_1 a0_2 a0_3 a2 x7 x8 x9 = some r) (rn : List (Option Nat)) (h1 : cM σ σ [16, 216] [(7, .own 0 x7.length), (8, .own 1 x8.length), (9, .int .i64 x9)] [] [.deep 30 2 [9, 9] (x7.map aL), .deep 30 2 [9, 9] (x8.map aL)] rn)
    (h2 : ∀ (k0 : Nat) (x7 : List aI) (x8 : List aI) (x9 : Int), k0 < k + 1 → aW.l0 k0 a0_0 a0_1 a0_2 a0_3 a2 x7 x8 x9 = some r → dF σ hv [16, 216] [(7, .own 0 x7.length), (8, .own 1 x8.length), (9, .int .i64 x9)] [] [.deep 30 2 [9, 9] (x7.map aL), .deep 30 2 [9, 9] (x8.map aL)] (F (fun e σ' => match e with | .normal => ∃ (y : Nat × (List aI) × (List aI) × Int) (rn : List (Option Nat)), (aW.l0 y.1 a0_0 a0_1 a0_2 a0_3 a2 y.2.1 y.2.2.1 y.2.2.2 = some r ∧ y.1 < k + 1) ∧ y.1 < k0 ∧ cM σ σ' [16, 216] [(7, .own 0 y.2.1.length), (8, .own 1 y.2.2.1.length), (9, .int .i64 y.2.2.2)] [] [.deep 30 2 [9, 9] (y.2.1.map aL), .deep 30 2 [9, 9] (y.2.2.1.map aL)] rn | e => Q e σ'))) : Lp F hv Q σ := by
  unfold Lp
  refine ⟨Nat × (List aI) × (List aI) × Int, fun x => aW.l0 x.1 a0_0 a0_1 a0_2 a0_3 a2 x.2.1 x.2.2.1 x.2.2.2 = some r ∧ x.1 < k + 1, fun x => x.1, [16, 216], fun x => [(7, .own 0 x.2.1.length), (8, .own 1 x.2.2.1.length), (9, .int .i64 x.2.2.2)], fun x => [], fun x => [.deep 30 2 [9, 9] (x.2.1.map aL), .deep 30 2 [9, 9] (x.2.2.1.map aL)], ⟨(k, x7, x8, x9), rn, ⟨H, Nat.lt_succ_self _⟩, h1⟩, ?_⟩
  rintro ⟨k, x7, x8, x9⟩ ⟨H, hk⟩
  exact h2 k x7 x8 x9 hk H
theorem aW.acO {k : Nat} {a0_0 : List ByteArray} {a0_1 : List aF} {a0_2 : List aB} {a0_3 : List aA} {a1 : ByteArray} {a2 : ByteArray} {r : List aI} (H : aW.f k a0_0 a0_1 a0_2 a0_3 a1 a2 = some r) : cK Try.prog G 34 [] [.agg [(aG a0_0), (aE a0_1), (aD a0_2), (aC a0_3)], .str a1, .str a2] [.deep 30 2 [9, 9] (r.map aL)] (.own 0 r.length) := by
  refine bN tok hP Try.func34 rfl (by kernel_rfl) [.tmp 6] rfl (by kernel_rfl) (Nat.le_of_ble_eq_true rfl) (.l .n (.l .n (.l (.c .n (.l (.c .n .n) .n)) (.l .n (.l (.f 0 .n (.l (.c .n .n) (.l (.c .n (.l (.l .n (.l .n (.l (.c .n (.f 0 .n (.l .n (.f 0 (.f 0 .n .n) .n)))) .n))) .n)) .n))) .n))))) rfl ?_
  unfold aW.f at H
  refine Or.inr (Or.inr ⟨rfl, [9, 9], ?_⟩)
  revert H; refine aK (fun t9492 A H => (cmk (eZ.ac A) rfl rfl (dY H (fun c H => ?_) (fun c H => ?_))))
  refine Br.f ff_ (Br.f ff_ (Br.f ff_ (bT H (fun c H => ?_) (fun c H => ?_))))
  refine Br.t ft_ (Br.t ft_ (Br.t ft_ (Br.t ft_ (Br.t rfl (Br.t rfl (Br.t rfl (Br.t rfl (Br.t rfl (iQ 192 [(1, .str a1), (2, .str a2), (3, .bp 0 0), (7, .own 16 0), (34, .bool true)] [(0, .box [(aG a0_0), (aE a0_1), (aD a0_2), (aC a0_3)]), (16, .deep 30 2 [9, 9] (([] : List aI).map aL))] rfl ⟨.inl rfl, ⟨.inl rfl, ⟨.inl rfl, ⟨.inl rfl, ⟨.inl rfl, trivial⟩⟩⟩⟩⟩ ⟨rfl, ⟨fm_, trivial⟩⟩ (Br.t rfl (cu 208 [(6, .own 16 0)] [(16, .deep 30 2 [9, 9] (([] : List aI).map aL))] rfl rfl rfl ?_)))))))))))
  cases H
  exact eT [some 16] [] ((eL lm_)) ⟨rfl, trivial⟩ rfl
  refine Br.f ff_ (Br.f ff_ ?_)
  revert H; refine aK (fun t9493 A H => (cmk (fI.ac A) rfl rfl (Br.f ff_ (Br.f ff_ (bT H (fun c H => ?_) (fun c H => ?_))))))
  refine Br.t ft_ (Br.t ft_ (Br.t ft_ (Br.t ft_ (iQ 192 [(1, .str a1), (2, .str a2), (3, .bp 0 0), (7, .own 16 0), (34, .bool true)] [(0, .box [(aG a0_0), (aE a0_1), (aD a0_2), (aC a0_3)]), (16, .deep 30 2 [9, 9] (([] : List aI).map aL))] rfl ⟨.inl rfl, ⟨.inl rfl, ⟨.inl rfl, ⟨.inl rfl, ⟨.inl rfl, trivial⟩⟩⟩⟩⟩ ⟨rfl, ⟨fm_, trivial⟩⟩ (Br.t rfl (cu 208 [(6, .own 16 0)] [(16, .deep 30 2 [9, 9] (([] : List aI).map aL))] rfl rfl rfl ?_))))))
  cases H
  exact eT [some 16] [] ((eL lm_)) ⟨rfl, trivial⟩ rfl
  refine Br.f ff_ (Br.f ff_ ?_)
  revert H; refine aK (fun t9494 A H => (cmk (fI.ac A) rfl rfl (Br.f ff_ (Br.f ff_ (iQ 192 [(1, .str a1), (2, .str a2), (3, .bp 0 0), (7, .own 16 0), (34, .bool (decide (t9494 < 1)))] [(0, .box [(aG a0_0), (aE a0_1), (aD a0_2), (aC a0_3)]), (16, .deep 30 2 [9, 9] (([] : List aI).map aL))] rfl ⟨.inl rfl, ⟨.inl rfl, ⟨.inl rfl, ⟨.inl rfl, ⟨.inl rfl, trivial⟩⟩⟩⟩⟩ ⟨rfl, ⟨fm_, trivial⟩⟩ (bT H (fun c H => ?_) (fun c H => ?_)))))))
  refine cu 208 [(6, .own 16 0)] [(16, .deep 30 2 [9, 9] (([] : List aI).map aL))] rfl rfl rfl ?_
  cases H
  exact eT [some 16] [] ((eL lm_)) ⟨rfl, trivial⟩ rfl
  refine Or.inl (⟨[9, 9], ?_⟩)
  refine jE 240 [1000000200, 2000000216] [(2, .str a2), (3, .bp 0 0), (7, .own 16 0), (8, .own 216 1), (9, .int .i64 0)] [(0, .box [(aG a0_0), (aE a0_1), (aD a0_2), (aC a0_3)]), (16, .deep 30 2 [9, 9] (([] : List aI).map aL)), (216, .deep 30 2 [9, 9] (([(⟨([a1] : List ByteArray), []⟩ : aI)] : List aI).map aL))] rfl rfl ⟨.inl (.inl rfl), ⟨.inl (.inl rfl), ⟨.inl (.inl rfl), ⟨.inl (.inl rfl), ⟨.inl (.inl rfl), trivial⟩⟩⟩⟩⟩ ⟨.inl (rfl), ⟨.inl (rfl), ⟨sA [(aG ([a1] : List ByteArray)), .sl 1 0 ([].map bB)] rfl rfl ⟨rQ rfl rfl (.inr lm_) lm_ (qD jZ), ⟨.inr (.inl ⟨rfl, rfl, rfl⟩), trivial⟩⟩ lm_ rfl, trivial⟩⟩⟩ (aW.l0_lpO (a0_0 := a0_0) (a0_1 := a0_1) (a0_2 := a0_2) (a0_3 := a0_3) (a2 := a2) (k := k) H [some 16, some 216] (bG ⟨eL lm_, ⟨eL lm_, ⟨.inl ⟨rfl, rfl⟩, trivial⟩⟩⟩ ⟨rfl, ⟨rfl, trivial⟩⟩ fi_ trivial rfl) ?_)
  intro k x7 x8 x9 hk H; rcases k with _ | k; exact bD H; rw [aW.l0] at H
  refine bT H (fun c H => ?_) (fun c H => ?_)
  refine Br.t ft_ (Br.t ft_ (Br.t ft_ (cu 322 [(2, .str a2), (3, .bp 0 0), (7, .own 240 x7.length), (8, .own 241 x8.length), (9, .int .i64 x9), (49, .bool (decide ((x8.length : Int) > 0)))] [(0, .box [(aG a0_0), (aE a0_1), (aD a0_2), (aC a0_3)]), (240, .deep 30 2 [9, 9] (x7.map aL)), (241, .deep 30 2 [9, 9] (x8.map aL))] rfl rfl rfl (bT H (fun c H => ?_) (fun c H => ?_)))))
  refine Or.inr (Or.inr ⟨rfl, [9, 9], ?_⟩)
  refine iQ 338 [(2, .str a2), (3, .bp 0 0), (7, .own 240 x7.length), (8, .own 241 x8.length), (9, .int .i64 x9), (10, .own 322 0)] [(0, .box [(aG a0_0), (aE a0_1), (aD a0_2), (aC a0_3)]), (240, .deep 30 2 [9, 9] (x7.map aL)), (241, .deep 30 2 [9, 9] (x8.map aL)), (322, .deep 30 2 [9, 9] (([] : List aI).map aL))] rfl ⟨.inl rfl, ⟨.inl rfl, ⟨.inl rfl, ⟨.inl rfl, ⟨.inl rfl, ⟨.inl rfl, trivial⟩⟩⟩⟩⟩⟩ ⟨rfl, ⟨rfl, ⟨rfl, ⟨fm_, trivial⟩⟩⟩⟩ (aW.l1_lpO (a0_0 := a0_0) (a0_1 := a0_1) (a0_2 := a0_2) (a0_3 := a0_3) (a2 := a2) (x8 := x8) (x9 := x9) (k := k) H [some 240, some 322] (bG ⟨rfl, ⟨eL lm_, ⟨.inl ⟨rfl, rfl⟩, trivial⟩⟩⟩ ⟨rfl, ⟨rfl, trivial⟩⟩ fi_ trivial rfl) ?_)
  intro k x7_1 x10 x11 hk H; rcases k with _ | k; exact bD H; rw [aW.l1] at H
  refine bT H (fun c H => ?_) (fun c H => ?_)
  refine nd_ H (fun c H => (Nd.mk nf_ (El.mk (bU _ _ nf_ nf_) ?_)))
  revert H; refine aK (fun t9510 A H => (fM (fD.acO A) (bW (gC (bR (bS rfl) (bR (bS rfl) (bR (bS rfl) (bR (bS rfl) (gB)))))) (bW (gC (bR (aAA rfl rfl (bU _ _ nf_ nf_) rfl lm_ lm_) (bR (aAA rfl rfl (bU _ _ nf_ nf_) rfl lm_ lm_) (gB)))) (bW (hY rfl) (fE)))) (Or.inr ⟨rfl, zP (trivial) (nD)⟩) rfl rfl (Nat.le_of_ble_eq_true rfl) (cu 444 [(2, .str a2), (3, .bp 0 0), (7, .own 346 x7_1.length), (8, .own 241 x8.length), (9, .int .i64 x9), (10, .own 347 x10.length), (11, .int .i64 x11), (12, .own 428 t9510.length)] [(0, .box [(aG a0_0), (aE a0_1), (aD a0_2), (aC a0_3)]), (241, .deep 30 2 [9, 9] (x8.map aL)), (346, .deep 30 2 [9, 9] (x7_1.map aL)), (347, .deep 30 2 [9, 9] (x10.map aL)), (428, .deep 30 2 [9, 9] (t9510.map aL))] rfl rfl rfl (jE 452 [] [(2, .str a2), (3, .bp 0 0), (7, .own 346 x7_1.length), (8, .own 241 x8.length), (9, .int .i64 x9), (10, .own 347 x10.length), (11, .int .i64 x11), (12, .own 428 t9510.length), (13, .int .i64 0)] [(0, .box [(aG a0_0), (aE a0_1), (aD a0_2), (aC a0_3)]), (241, .deep 30 2 [9, 9] (x8.map aL)), (346, .deep 30 2 [9, 9] (x7_1.map aL)), (347, .deep 30 2 [9, 9] (x10.map aL)), (428, .tail 30 2 [9, 9] (t9510.map aL) 0)] rfl rfl ⟨.inl (.inl rfl), ⟨.inl (.inl rfl), ⟨.inl (.inl rfl), ⟨.inl (.inl rfl), ⟨.inl (.inl rfl), ⟨.inl (.inl rfl), ⟨.inl (.inl rfl), ⟨.inl (.inl rfl), ⟨.inl (.inl rfl), trivial⟩⟩⟩⟩⟩⟩⟩⟩⟩ ⟨.inl (rfl), ⟨.inl (rfl), ⟨.inl (rfl), ⟨.inl (rfl), ⟨.inr (.inl rfl), trivial⟩⟩⟩⟩⟩ (aW.l2_lpO (a0_0 := a0_0) (a0_1 := a0_1) (a0_2 := a0_2) (a0_3 := a0_3) (a2 := a2) (x8 := x8) (x9 := x9) (x11 := x11) (k := k) H [some 346, some 347, some 428] (bG ⟨rfl, ⟨rfl, ⟨rfl, ⟨.inl ⟨rfl, rfl⟩, trivial⟩⟩⟩⟩ ⟨rfl, ⟨rfl, ⟨rfl, trivial⟩⟩⟩ fi_ trivial rfl) ?_)))))
  intro k x7_2 x10_1 x12 x12n x13 hk H; rcases k with _ | k; exact bD H; rw [aW.l2] at H
  refine bT H (fun c H => ?_) (fun c H => ?_)
  refine nd_ H (fun c H => (Nd.mk nf_ (El.mk (bU _ _ nf_ nf_) (nd_ H (fun c H => (Nd.mk nf_ (Nd.mk nf_ (El.mk (bU _ _ nf_ nf_) (Nd.mk nf_ (El.mk (bU _ _ nf_ nf_) (Nd.mk nf_ (nd_ H (fun c H => (nd_ H (fun c H => (El.mk (bU _ _ nf_ nf_) (Nd.mk nf_ (El.mk (aP _ _ nf_ nf_) (jE 615 [] [(2, .str a2), (3, .bp 0 0), (7, .own 452 x7_2.length), (8, .own 241 x8.length), (9, .int .i64 x9), (10, .own 453 x10_1.length), (11, .int .i64 x11), (12, .own 454 x12.length), (13, .int .i64 x13), (87, .bool (!(decide ((bE ByteArray.empty ((aM x12 x13).f0) (wrap64 ((((aM x12 x13).f0).length : Int) - 1))).toList = a2.toList))))] [(0, .box [(aG a0_0), (aE a0_1), (aD a0_2), (aC a0_3)]), (241, .deep 30 2 [9, 9] (x8.map aL)), (452, .deep 30 2 [9, 9] (x7_2.map aL)), (453, .deep 30 2 [9, 9] (x10_1.map aL)), (454, .tail 30 2 [9, 9] (x12.map aL) x12n)] rfl rfl ⟨.inl (.inl rfl), ⟨.inl (.inl rfl), ⟨.inl (.inl rfl), ⟨.inl (.inl rfl), ⟨.inl (.inl rfl), ⟨.inl (.inl rfl), ⟨.inl (.inl rfl), ⟨.inl (.inl rfl), ⟨.inl (.inl rfl), ⟨.inl (.inl rfl), trivial⟩⟩⟩⟩⟩⟩⟩⟩⟩⟩ ⟨.inl (rfl), ⟨.inl (rfl), ⟨.inl (rfl), ⟨.inl (rfl), ⟨.inl (rfl), trivial⟩⟩⟩⟩⟩ (iW H (fun c H => ?_) (fun c H => ?_)))))))))))))))))))))
  refine bT H (fun c H => ?_) (fun c H => ?_)
  refine Nd.mk nf_ (Nd.mk nf_ (El.mk (bU _ _ nf_ nf_) (Nd.mk nf_ (⟨[9, 9], ?_⟩))))
  refine nd_ H (fun c H => (jE 703 [2000000687] [(2, .str a2), (3, .bp 0 0), (7, .own 687 (x7_2.length + 1)), (8, .own 241 x8.length), (9, .int .i64 x9), (10, .own 453 x10_1.length), (11, .int .i64 x11), (12, .own 454 x12.length), (13, .int .i64 x13)] [(0, .box [(aG a0_0), (aE a0_1), (aD a0_2), (aC a0_3)]), (241, .deep 30 2 [9, 9] (x8.map aL)), (453, .deep 30 2 [9, 9] (x10_1.map aL)), (454, .tail 30 2 [9, 9] (x12.map aL) ((x13).toNat + 1)), (687, .deep 30 2 [9, 9] ((x7_2 ++ ([(⟨(aM x12 x13).f0, (aM x12 x13).f1⟩ : aI)] : List aI)).map aL))] rfl rfl ⟨.inl (.inl rfl), ⟨.inl (.inl rfl), ⟨.inl (.inl rfl), ⟨.inl (.inl rfl), ⟨.inl (.inl rfl), ⟨.inl (.inl rfl), ⟨.inl (.inl rfl), ⟨.inl (.inl rfl), ⟨.inl (.inl rfl), trivial⟩⟩⟩⟩⟩⟩⟩⟩⟩ ⟨.inl (rfl), ⟨.inl (rfl), ⟨.inl (rfl), ⟨.inr (.inr ⟨_, rfl, Nat.le_succ_of_le nf_⟩), ⟨sA [(aG ((aM x12 x13).f0)), (aG ((aM x12 x13).f1))] rfl rfl ⟨rL rfl nf_ (bU _ _ nf_ nf_) rfl lm_ lm_ rfl rfl (Nat.lt_succ_self _), ⟨rL rfl nf_ (bU _ _ nf_ nf_) rfl lm_ lm_ rfl rfl (Nat.lt_succ_self _), trivial⟩⟩ (set_app _ lm_) rfl, trivial⟩⟩⟩⟩⟩ (⟨(k, (x7_2 ++ ([(⟨(aM x12 x13).f0, (aM x12 x13).f1⟩ : aI)] : List aI)), x10_1, x12, (x13).toNat + 1, wrap64 (x13 + 1)), [some 687, some 453, some 454], ⟨H, lt_⟩, lt_, (bG ⟨eL lm_, ⟨rfl, ⟨rfl, ⟨.inl ⟨rfl, rfl⟩, trivial⟩⟩⟩⟩ ⟨rfl, ⟨rfl, ⟨rfl, trivial⟩⟩⟩ fi_ trivial rfl)⟩)))
  refine jE 639 [] [(2, .str a2), (3, .bp 0 0), (7, .own 452 x7_2.length), (8, .own 241 x8.length), (9, .int .i64 x9), (10, .own 453 x10_1.length), (11, .int .i64 x11), (12, .own 454 x12.length), (13, .int .i64 x13)] [(0, .box [(aG a0_0), (aE a0_1), (aD a0_2), (aC a0_3)]), (241, .deep 30 2 [9, 9] (x8.map aL)), (452, .deep 30 2 [9, 9] (x7_2.map aL)), (453, .deep 30 2 [9, 9] (x10_1.map aL)), (454, .tail 30 2 [9, 9] (x12.map aL) x12n)] rfl rfl ⟨.inl (.inl rfl), ⟨.inl (.inl rfl), ⟨.inl (.inl rfl), ⟨.inl (.inl rfl), ⟨.inl (.inl rfl), ⟨.inl (.inl rfl), ⟨.inl (.inl rfl), ⟨.inl (.inl rfl), ⟨.inl (.inl rfl), trivial⟩⟩⟩⟩⟩⟩⟩⟩⟩ ⟨.inl (rfl), ⟨.inl (rfl), ⟨.inl (rfl), ⟨.inl (rfl), ⟨.inl (rfl), trivial⟩⟩⟩⟩⟩ (⟨(k, x7_2, x10_1, x12, x12n, wrap64 (x13 + 1)), [some 452, some 453, some 454], ⟨H, lt_⟩, lt_, (bG ⟨rfl, ⟨rfl, ⟨rfl, ⟨.inl ⟨rfl, rfl⟩, trivial⟩⟩⟩⟩ ⟨rfl, ⟨rfl, ⟨rfl, trivial⟩⟩⟩ fi_ trivial rfl)⟩)
  refine Nd.mk nf_ (Nd.mk nf_ (El.mk (bU _ _ nf_ nf_) (Nd.mk nf_ (⟨[9, 9], ?_⟩))))
  refine nd_ H (fun c H => (jE 679 [2000000663] [(2, .str a2), (3, .bp 0 0), (7, .own 452 x7_2.length), (8, .own 241 x8.length), (9, .int .i64 x9), (10, .own 663 (x10_1.length + 1)), (11, .int .i64 x11), (12, .own 454 x12.length), (13, .int .i64 x13)] [(0, .box [(aG a0_0), (aE a0_1), (aD a0_2), (aC a0_3)]), (241, .deep 30 2 [9, 9] (x8.map aL)), (452, .deep 30 2 [9, 9] (x7_2.map aL)), (454, .tail 30 2 [9, 9] (x12.map aL) ((x13).toNat + 1)), (663, .deep 30 2 [9, 9] ((x10_1 ++ ([(⟨(aM x12 x13).f0, (aM x12 x13).f1⟩ : aI)] : List aI)).map aL))] rfl rfl ⟨.inl (.inl rfl), ⟨.inl (.inl rfl), ⟨.inl (.inl rfl), ⟨.inl (.inl rfl), ⟨.inl (.inl rfl), ⟨.inl (.inl rfl), ⟨.inl (.inl rfl), ⟨.inl (.inl rfl), ⟨.inl (.inl rfl), trivial⟩⟩⟩⟩⟩⟩⟩⟩⟩ ⟨.inl (rfl), ⟨.inl (rfl), ⟨.inl (rfl), ⟨.inr (.inr ⟨_, rfl, Nat.le_succ_of_le nf_⟩), ⟨sA [(aG ((aM x12 x13).f0)), (aG ((aM x12 x13).f1))] rfl rfl ⟨rL rfl nf_ (bU _ _ nf_ nf_) rfl lm_ lm_ rfl rfl (Nat.lt_succ_self _), ⟨rL rfl nf_ (bU _ _ nf_ nf_) rfl lm_ lm_ rfl rfl (Nat.lt_succ_self _), trivial⟩⟩ (set_app _ lm_) rfl, trivial⟩⟩⟩⟩⟩ (⟨(k, x7_2, (x10_1 ++ ([(⟨(aM x12 x13).f0, (aM x12 x13).f1⟩ : aI)] : List aI)), x12, (x13).toNat + 1, wrap64 (x13 + 1)), [some 452, some 663, some 454], ⟨H, lt_⟩, lt_, (bG ⟨rfl, ⟨eL lm_, ⟨rfl, ⟨.inl ⟨rfl, rfl⟩, trivial⟩⟩⟩⟩ ⟨rfl, ⟨rfl, ⟨rfl, trivial⟩⟩⟩ fi_ trivial rfl)⟩)))
  exact ⟨(k, x7_2, x10_1, wrap64 (x11 + 1)), [some 452, some 453], ⟨H, lt_⟩, lt_, (bG ⟨rfl, ⟨rfl, ⟨.inl ⟨rfl, rfl⟩, trivial⟩⟩⟩ ⟨rfl, ⟨rfl, trivial⟩⟩ fi_ trivial rfl)⟩
  exact ⟨(k, x7_1, x10, wrap64 (x9 + 1)), [some 346, some 347], ⟨H, lt_⟩, lt_, (bG ⟨rfl, ⟨rfl, ⟨.inl ⟨rfl, rfl⟩, trivial⟩⟩⟩ ⟨rfl, ⟨rfl, trivial⟩⟩ fi_ trivial rfl)⟩
  cases H
  exact eT [some 240] [] ((rfl)) ⟨rfl, trivial⟩ rfl
  refine Br.f ff_ (Br.f ff_ (Br.f ff_ (cu 322 [(2, .str a2), (3, .bp 0 0), (7, .own 240 x7.length), (8, .own 241 x8.length), (9, .int .i64 x9), (49, .bool false)] [(0, .box [(aG a0_0), (aE a0_1), (aD a0_2), (aC a0_3)]), (240, .deep 30 2 [9, 9] (x7.map aL)), (241, .deep 30 2 [9, 9] (x8.map aL))] rfl rfl rfl (Br.f rfl ?_))))
  cases H
  exact eT [some 240] [] ((rfl)) ⟨rfl, trivial⟩ rfl
  refine Br.t ft_ (Br.t ft_ (Br.t ft_ (Br.t rfl (Br.t rfl (Br.t rfl (Br.t rfl (Br.t rfl (Br.t rfl (Br.t rfl (Br.t rfl (Br.t rfl (Br.t rfl (iQ 192 [(1, .str a1), (2, .str a2), (3, .bp 0 0), (7, .own 16 0), (34, .bool true)] [(0, .box [(aG a0_0), (aE a0_1), (aD a0_2), (aC a0_3)]), (16, .deep 30 2 [9, 9] (([] : List aI).map aL))] rfl ⟨.inl rfl, ⟨.inl rfl, ⟨.inl rfl, ⟨.inl rfl, ⟨.inl rfl, trivial⟩⟩⟩⟩⟩ ⟨rfl, ⟨fm_, trivial⟩⟩ (Br.t rfl (cu 208 [(6, .own 16 0)] [(16, .deep 30 2 [9, 9] (([] : List aI).map aL))] rfl rfl rfl ?_)))))))))))))))
  cases H
  exact eT [some 16] [] ((eL lm_)) ⟨rfl, trivial⟩ rfl
theorem fA.l0_lp {F : (Exit → St → Prop) → St → Prop} {hv : List Tmp} {Q : Exit → St → Prop} {σ : St} {r : (List ByteArray) × (List ByteArray) × (List Int) × Int} {k : Nat} {a1_0 : List ByteArray} {a1_1 : List aF} {a1_2 : List aB} {a1_3 : List aA} {x5 : Int} {x1000000 : List Int} {x1000001 : Int} (H : fA.l0 k a1_0 a1_1 a1_2 a1_3 x5 x1000000 x1000001 = some r) (rn : List (Option Nat)) (h1 : cM σ σ [0] [(5, .int .i64 x5)] [(0, .box [(bP x1000000), .int .i64 x1000001])] [] rn)
    (h2 : ∀ (k0 : Nat) (x5 : Int) (x1000000 : List Int) (x1000001 : Int), k0 < k + 1 → fA.l0 k0 a1_0 a1_1 a1_2 a1_3 x5 x1000000 x1000001 = some r → dF σ hv [0] [(5, .int .i64 x5)] [(0, .box [(bP x1000000), .int .i64 x1000001])] [] (F (fun e σ' => match e with | .normal => ∃ (y : Nat × Int × (List Int) × Int) (rn : List (Option Nat)), (fA.l0 y.1 a1_0 a1_1 a1_2 a1_3 y.2.1 y.2.2.1 y.2.2.2 = some r ∧ y.1 < k + 1) ∧ y.1 < k0 ∧ cM σ σ' [0] [(5, .int .i64 y.2.1)] [(0, .box [(bP y.2.2.1), .int .i64 y.2.2.2])] [] rn | e => Q e σ'))) : Lp F hv Q σ := by
  unfold Lp
  refine ⟨Nat × Int × (List Int) × Int, fun x => fA.l0 x.1 a1_0 a1_1 a1_2 a1_3 x.2.1 x.2.2.1 x.2.2.2 = some r ∧ x.1 < k + 1, fun x => x.1, [0], fun x => [(5, .int .i64 x.2.1)], fun x => [(0, .box [(bP x.2.2.1), .int .i64 x.2.2.2])], fun x => [], ⟨(k, x5, x1000000, x1000001), rn, ⟨H, Nat.lt_succ_self _⟩, h1⟩, ?_⟩
  rintro ⟨k, x5, x1000000, x1000001⟩ ⟨H, hk⟩
  exact h2 k x5 x1000000 x1000001 hk H
theorem fA.ac {k : Nat} {a0_0 : List Int} {a0_1 : Int} {a1_0 : List ByteArray} {a1_1 : List aF} {a1_2 : List aB} {a1_3 : List aA} {r : (List ByteArray) × (List ByteArray) × (List Int) × Int} (H : fA.f k a0_0 a0_1 a1_0 a1_1 a1_2 a1_3 = some r) : cK Try.prog G 15 [.box [(bP a0_0), .int .i64 a0_1]] [.bp 0 0, .agg [(aG a1_0), (aE a1_1), (aD a1_2), (aC a1_3)]] [.box [(bP r.2.2.1), .int .i64 r.2.2.2]] (.agg [(aG r.1), (aG r.2.1)]) := by
  refine bN tok hP Try.func15 rfl (by kernel_rfl) [.cell 4 30] rfl (by kernel_rfl) (Nat.le_of_ble_eq_true rfl) (.l .n (.l (.l .n (.l .n (.l (.c .n (.l .n (.l (.c .n (.c .n (.f 1 (.c .n (.f 1 .n .n)) .n))) .n))) .n))) .n)) rfl ?_
  unfold fA.f at H
  refine fA.l0_lp (a1_0 := a1_0) (a1_1 := a1_1) (a1_2 := a1_2) (a1_3 := a1_3) (k := k) H [] (bG ⟨.inl ⟨rfl, rfl⟩, trivial⟩ trivial fi_ ⟨⟨_, rfl⟩, ⟨_, rfl, ⟨.inl ⟨rfl, rfl⟩, ⟨.inl ⟨rfl, rfl⟩, trivial⟩⟩⟩, trivial⟩ rfl) ?_
  intro k x5 x1000000 x1000001 hk H; rcases k with _ | k; exact bD H; rw [fA.l0] at H
  refine bT H (fun c H => ?_) (fun c H => ?_)
  revert H; refine aK (fun t9787 A H => (bQ [0] (dM.ac A) ⟨rfl, trivial⟩ rfl rfl rfl rfl rfl rfl rfl rfl ?_))
  revert H; refine aK (fun t9788 A H => (bQ [0] (dM.ac A) ⟨rfl, trivial⟩ rfl rfl rfl rfl rfl rfl rfl rfl ?_))
  revert H; refine aK (fun t9789 A H => (cmk (aW.acO A) rfl rfl (cu 113 [(0, .bp 0 0), (3, .bp 1 0), (4, .bp 9 0), (5, .int .i64 x5), (6, .own 97 t9789.length)] [(0, .box [(bP t9788.2.1), .int .i64 t9788.2.2]), (1, .box [(aG a1_0), (aE a1_1), (aD a1_2), (aC a1_3)]), (9, .box [.nil, .nil]), (97, .deep 30 2 [9, 9] (t9789.map aL))] rfl rfl rfl (bT H (fun c H => ?_) (fun c H => ?_)))))
  revert H; refine aK (fun t9790 A H => (bQ [0] (aN.ac A) ⟨rfl, trivial⟩ rfl rfl rfl rfl rfl rfl rfl rfl (nd_ H (fun c H => (nd_ H (fun c H => (El.mk (bU _ _ nf_ nf_) (cu 209 [(0, .bp 0 0), (3, .bp 1 0), (4, .bp 9 0), (7, .bp 193 0)] [(0, .box [(bP t9790.2.1), .int .i64 t9790.2.2]), (1, .box [(aG a1_0), (aE a1_1), (aD a1_2), (aC a1_3)]), (9, .box [.nil, .nil]), (97, .deep 30 2 [9, 9] (t9789.map aL)), (193, .box [.dsl 97 (t9790.1).toNat 0 (((aM t9789 t9790.1).f0).length), .dsl 97 (t9790.1).toNat 1 (((aM t9789 t9790.1).f1).length)])] rfl rfl rfl ?_))))))))
  revert H; refine aK (fun t9791 A H => (bQ [0] (aN.ac A) ⟨rfl, trivial⟩ rfl rfl rfl rfl rfl rfl rfl rfl (bT H (fun c H => ?_) (fun c H => ?_))))
  revert H; refine aK (fun t9792 A H => (bQ [0] (aN.ac A) ⟨rfl, trivial⟩ rfl rfl rfl rfl rfl rfl rfl rfl ?_))
  revert H; refine aK (fun t9793 A H => (bQ [0] (fY.ac A) ⟨rfl, trivial⟩ rfl rfl rfl rfl rfl rfl rfl rfl (El.mk (bU _ _ nf_ nf_) (nd_ H (fun c H => (nd_ H (fun c H => (El.mk (bU _ _ nf_ nf_) (El.mk (aP _ _ nf_ nf_) (⟨(((aM t9789 t9790.1).f0).set (t9792.1).toNat t9793.1).length, (((aM t9789 t9790.1).f0).set (t9792.1).toNat t9793.1).map bB, lm_, lm_, ?_⟩))))))))))
  refine iQ 329 [(0, .bp 0 0), (4, .bp 9 0), (7, .bp 193 0)] [(0, .box [(bP t9793.2.1), .int .i64 t9793.2.2]), (9, .box [.nil, .nil]), (97, .deep 30 2 [9, 9] ((t9789.set (t9790.1).toNat (⟨(((aM t9789 t9790.1).f0).set (t9792.1).toNat t9793.1), (aM t9789 t9790.1).f1⟩ : aI)).map aL)), (193, .box [.dsl 97 (t9790.1).toNat 0 (((aM t9789 t9790.1).f0).length), .dsl 97 (t9790.1).toNat 1 (((aM t9789 t9790.1).f1).length)])] rfl ⟨.inl rfl, ⟨.inl rfl, ⟨.inl rfl, trivial⟩⟩⟩ ⟨rfl, ⟨rfl, ⟨fm_, ⟨rfl, trivial⟩⟩⟩⟩ ?_
  revert H; refine aK (fun t9794 A H => (bQ [0] (aN.ac A) ⟨rfl, trivial⟩ rfl rfl rfl rfl rfl rfl rfl rfl (cu 353 [(4, .bp 9 0), (7, .bp 193 0), (46, .bool (decide (t9794.1 = 0)))] [(0, .box [(bP t9794.2.1), .int .i64 t9794.2.2]), (9, .box [.nil, .nil]), (97, .deep 30 2 [9, 9] ((t9789.set (t9790.1).toNat (⟨(((aM t9789 t9790.1).f0).set (t9792.1).toNat t9793.1), (aM t9789 t9790.1).f1⟩ : aI)).map aL)), (193, .box [.dsl 97 (t9790.1).toNat 0 (((aM t9789 t9790.1).f0).length), .dsl 97 (t9790.1).toNat 1 (((aM t9789 t9790.1).f1).length)])] rfl rfl rfl (bT H (fun c H => ?_) (fun c H => ?_)))))
  refine jE 353 [97] [(4, .bp 9 0), (7, .bp 193 0)] [(0, .box [(bP t9794.2.1), .int .i64 t9794.2.2]), (9, .box [.nil, .nil]), (193, .box [(aG (((aM t9789 t9790.1).f0).set (t9792.1).toNat t9793.1)), (aG ((aM t9789 t9790.1).f1))])] rfl rfl ⟨.inl (.inl rfl), ⟨.inl (.inl rfl), trivial⟩⟩ ⟨.inl (rfl), ⟨.inl (rfl), ⟨.inr ⟨_, rfl, ⟨mW rfl rfl (vX (ys := (t9789.set (t9790.1).toNat (⟨(((aM t9789 t9790.1).f0).set (t9792.1).toNat t9793.1), (aM t9789 t9790.1).f1⟩ : aI)).map aL) lm_ (aEZ aL _ _ _ nf_ nf_)) rfl lm_ lm_, ⟨mW rfl rfl (vX (ys := (t9789.set (t9790.1).toNat (⟨(((aM t9789 t9790.1).f0).set (t9792.1).toNat t9793.1), (aM t9789 t9790.1).f1⟩ : aI)).map aL) lm_ (aEZ aL _ _ _ nf_ nf_)) rfl lm_ lm_, trivial⟩⟩⟩, trivial⟩⟩⟩ (Nd.mk (by decide) (nd_ H (fun c H => (jE 393 [] [(4, .bp 9 0), (7, .bp 193 0)] [(0, .box [(bP t9794.2.1), .int .i64 t9794.2.2]), (9, .box [.nil, .nil]), (193, .box [(aG (((aM t9789 t9790.1).f0).set (t9792.1).toNat t9793.1)), .sl 1 (((aM t9789 t9790.1).f1).length - (1 : Int).toNat) ((((aM t9789 t9790.1).f1).drop (1 : Int).toNat).map bB)])] rfl rfl ⟨.inl (.inl rfl), ⟨.inl (.inl rfl), trivial⟩⟩ ⟨.inl (rfl), ⟨.inl (rfl), ⟨.inl (zY rfl ⟨rfl, ⟨kF rfl lm_ lm_, trivial⟩⟩), trivial⟩⟩⟩ ?_))))
  cases H
  exact eT [some 0] [] ((gW (cC (fW rfl) (cC (aDD lm_ lm_) (hQ))))) ⟨rfl, trivial⟩ rfl
  refine jE 353 [] [(4, .bp 9 0), (7, .bp 193 0)] [(0, .box [(bP t9794.2.1), .int .i64 t9794.2.2]), (9, .box [.nil, .nil]), (97, .deep 30 2 [9, 9] ((t9789.set (t9790.1).toNat (⟨(((aM t9789 t9790.1).f0).set (t9792.1).toNat t9793.1), (aM t9789 t9790.1).f1⟩ : aI)).map aL)), (193, .box [.dsl 97 (t9790.1).toNat 0 (((aM t9789 t9790.1).f0).length), .dsl 97 (t9790.1).toNat 1 (((aM t9789 t9790.1).f1).length)])] rfl rfl ⟨.inl (.inl rfl), ⟨.inl (.inl rfl), trivial⟩⟩ ⟨.inl (rfl), ⟨.inl (rfl), ⟨.inl (rfl), ⟨.inl (rfl), trivial⟩⟩⟩⟩ (jE 353 [97] [(4, .bp 9 0), (7, .bp 193 0)] [(0, .box [(bP t9794.2.1), .int .i64 t9794.2.2]), (9, .box [.nil, .nil]), (193, .box [(aG (((aM t9789 t9790.1).f0).set (t9792.1).toNat t9793.1)), (aG ((aM t9789 t9790.1).f1))])] rfl rfl ⟨.inl (.inl rfl), ⟨.inl (.inl rfl), trivial⟩⟩ ⟨.inl (rfl), ⟨.inl (rfl), ⟨.inr ⟨_, rfl, ⟨mW rfl rfl (vX (ys := (t9789.set (t9790.1).toNat (⟨(((aM t9789 t9790.1).f0).set (t9792.1).toNat t9793.1), (aM t9789 t9790.1).f1⟩ : aI)).map aL) lm_ (aEZ aL _ _ _ nf_ nf_)) rfl lm_ lm_, ⟨mW rfl rfl (vX (ys := (t9789.set (t9790.1).toNat (⟨(((aM t9789 t9790.1).f0).set (t9792.1).toNat t9793.1), (aM t9789 t9790.1).f1⟩ : aI)).map aL) lm_ (aEZ aL _ _ _ nf_ nf_)) rfl lm_ lm_, trivial⟩⟩⟩, trivial⟩⟩⟩ ?_)
  cases H
  exact eT [some 0] [] ((rta rfl)) ⟨rfl, trivial⟩ rfl
  refine cu 233 [(0, .bp 0 0), (4, .bp 9 0), (7, .bp 193 0)] [(0, .box [(bP t9791.2.1), .int .i64 t9791.2.2]), (9, .box [.nil, .nil]), (97, .deep 30 2 [9, 9] (t9789.map aL)), (193, .box [.dsl 97 (t9790.1).toNat 0 (((aM t9789 t9790.1).f0).length), .dsl 97 (t9790.1).toNat 1 (((aM t9789 t9790.1).f1).length)])] rfl rfl rfl ?_
  revert H; refine aK (fun t9795 A H => (bQ [0] (aN.ac A) ⟨rfl, trivial⟩ rfl rfl rfl rfl rfl rfl rfl rfl (cu 257 [(4, .bp 9 0), (7, .bp 193 0), (46, .bool (decide (t9795.1 = 0)))] [(0, .box [(bP t9795.2.1), .int .i64 t9795.2.2]), (9, .box [.nil, .nil]), (97, .deep 30 2 [9, 9] (t9789.map aL)), (193, .box [.dsl 97 (t9790.1).toNat 0 (((aM t9789 t9790.1).f0).length), .dsl 97 (t9790.1).toNat 1 (((aM t9789 t9790.1).f1).length)])] rfl rfl rfl (bT H (fun c H => ?_) (fun c H => ?_)))))
  refine jE 257 [97] [(4, .bp 9 0), (7, .bp 193 0)] [(0, .box [(bP t9795.2.1), .int .i64 t9795.2.2]), (9, .box [.nil, .nil]), (193, .box [(aG ((aM t9789 t9790.1).f0)), (aG ((aM t9789 t9790.1).f1))])] rfl rfl ⟨.inl (.inl rfl), ⟨.inl (.inl rfl), trivial⟩⟩ ⟨.inl (rfl), ⟨.inl (rfl), ⟨.inr ⟨_, rfl, ⟨mW rfl rfl (bU _ _ nf_ nf_) rfl lm_ lm_, ⟨mW rfl rfl (bU _ _ nf_ nf_) rfl lm_ lm_, trivial⟩⟩⟩, trivial⟩⟩⟩ (Nd.mk (by decide) (nd_ H (fun c H => (jE 297 [] [(4, .bp 9 0), (7, .bp 193 0)] [(0, .box [(bP t9795.2.1), .int .i64 t9795.2.2]), (9, .box [.nil, .nil]), (193, .box [(aG ((aM t9789 t9790.1).f0)), .sl 1 (((aM t9789 t9790.1).f1).length - (1 : Int).toNat) ((((aM t9789 t9790.1).f1).drop (1 : Int).toNat).map bB)])] rfl rfl ⟨.inl (.inl rfl), ⟨.inl (.inl rfl), trivial⟩⟩ ⟨.inl (rfl), ⟨.inl (rfl), ⟨.inl (zY rfl ⟨rfl, ⟨kF rfl lm_ lm_, trivial⟩⟩), trivial⟩⟩⟩ ?_))))
  cases H
  exact eT [some 0] [] ((gW (cC (fW rfl) (cC (aDD lm_ lm_) (hQ))))) ⟨rfl, trivial⟩ rfl
  refine jE 257 [] [(4, .bp 9 0), (7, .bp 193 0)] [(0, .box [(bP t9795.2.1), .int .i64 t9795.2.2]), (9, .box [.nil, .nil]), (97, .deep 30 2 [9, 9] (t9789.map aL)), (193, .box [.dsl 97 (t9790.1).toNat 0 (((aM t9789 t9790.1).f0).length), .dsl 97 (t9790.1).toNat 1 (((aM t9789 t9790.1).f1).length)])] rfl rfl ⟨.inl (.inl rfl), ⟨.inl (.inl rfl), trivial⟩⟩ ⟨.inl (rfl), ⟨.inl (rfl), ⟨.inl (rfl), ⟨.inl (rfl), trivial⟩⟩⟩⟩ (jE 257 [97] [(4, .bp 9 0), (7, .bp 193 0)] [(0, .box [(bP t9795.2.1), .int .i64 t9795.2.2]), (9, .box [.nil, .nil]), (193, .box [(aG ((aM t9789 t9790.1).f0)), (aG ((aM t9789 t9790.1).f1))])] rfl rfl ⟨.inl (.inl rfl), ⟨.inl (.inl rfl), trivial⟩⟩ ⟨.inl (rfl), ⟨.inl (rfl), ⟨.inr ⟨_, rfl, ⟨mW rfl rfl (bU _ _ nf_ nf_) rfl lm_ lm_, ⟨mW rfl rfl (bU _ _ nf_ nf_) rfl lm_ lm_, trivial⟩⟩⟩, trivial⟩⟩⟩ ?_)
  cases H
  exact eT [some 0] [] ((rta rfl)) ⟨rfl, trivial⟩ rfl
  exact ⟨(k, wrap64 (x5 + 1), t9788.2.1, t9788.2.2), [], ⟨H, lt_⟩, lt_, (bG ⟨.inl ⟨rfl, rfl⟩, trivial⟩ trivial fi_ ⟨⟨_, rfl⟩, ⟨_, rfl, ⟨.inl ⟨rfl, rfl⟩, ⟨.inl ⟨rfl, rfl⟩, trivial⟩⟩⟩, trivial⟩ rfl)⟩
  refine Or.inl ?_
  cases H
  exact eT [some 0] [41] ((gW (cC (jH rfl lm_ lm_ rfl) (cC (aHH) (hQ))))) ⟨rfl, trivial⟩ rfl
theorem eU.l0_lpO {F : (Exit → St → Prop) → St → Prop} {hv : List Tmp} {Q : Exit → St → Prop} {σ : St} {r : (List ByteArray) × (List Int) × Int} {k : Nat} {a1_3 : List aA} {x5 : List ByteArray} {x6 : Int} {x1000000 : List Int} {x1000001 : Int} (H : eU.l0 k a1_3 x5 x6 x1000000 x1000001 = some r) (rn : List (Option Nat)) (h1 : cM σ σ [0, 17] [(5, .own 0 x5.length), (6, .int .i64 x6)] [(0, .box [(bP x1000000), .int .i64 x1000001])] [.arr 9 1 (x5.map bB)] rn)
    (h2 : ∀ (k0 : Nat) (x5 : List ByteArray) (x6 : Int) (x1000000 : List Int) (x1000001 : Int), k0 < k + 1 → eU.l0 k0 a1_3 x5 x6 x1000000 x1000001 = some r → dF σ hv [0, 17] [(5, .own 0 x5.length), (6, .int .i64 x6)] [(0, .box [(bP x1000000), .int .i64 x1000001])] [.arr 9 1 (x5.map bB)] (F (fun e σ' => match e with | .normal => ∃ (y : Nat × (List ByteArray) × Int × (List Int) × Int) (rn : List (Option Nat)), (eU.l0 y.1 a1_3 y.2.1 y.2.2.1 y.2.2.2.1 y.2.2.2.2 = some r ∧ y.1 < k + 1) ∧ y.1 < k0 ∧ cM σ σ' [0, 17] [(5, .own 0 y.2.1.length), (6, .int .i64 y.2.2.1)] [(0, .box [(bP y.2.2.2.1), .int .i64 y.2.2.2.2])] [.arr 9 1 (y.2.1.map bB)] rn | e => Q e σ'))) : Lp F hv Q σ := by
  unfold Lp
  refine ⟨Nat × (List ByteArray) × Int × (List Int) × Int, fun x => eU.l0 x.1 a1_3 x.2.1 x.2.2.1 x.2.2.2.1 x.2.2.2.2 = some r ∧ x.1 < k + 1, fun x => x.1, [0, 17], fun x => [(5, .own 0 x.2.1.length), (6, .int .i64 x.2.2.1)], fun x => [(0, .box [(bP x.2.2.2.1), .int .i64 x.2.2.2.2])], fun x => [.arr 9 1 (x.2.1.map bB)], ⟨(k, x5, x6, x1000000, x1000001), rn, ⟨H, Nat.lt_succ_self _⟩, h1⟩, ?_⟩
  rintro ⟨k, x5, x6, x1000000, x1000001⟩ ⟨H, hk⟩
  exact h2 k x5 x6 x1000000 x1000001 hk H
theorem eU.acO {k : Nat} {a0_0 : List Int} {a0_1 : Int} {a1_0 : List ByteArray} {a1_1 : List aF} {a1_2 : List aB} {a1_3 : List aA} {r : (List ByteArray) × (List Int) × Int} (H : eU.f k a0_0 a0_1 a1_0 a1_1 a1_2 a1_3 = some r) : cK Try.prog G 16 [.box [(bP a0_0), .int .i64 a0_1]] [.bp 0 0, .agg [(aG a1_0), (aE a1_1), (aD a1_2), (aC a1_3)]] [.box [(bP r.2.1), .int .i64 r.2.2], .arr 9 1 (r.1.map bB)] (.own 1 r.1.length) := by
  refine bN tok hP Try.func16 rfl (by kernel_rfl) [.tmp 4] rfl (by kernel_rfl) (Nat.le_of_ble_eq_true rfl) (.l .n (.l .n (.l (.l .n (.l (.c .n .n) (.c .n .n))) (.c .n (.c .n .n))))) rfl ?_
  unfold eU.f at H
  refine Or.inl (eU.l0_lpO (a1_3 := a1_3) (k := k) H [some 17] (bG ⟨eL lm_, ⟨.inl ⟨rfl, rfl⟩, trivial⟩⟩ ⟨fm_, trivial⟩ fi_ ⟨⟨_, rfl⟩, ⟨_, rfl, ⟨.inl ⟨rfl, rfl⟩, ⟨.inl ⟨rfl, rfl⟩, trivial⟩⟩⟩, trivial⟩ rfl) ?_)
  intro k x5 x6 x1000000 x1000001 hk H; rcases k with _ | k; exact bD H; rw [eU.l0] at H
  refine cu 82 [(0, .bp 0 0), (3, .bp 1 0), (5, .own 41 x5.length), (6, .int .i64 x6), (12, .bool (decide (x6 < (a1_3.length : Int))))] [(0, .box [(bP x1000000), .int .i64 x1000001]), (1, .box [(aG a1_0), (aE a1_1), (aD a1_2), (aC a1_3)]), (41, .arr 9 1 (x5.map bB))] rfl rfl rfl (bT H (fun c H => ?_) (fun c H => ?_))
  revert H; refine aK (fun t9966 A H => (bQ [0] (aN.ac A) ⟨rfl, trivial⟩ rfl rfl rfl rfl rfl rfl rfl rfl (bT H (fun c H => ?_) (fun c H => ?_))))
  refine nd_ H (fun c H => (Nd.mk nf_ (El.mk (aZ _ _ nf_ nf_) (Or.inl (nd_ H (fun c H => (iQ 186 [(0, .bp 0 0), (3, .bp 1 0), (5, .own 170 (x5.length + 1)), (6, .int .i64 x6)] [(0, .box [(bP t9966.2.1), .int .i64 t9966.2.2]), (1, .box [(aG a1_0), (aE a1_1), (aD a1_2), (aC a1_3)]), (170, .arr 9 1 ((x5 ++ ([(aH a1_3 x6).f0] : List ByteArray)).map bB))] rfl ⟨.inl rfl, ⟨.inl rfl, ⟨.inl rfl, ⟨.inl rfl, trivial⟩⟩⟩⟩ ⟨rfl, ⟨rfl, ⟨fm_, trivial⟩⟩⟩ (⟨(k, (x5 ++ ([(aH a1_3 x6).f0] : List ByteArray)), wrap64 (x6 + 1), t9966.2.1, t9966.2.2), [some 170], ⟨H, lt_⟩, lt_, (bG ⟨eL lm_, ⟨.inl ⟨rfl, rfl⟩, trivial⟩⟩ ⟨rfl, trivial⟩ fi_ ⟨⟨_, rfl⟩, ⟨_, rfl, ⟨.inl ⟨rfl, rfl⟩, ⟨.inl ⟨rfl, rfl⟩, trivial⟩⟩⟩, trivial⟩ rfl)⟩))))))))
  refine cu 106 [(0, .bp 0 0), (3, .bp 1 0), (5, .own 41 x5.length), (6, .int .i64 x6)] [(0, .box [(bP t9966.2.1), .int .i64 t9966.2.2]), (1, .box [(aG a1_0), (aE a1_1), (aD a1_2), (aC a1_3)]), (41, .arr 9 1 (x5.map bB))] rfl rfl rfl (⟨(k, x5, wrap64 (x6 + 1), t9966.2.1, t9966.2.2), [some 41], ⟨H, lt_⟩, lt_, (bG ⟨rfl, ⟨.inl ⟨rfl, rfl⟩, trivial⟩⟩ ⟨rfl, trivial⟩ fi_ ⟨⟨_, rfl⟩, ⟨_, rfl, ⟨.inl ⟨rfl, rfl⟩, ⟨.inl ⟨rfl, rfl⟩, trivial⟩⟩⟩, trivial⟩ rfl)⟩)
  revert H; refine aK (fun t9970 A H => (bQ [0] (aN.ac A) ⟨rfl, trivial⟩ rfl rfl rfl rfl rfl rfl rfl rfl (bT H (fun c H => ?_) (fun c H => ?_))))
  refine Or.inr (Or.inl ?_)
  revert H; refine aK (fun t9971 A H => (bQ [0] (bF.ac A) ⟨rfl, trivial⟩ rfl rfl rfl rfl rfl (iX ⟨rfl, ⟨kF rfl lm_ lm_, trivial⟩⟩) rfl rfl (Or.inl (nd_ H (fun c H => (iQ 162 [(5, .own 146 (x5.length + 1))] [(0, .box [(bP t9971.2.1), .int .i64 t9971.2.2]), (146, .arr 9 1 ((x5 ++ ([t9971.1] : List ByteArray)).map bB))] rfl ⟨.inl rfl, trivial⟩ ⟨rfl, ⟨fm_, trivial⟩⟩ (cu 178 [(4, .own 146 (x5.length + 1))] [(0, .box [(bP t9971.2.1), .int .i64 t9971.2.2]), (146, .arr 9 1 ((x5 ++ ([t9971.1] : List ByteArray)).map bB))] rfl rfl rfl ?_)))))))
  cases H
  exact eT [some 0, some 146] [] ((eL lm_)) ⟨rfl, ⟨rfl, trivial⟩⟩ rfl
  refine cu 106 [(5, .own 41 x5.length)] [(0, .box [(bP t9970.2.1), .int .i64 t9970.2.2]), (41, .arr 9 1 (x5.map bB))] rfl rfl rfl (cu 122 [(4, .own 41 x5.length)] [(0, .box [(bP t9970.2.1), .int .i64 t9970.2.2]), (41, .arr 9 1 (x5.map bB))] rfl rfl rfl ?_)
  cases H
  exact eT [some 0, some 41] [] ((rfl)) ⟨rfl, ⟨rfl, trivial⟩⟩ rfl
theorem iU.ac {k : Nat} {a0_0 : List ByteArray} {a0_1 : List aF} {a0_2 : List aB} {a0_3 : List aA} {a1 : ByteArray} {a2 : ByteArray} {a3 : ByteArray} {r : Bool} (H : iU.f k a0_0 a0_1 a0_2 a0_3 a1 a2 a3 = some r) : cK Try.prog G 50 [] [.agg [(aG a0_0), (aE a0_1), (aD a0_2), (aC a0_3)], .str a1, .str a2, .str a3] [] (.bool r) := by
  refine bN tok hP Try.func50 rfl (by kernel_rfl) [.tmp 8] rfl (by kernel_rfl) (Nat.le_of_ble_eq_true rfl) (.l .n (.l .n (.c .n .n))) rfl ?_
  unfold iU.f at H
  revert H; refine aK (fun t10131 A H => (cmk (cY.ac A) rfl rfl (bT H (fun c H => ?_) (fun c H => ?_))))
  refine Br.t ft_ (Br.t ft_ (Br.t ft_ (nd_ H (fun c H => (nd_ H (fun c H => (El.mk (aZ _ _ nf_ nf_) (Br.t ft_ (Br.t ft_ (Br.t ft_ ?_))))))))))
  revert H; refine aK (fun t10133 A H => (cmk (gZ.ac A) rfl rfl (Br.t ft_ (Br.t ft_ (Br.t ft_ (cu 160 [(8, .bool (decide (t10133.toList = a3.toList)))] [] rfl rfl rfl ?_))))))
  cases H
  exact rz rfl
  refine Br.f ff_ (Br.f ff_ (Br.f ff_ (Br.f ff_ (Br.f ff_ (Br.f ff_ (Br.f ff_ (Br.f ff_ (Br.f ff_ (cu 160 [(8, .bool false)] [] rfl rfl rfl ?_)))))))))
  cases H
  exact rz rfl
theorem bZ.j0_sq {F : (Exit → St → Prop) → St → Prop} {hv : List Tmp} {K : St → Prop} {Q : Exit → St → Prop} {σ : St} {r : Bool} {KK : Nat} {a0_0 : List ByteArray} {a0_1 : List aF} {a0_2 : List aB} {a0_3 : List aA} {a1_0 : List ByteArray} {a1_1 : List ByteArray} {x6 : Int}
    (h1 : F (fun e σ' => match e with | .normal => ∃ (y : Nat) (rn : List (Option Nat)), (bZ.j0 y a0_0 a0_1 a0_2 a0_3 a1_0 a1_1 x6 = some r ∧ y < KK) ∧ cM σ σ' [] [] [] [] rn | e => Q e σ') σ)
    (h2 : ∀ (k : Nat), k < KK → bZ.j0 k a0_0 a0_1 a0_2 a0_3 a1_0 a1_1 x6 = some r → dF σ hv [] [] [] [] K) : Sq F hv K Q σ := by
  unfold Sq
  refine ⟨Nat, fun x => bZ.j0 x a0_0 a0_1 a0_2 a0_3 a1_0 a1_1 x6 = some r ∧ x < KK, [], fun x => [], fun x => [], fun x => [], h1, ?_⟩
  rintro k ⟨H, hk⟩
  exact h2 k hk H
theorem bZ.l0_lp {F : (Exit → St → Prop) → St → Prop} {hv : List Tmp} {Q : Exit → St → Prop} {σ : St} {r : Bool} {k : Nat} {a0_0 : List ByteArray} {a0_1 : List aF} {a0_2 : List aB} {a0_3 : List aA} {a1_0 : List ByteArray} {a1_1 : List ByteArray} {x6 : Int} (H : bZ.l0 k a0_0 a0_1 a0_2 a0_3 a1_0 a1_1 x6 = some r) (rn : List (Option Nat)) (h1 : cM σ σ [] [(6, .int .i64 x6)] [] [] rn)
    (h2 : ∀ (k0 : Nat) (x6 : Int), k0 < k + 1 → bZ.l0 k0 a0_0 a0_1 a0_2 a0_3 a1_0 a1_1 x6 = some r → dF σ hv [] [(6, .int .i64 x6)] [] [] (F (fun e σ' => match e with | .normal => ∃ (y : Nat × Int) (rn : List (Option Nat)), (bZ.l0 y.1 a0_0 a0_1 a0_2 a0_3 a1_0 a1_1 y.2 = some r ∧ y.1 < k + 1) ∧ y.1 < k0 ∧ cM σ σ' [] [(6, .int .i64 y.2)] [] [] rn | e => Q e σ'))) : Lp F hv Q σ := by
  unfold Lp
  refine ⟨Nat × Int, fun x => bZ.l0 x.1 a0_0 a0_1 a0_2 a0_3 a1_0 a1_1 x.2 = some r ∧ x.1 < k + 1, fun x => x.1, [], fun x => [(6, .int .i64 x.2)], fun x => [], fun x => [], ⟨(k, x6), rn, ⟨H, Nat.lt_succ_self _⟩, h1⟩, ?_⟩
  rintro ⟨k, x6⟩ ⟨H, hk⟩
  exact h2 k x6 hk H
theorem bZ.ac {k : Nat} {a0_0 : List ByteArray} {a0_1 : List aF} {a0_2 : List aB} {a0_3 : List aA} {a1_0 : List ByteArray} {a1_1 : List ByteArray} {r : Bool} (H : bZ.f k a0_0 a0_1 a0_2 a0_3 a1_0 a1_1 = some r) : cK Try.prog G 27 [] [.agg [(aG a0_0), (aE a0_1), (aD a0_2), (aC a0_3)], .agg [(aG a1_0), (aG a1_1)]] [] (.bool r) := by
  refine bN tok hP Try.func27 rfl (by kernel_rfl) [.tmp 4] rfl (by kernel_rfl) (Nat.le_of_ble_eq_true rfl) (.l .n (.l .n (.l (.c .n (.l (.c .n .n) .n)) (.l (.l .n (.l .n (.l (.j (.c .n (.l (.c .n .n) .n)) (.c .n .n)) .n))) .n)))) rfl ?_
  unfold bZ.f at H
  refine bT H (fun c H => ?_) (fun c H => ?_)
  refine Br.t ft_ (Br.t ft_ (Br.t ft_ (Br.t ft_ (Br.t ft_ (Br.t ft_ (Br.t rfl (Br.t rfl (Br.t rfl (Br.t rfl (Br.t rfl (Br.t rfl (Br.t rfl (Br.t rfl (Br.t rfl (Br.t rfl (Br.t rfl (Br.t rfl (Br.t rfl (Br.t rfl (Br.t rfl (Br.t rfl (Br.t rfl (Br.t rfl ?_)))))))))))))))))))))))
  refine cu 296 [(2, .bp 0 0), (3, .bp 8 0), (5, .int .i64 (a1_0.length : Int)), (39, .bool true)] [(0, .box [(aG a0_0), (aE a0_1), (aD a0_2), (aC a0_3)]), (8, .box [(aG a1_0), (aG a1_1)])] rfl rfl rfl (Br.t rfl (cu 304 [(4, .bool false)] [] rfl rfl rfl ?_))
  cases H
  exact rz rfl
  refine Br.f ff_ (Br.f ff_ (Br.f ff_ (Br.f ff_ (Br.f ff_ (Br.f ff_ (iW H (fun c H => ?_) (fun c H => ?_)))))))
  refine Br.f ff_ (Br.f ff_ (Br.f ff_ (Nd.mk (by decide) (nd_ H (fun c H => (El.mk (aP _ _ nf_ nf_) (Br.f ff_ (Br.f ff_ ?_))))))))
  revert H; refine aK (fun t10138 A H => (cmk (fI.ac A) rfl rfl (Br.f ff_ (Br.f ff_ (bT H (fun c H => ?_) (fun c H => ?_))))))
  refine Br.t ft_ (Br.t ft_ (Br.t ft_ (Br.t ft_ (Br.t ft_ (Br.t ft_ (Br.t ft_ (Br.t ft_ (Br.t ft_ (cu 296 [(2, .bp 0 0), (3, .bp 8 0), (5, .int .i64 (a1_0.length : Int)), (39, .bool true)] [(0, .box [(aG a0_0), (aE a0_1), (aD a0_2), (aC a0_3)]), (8, .box [(aG a1_0), (aG a1_1)])] rfl rfl rfl (Br.t rfl (cu 304 [(4, .bool false)] [] rfl rfl rfl ?_)))))))))))
  cases H
  exact rz rfl
  refine Br.f ff_ (Br.f ff_ (Br.f ff_ (Br.f ff_ (Br.f ff_ (nd_ H (fun c H => (nd_ H (fun c H => (El.mk (aP _ _ nf_ nf_) (Br.f ff_ (Br.f ff_ ?_)))))))))))
  revert H; refine aK (fun t10139 A H => (cmk (fI.ac A) rfl rfl (Br.f ff_ (Br.f ff_ (cu 296 [(2, .bp 0 0), (3, .bp 8 0), (5, .int .i64 (a1_0.length : Int)), (39, .bool (decide (t10139 < 1)))] [(0, .box [(aG a0_0), (aE a0_1), (aD a0_2), (aC a0_3)]), (8, .box [(aG a1_0), (aG a1_1)])] rfl rfl rfl (bT H (fun c H => ?_) (fun c H => ?_)))))))
  refine cu 304 [(4, .bool false)] [] rfl rfl rfl ?_
  cases H
  exact rz rfl
  refine bZ.l0_lp (a0_0 := a0_0) (a0_1 := a0_1) (a0_2 := a0_2) (a0_3 := a0_3) (a1_0 := a1_0) (a1_1 := a1_1) (k := k) H [] (fq rfl rfl fi_ rfl) ?_
  intro k x6 hk H; rcases k with _ | k; exact bD H; rw [bZ.l0] at H
  refine bT H (fun c H => ?_) (fun c H => ?_)
  refine bZ.j0_sq (a0_0 := a0_0) (a0_1 := a0_1) (a0_2 := a0_2) (a0_3 := a0_3) (a1_0 := a1_0) (a1_1 := a1_1) (x6 := x6) (KK := k + 1) (r := r) ?_ ?_
  refine nd_ H (fun c H => (Nd.mk nf_ (El.mk (aP _ _ nf_ nf_) ?_)))
  revert H; refine aK (fun t10166 A H => (cmk (fI.ac A) rfl rfl (bT H (fun c H => ?_) (fun c H => ?_))))
  refine Br.t ft_ (Br.t ft_ (Br.t ft_ (Br.t ft_ (Br.t ft_ (Br.t ft_ (Br.t ft_ (Br.t ft_ (Br.t ft_ (Br.t ft_ (Br.t rfl (Br.t rfl (Br.t rfl (Br.t rfl (Br.t rfl (Br.t rfl (Br.t rfl (cu 648 [(2, .bp 0 0), (3, .bp 8 0), (5, .int .i64 (a1_0.length : Int)), (6, .int .i64 x6), (84, .bool true)] [(0, .box [(aG a0_0), (aE a0_1), (aD a0_2), (aC a0_3)]), (8, .box [(aG a1_0), (aG a1_1)])] rfl rfl rfl (Br.t rfl (cu 656 [(4, .bool false)] [] rfl rfl rfl ?_)))))))))))))))))))
  cases H
  exact rz rfl
  refine Br.f ff_ (Br.f ff_ (Br.f ff_ (Nd.mk nf_ (nd_ H (fun c H => (Br.f ff_ (Br.f ff_ (Br.f ff_ (Br.f ff_ (Nd.mk nf_ (Nd.mk nf_ (El.mk (aP _ _ nf_ nf_) (Br.f ff_ (Br.f ff_ ?_))))))))))))))
  revert H; refine aK (fun t10167 A H => (fM (cG.ac A) (bW (gP lm_ lm_) (bW (hY rfl) (fE))) (Or.inl rfl) rfl rfl (Nat.le_of_ble_eq_true rfl) (Br.f ff_ (iI H (fun c H => ?_) (fun c H => ?_)))))
  refine Br.t ft_ (Br.t ft_ (Br.t ft_ (Br.t ft_ (Br.t ft_ (Br.t ft_ (cu 648 [(2, .bp 0 0), (3, .bp 8 0), (5, .int .i64 (a1_0.length : Int)), (6, .int .i64 x6), (84, .bool true)] [(0, .box [(aG a0_0), (aE a0_1), (aD a0_2), (aC a0_3)]), (8, .box [(aG a1_0), (aG a1_1)])] rfl rfl rfl (Br.t rfl (cu 656 [(4, .bool false)] [] rfl rfl rfl ?_))))))))
  cases H
  exact rz rfl
  refine Br.f ff_ (Br.f ff_ (bT H (fun c H => ?_) (fun c H => ?_)))
  refine Br.t ft_ (Br.t ft_ (Br.t ft_ (Br.f ff_ (Br.t ft_ (Br.f ff_ (bT H (fun c H => ?_) (fun c H => ?_)))))))
  refine Br.t ft_ (Br.t ft_ (Br.t ft_ (Br.t ft_ (Nd.mk nf_ (Nd.mk nf_ (El.mk (aP _ _ nf_ nf_) (Br.t ft_ (Br.t ft_ ?_))))))))
  revert H; refine aK (fun t10168 A H => (cmk (fI.ac A) rfl rfl (Br.t ft_ (Br.f ff_ (Br.t ft_ (Br.f ff_ (cu 648 [(2, .bp 0 0), (3, .bp 8 0), (5, .int .i64 (a1_0.length : Int)), (6, .int .i64 x6), (84, .bool (decide (t10168 > 0)))] [(0, .box [(aG a0_0), (aE a0_1), (aD a0_2), (aC a0_3)]), (8, .box [(aG a1_0), (aG a1_1)])] rfl rfl rfl (bT H (fun c H => ?_) (fun c H => ?_)))))))))
  refine cu 656 [(4, .bool false)] [] rfl rfl rfl ?_
  cases H
  exact rz rfl
  exact ⟨k, [], ⟨H, lt_⟩, (bG trivial trivial fi_ trivial rfl)⟩
  refine Br.f ff_ (Br.f ff_ (Br.f ff_ (Br.f ff_ (Br.f ff_ (Br.f ff_ (Br.f ff_ (Br.f ff_ (Br.f ff_ (Br.f ff_ (cu 648 [(2, .bp 0 0), (3, .bp 8 0), (5, .int .i64 (a1_0.length : Int)), (6, .int .i64 x6), (84, .bool false)] [(0, .box [(aG a0_0), (aE a0_1), (aD a0_2), (aC a0_3)]), (8, .box [(aG a1_0), (aG a1_1)])] rfl rfl rfl (Br.f rfl (⟨k, [], ⟨H, lt_⟩, (bG trivial trivial fi_ trivial rfl)⟩))))))))))))
  refine Br.f ff_ (Br.f ff_ (Br.f ff_ (Br.f ff_ (Br.f ff_ (Br.f ff_ (Br.f rfl (Br.f rfl (Br.f rfl (Br.f rfl (Br.f rfl (Br.f rfl (Br.f rfl (Br.f rfl (Br.f ff_ (Br.f rfl (Br.f ff_ (cu 648 [(2, .bp 0 0), (3, .bp 8 0), (5, .int .i64 (a1_0.length : Int)), (6, .int .i64 x6), (84, .bool false)] [(0, .box [(aG a0_0), (aE a0_1), (aD a0_2), (aC a0_3)]), (8, .box [(aG a1_0), (aG a1_1)])] rfl rfl rfl (Br.f rfl (⟨k, [], ⟨H, lt_⟩, (bG trivial trivial fi_ trivial rfl)⟩)))))))))))))))))))
  intro k hk H; rcases k with _ | k; exact bD H; rw [bZ.j0] at H
  refine bT H (fun c H => ?_) (fun c H => ?_)
  refine Br.t ft_ (Br.t ft_ (Br.t ft_ (Br.t ft_ (Br.t ft_ (nd_ H (fun c H => (nd_ H (fun c H => (El.mk (aP _ _ nf_ nf_) (Br.t ft_ (Br.t ft_ (Br.t ft_ (Br.t ft_ (Br.t ft_ (Br.t ft_ (Nd.mk nf_ (nd_ H (fun c H => (El.mk (aP _ _ nf_ nf_) (Br.t ft_ (Br.t ft_ (Br.t ft_ (Br.t ft_ (Br.t ft_ (nd_ H (fun c H => (Nd.mk nf_ ?_)))))))))))))))))))))))))))
  refine El.mk (aP _ _ nf_ nf_) (Br.t ft_ (Br.t ft_ ?_))
  revert H; refine aK (fun t10165 A H => (cmk (iU.ac A) rfl rfl (Br.t ft_ (Br.t ft_ (cu 520 [(2, .bp 0 0), (3, .bp 8 0), (5, .int .i64 (a1_0.length : Int)), (6, .int .i64 x6), (108, .bool (!t10165))] [(0, .box [(aG a0_0), (aE a0_1), (aD a0_2), (aC a0_3)]), (8, .box [(aG a1_0), (aG a1_1)])] rfl rfl rfl (dY H (fun c H => ?_) (fun c H => ?_)))))))
  exact ⟨(k, wrap64 (x6 + 1)), [], ⟨H, lt_⟩, lt_, (fq rfl rfl fi_ rfl)⟩
  cases H
  exact rz rfl
  refine Br.f ff_ (Br.f ff_ (Br.f ff_ (Br.f ff_ (Br.f ff_ (Br.f ff_ (Br.f ff_ (Br.f ff_ (Br.f ff_ (Br.f ff_ (Br.f ff_ (Br.f ff_ (Br.f ff_ (Br.f ff_ (Br.f ff_ (Br.f ff_ (Br.f ff_ (Br.f ff_ (Br.f ff_ (Br.f ff_ (cu 520 [(2, .bp 0 0), (3, .bp 8 0), (5, .int .i64 (a1_0.length : Int)), (6, .int .i64 x6), (108, .bool false)] [(0, .box [(aG a0_0), (aE a0_1), (aD a0_2), (aC a0_3)]), (8, .box [(aG a1_0), (aG a1_1)])] rfl rfl rfl (Br.f rfl (⟨(k, wrap64 (x6 + 1)), [], ⟨H, lt_⟩, lt_, (fq rfl rfl fi_ rfl)⟩))))))))))))))))))))))
  cases H
  exact rz rfl
  refine Br.t ft_ (Br.t ft_ (Br.t ft_ (Br.t ft_ (Br.t ft_ (Br.t ft_ (Br.t ft_ (Br.t rfl (Br.t rfl (Br.t rfl (Br.t rfl (Br.t rfl (Br.t rfl (Br.t rfl (Br.t rfl (Br.t rfl (Br.t rfl (cu 296 [(2, .bp 0 0), (3, .bp 8 0), (5, .int .i64 (a1_0.length : Int)), (39, .bool true)] [(0, .box [(aG a0_0), (aE a0_1), (aD a0_2), (aC a0_3)]), (8, .box [(aG a1_0), (aG a1_1)])] rfl rfl rfl (Br.t rfl (cu 304 [(4, .bool false)] [] rfl rfl rfl ?_)))))))))))))))))))
  cases H
  exact rz rfl
theorem dR.l0_lp {F : (Exit → St → Prop) → St → Prop} {hv : List Tmp} {Q : Exit → St → Prop} {σ : St} {r : List ByteArray} {k : Nat} {a0_3 : List aA} {a1 : ByteArray} {x5 : List ByteArray} {x6 : Int} (H : dR.l0 k a0_3 a1 x5 x6 = some r) (rn : List (Option Nat)) (h1 : cM σ σ [16] [(5, .own 0 x5.length), (6, .int .i64 x6)] [] [.arr 9 1 (x5.map bB)] rn)
    (h2 : ∀ (k0 : Nat) (x5 : List ByteArray) (x6 : Int), k0 < k + 1 → dR.l0 k0 a0_3 a1 x5 x6 = some r → dF σ hv [16] [(5, .own 0 x5.length), (6, .int .i64 x6)] [] [.arr 9 1 (x5.map bB)] (F (fun e σ' => match e with | .normal => ∃ (y : Nat × (List ByteArray) × Int) (rn : List (Option Nat)), (dR.l0 y.1 a0_3 a1 y.2.1 y.2.2 = some r ∧ y.1 < k + 1) ∧ y.1 < k0 ∧ cM σ σ' [16] [(5, .own 0 y.2.1.length), (6, .int .i64 y.2.2)] [] [.arr 9 1 (y.2.1.map bB)] rn | e => Q e σ'))) : Lp F hv Q σ := by
  unfold Lp
  refine ⟨Nat × (List ByteArray) × Int, fun x => dR.l0 x.1 a0_3 a1 x.2.1 x.2.2 = some r ∧ x.1 < k + 1, fun x => x.1, [16], fun x => [(5, .own 0 x.2.1.length), (6, .int .i64 x.2.2)], fun x => [], fun x => [.arr 9 1 (x.2.1.map bB)], ⟨(k, x5, x6), rn, ⟨H, Nat.lt_succ_self _⟩, h1⟩, ?_⟩
  rintro ⟨k, x5, x6⟩ ⟨H, hk⟩
  exact h2 k x5 x6 hk H
theorem dR.ac {k : Nat} {a0_0 : List ByteArray} {a0_1 : List aF} {a0_2 : List aB} {a0_3 : List aA} {a1 : ByteArray} {r : List ByteArray} (H : dR.f k a0_0 a0_1 a0_2 a0_3 a1 = some r) : cK Try.prog G 29 [] [.agg [(aG a0_0), (aE a0_1), (aD a0_2), (aC a0_3)], .str a1] [] ((aG r)) := by
  refine bN tok hP Try.func29 rfl (by kernel_rfl) [.tmp 4] rfl (by kernel_rfl) (Nat.le_of_ble_eq_true rfl) (.l .n (.l .n (.l (.l .n (.l (.c .n .n) (.c (.c .n .n) .n))) .n))) rfl ?_
  unfold dR.f at H
  refine Or.inl (dR.l0_lp (a0_3 := a0_3) (a1 := a1) (k := k) H [some 16] (bG ⟨eL lm_, ⟨.inl ⟨rfl, rfl⟩, trivial⟩⟩ ⟨fm_, trivial⟩ fi_ trivial rfl) ?_)
  intro k x5 x6 hk H; rcases k with _ | k; exact bD H; rw [dR.l0] at H
  refine cu 81 [(1, .str a1), (2, .bp 0 0), (5, .own 40 x5.length), (6, .int .i64 x6), (12, .bool (decide (x6 < (a0_3.length : Int))))] [(0, .box [(aG a0_0), (aE a0_1), (aD a0_2), (aC a0_3)]), (40, .arr 9 1 (x5.map bB))] rfl rfl rfl (bT H (fun c H => ?_) (fun c H => ?_))
  refine nd_ H (fun c H => (Nd.mk nf_ (El.mk (aZ _ _ nf_ nf_) (bT H (fun c H => ?_) (fun c H => ?_)))))
  refine Br.t ft_ (Br.t ft_ (Br.t ft_ (Br.t ft_ (Br.t ft_ (Br.t ft_ (Br.t ft_ (Br.t ft_ (cu 225 [(1, .str a1), (2, .bp 0 0), (5, .own 40 x5.length), (6, .int .i64 x6), (32, .bool true)] [(0, .box [(aG a0_0), (aE a0_1), (aD a0_2), (aC a0_3)]), (40, .arr 9 1 (x5.map bB))] rfl rfl rfl (Br.t rfl (Nd.mk nf_ (Nd.mk nf_ (El.mk (aZ _ _ nf_ nf_) (Or.inl (nd_ H (fun c H => (iQ 305 [(1, .str a1), (2, .bp 0 0), (5, .own 289 (x5.length + 1)), (6, .int .i64 x6)] [(0, .box [(aG a0_0), (aE a0_1), (aD a0_2), (aC a0_3)]), (289, .arr 9 1 ((x5 ++ ([(aH a0_3 x6).f0] : List ByteArray)).map bB))] rfl ⟨.inl rfl, ⟨.inl rfl, ⟨.inl rfl, ⟨.inl rfl, trivial⟩⟩⟩⟩ ⟨rfl, ⟨fm_, trivial⟩⟩ (⟨(k, (x5 ++ ([(aH a0_3 x6).f0] : List ByteArray)), wrap64 (x6 + 1)), [some 289], ⟨H, lt_⟩, lt_, (bG ⟨eL lm_, ⟨.inl ⟨rfl, rfl⟩, trivial⟩⟩ ⟨rfl, trivial⟩ fi_ trivial rfl)⟩)))))))))))))))))
  refine Br.f ff_ (Br.f ff_ (Br.f ff_ (Nd.mk nf_ (Nd.mk nf_ (El.mk (aZ _ _ nf_ nf_) (Br.f ff_ (Br.f ff_ (Br.f ff_ (Br.f ff_ (Br.f ff_ (cu 225 [(1, .str a1), (2, .bp 0 0), (5, .own 40 x5.length), (6, .int .i64 x6), (32, .bool (decide (((aH a0_3 x6).f2).toList = a1.toList)))] [(0, .box [(aG a0_0), (aE a0_1), (aD a0_2), (aC a0_3)]), (40, .arr 9 1 (x5.map bB))] rfl rfl rfl (bT H (fun c H => ?_) (fun c H => ?_)))))))))))))
  refine Nd.mk nf_ (Nd.mk nf_ (El.mk (aZ _ _ nf_ nf_) (Or.inl (nd_ H (fun c H => (iQ 305 [(1, .str a1), (2, .bp 0 0), (5, .own 289 (x5.length + 1)), (6, .int .i64 x6)] [(0, .box [(aG a0_0), (aE a0_1), (aD a0_2), (aC a0_3)]), (289, .arr 9 1 ((x5 ++ ([(aH a0_3 x6).f0] : List ByteArray)).map bB))] rfl ⟨.inl rfl, ⟨.inl rfl, ⟨.inl rfl, ⟨.inl rfl, trivial⟩⟩⟩⟩ ⟨rfl, ⟨fm_, trivial⟩⟩ (⟨(k, (x5 ++ ([(aH a0_3 x6).f0] : List ByteArray)), wrap64 (x6 + 1)), [some 289], ⟨H, lt_⟩, lt_, (bG ⟨eL lm_, ⟨.inl ⟨rfl, rfl⟩, trivial⟩⟩ ⟨rfl, trivial⟩ fi_ trivial rfl)⟩)))))))
  refine cu 225 [(1, .str a1), (2, .bp 0 0), (5, .own 40 x5.length), (6, .int .i64 x6)] [(0, .box [(aG a0_0), (aE a0_1), (aD a0_2), (aC a0_3)]), (40, .arr 9 1 (x5.map bB))] rfl rfl rfl (⟨(k, x5, wrap64 (x6 + 1)), [some 40], ⟨H, lt_⟩, lt_, (bG ⟨rfl, ⟨.inl ⟨rfl, rfl⟩, trivial⟩⟩ ⟨rfl, trivial⟩ fi_ trivial rfl)⟩)
  cases H
  exact jL [40] (mP rfl rfl)
theorem dG.l0_lp {F : (Exit → St → Prop) → St → Prop} {hv : List Tmp} {Q : Exit → St → Prop} {σ : St} {r : List ByteArray} {k : Nat} {l0 : List ByteArray} {a1 : ByteArray} {x5 : Int} (H : dG.l0 k l0 a1 x5 = some r) (rn : List (Option Nat)) (h1 : cM σ σ [] [(5, .int .i64 x5)] [] [] rn)
    (h2 : ∀ (k0 : Nat) (x5 : Int), k0 < k + 1 → dG.l0 k0 l0 a1 x5 = some r → dF σ hv [] [(5, .int .i64 x5)] [] [] (F (fun e σ' => match e with | .normal => ∃ (y : Nat × Int) (rn : List (Option Nat)), (dG.l0 y.1 l0 a1 y.2 = some r ∧ y.1 < k + 1) ∧ y.1 < k0 ∧ cM σ σ' [] [(5, .int .i64 y.2)] [] [] rn | e => Q e σ'))) : Lp F hv Q σ := by
  unfold Lp
  refine ⟨Nat × Int, fun x => dG.l0 x.1 l0 a1 x.2 = some r ∧ x.1 < k + 1, fun x => x.1, [], fun x => [(5, .int .i64 x.2)], fun x => [], fun x => [], ⟨(k, x5), rn, ⟨H, Nat.lt_succ_self _⟩, h1⟩, ?_⟩
  rintro ⟨k, x5⟩ ⟨H, hk⟩
  exact h2 k x5 hk H
theorem dG.ac {k : Nat} {l0 : List ByteArray} {a1 : ByteArray} {r : List ByteArray} (H : dG.f k l0 a1 = some r) : cK Try.prog G 30 [] [(aG l0), .str a1] [] ((aG r)) := by
  refine bN tok hP Try.func30 rfl (by kernel_rfl) [.tmp 4] rfl (by kernel_rfl) (Nat.le_of_ble_eq_true rfl) (.l .n (.l .n (.l (.l (.c .n .n) .n) (.l (.c .n .n) (.c .n .n))))) rfl ?_
  unfold dG.f at H
  refine dG.l0_lp (l0 := l0) (a1 := a1) (k := k) H [] (fq rfl rfl fi_ rfl) ?_
  intro k x5 hk H; rcases k with _ | k; exact bD H; rw [dG.l0] at H
  refine bT H (fun c H => ?_) (fun c H => ?_)
  refine Br.t ft_ (Br.t ft_ (nd_ H (fun c H => (Nd.mk nf_ (El.mk (aP _ _ nf_ nf_) (Br.t ft_ (Br.t ft_ (Br.t ft_ (Br.t ft_ (cu 112 [(0, (aG l0)), (1, .str a1), (5, .int .i64 x5), (17, .bool (Op.bytesLess (bE ByteArray.empty l0 x5).toList a1.toList))] [] rfl rfl rfl (iI H (fun c H => ?_) (fun c H => ?_))))))))))))
  exact ⟨(k, wrap64 (x5 + 1)), [], ⟨H, lt_⟩, lt_, (fq rfl rfl fi_ rfl)⟩
  refine Br.t ft_ (Br.t ft_ (Br.t ft_ (Nd.mk nf_ (Nd.mk nf_ (El.mk (aP _ _ nf_ nf_) (Br.t ft_ (Br.t ft_ (Br.t ft_ (Br.t ft_ (cu 208 [(0, (aG l0)), (1, .str a1), (5, .int .i64 x5), (31, .bool (decide ((bE ByteArray.empty l0 x5).toList = a1.toList)))] [] rfl rfl rfl (bT H (fun c H => ?_) (fun c H => ?_))))))))))))
  cases H
  exact rz rfl
  refine Or.inl (Nd.mk nf_ (nd_ H (fun c H => (nd_ H (fun c H => (Or.inl (nd_ H (fun c H => (Nd.mk nf_ (Nd.mk nf_ (nd_ H (fun c H => (iQ 312 [(4, .own 296 (0 + (x5).toNat + 1 + (l0.length - (x5).toNat)))] [(296, .arr 9 1 ((((([] : List ByteArray) ++ (l0.take (x5).toNat)) ++ ([a1] : List ByteArray)) ++ (l0.drop (x5).toNat)).map bB))] rfl ⟨.inl rfl, trivial⟩ ⟨fm_, trivial⟩ ?_)))))))))))))
  cases H
  exact jL [296] (nY rfl lm_ lm_ rfl)
  refine Br.f ff_ (Br.f ff_ (Br.f ff_ (Br.f ff_ (Br.f ff_ (Br.f ff_ (cu 112 [(0, (aG l0)), (1, .str a1), (5, .int .i64 x5), (17, .bool false)] [] rfl rfl rfl (Br.f rfl (Br.f ff_ (Br.f ff_ (Br.f ff_ (Br.f ff_ (Br.f ff_ (Br.f ff_ (Br.f ff_ (cu 208 [(0, (aG l0)), (1, .str a1), (5, .int .i64 x5), (31, .bool false)] [] rfl rfl rfl (Br.f rfl (Or.inl (nd_ H (fun c H => (nd_ H (fun c H => (nd_ H (fun c H => (Or.inl (nd_ H (fun c H => (Nd.mk nf_ ?_)))))))))))))))))))))))))))
  refine Nd.mk nf_ (nd_ H (fun c H => (iQ 312 [(4, .own 296 (0 + (x5).toNat + 1 + (l0.length - (x5).toNat)))] [(296, .arr 9 1 ((((([] : List ByteArray) ++ (l0.take (x5).toNat)) ++ ([a1] : List ByteArray)) ++ (l0.drop (x5).toNat)).map bB))] rfl ⟨.inl rfl, trivial⟩ ⟨fm_, trivial⟩ ?_)))
  cases H
  exact jL [296] (nY rfl lm_ lm_ rfl)
theorem bC.l1_lp {F : (Exit → St → Prop) → St → Prop} {hv : List Tmp} {Q : Exit → St → Prop} {σ : St} {r : List ByteArray} {k : Nat} {a0_0 : List ByteArray} {a0_1 : List aF} {a0_2 : List aB} {a0_3 : List aA} {a1_0 : List ByteArray} {a1_1 : List ByteArray} {x6 : Int} {t10432 : List ByteArray} {x5_1 : List ByteArray} {x8 : Int} (H : bC.l1 k a0_0 a0_1 a0_2 a0_3 a1_0 a1_1 x5_1 x6 x8 t10432 = some r) (rn : List (Option Nat)) (h1 : cM σ σ [] [(5, (aG x5_1)), (8, .int .i64 x8)] [] [] rn)
    (h2 : ∀ (k0 : Nat) (x5_1 : List ByteArray) (x8 : Int), k0 < k + 1 → bC.l1 k0 a0_0 a0_1 a0_2 a0_3 a1_0 a1_1 x5_1 x6 x8 t10432 = some r → dF σ hv [] [(5, (aG x5_1)), (8, .int .i64 x8)] [] [] (F (fun e σ' => match e with | .normal => ∃ (y : Nat × (List ByteArray) × Int) (rn : List (Option Nat)), (bC.l1 y.1 a0_0 a0_1 a0_2 a0_3 a1_0 a1_1 y.2.1 x6 y.2.2 t10432 = some r ∧ y.1 < k + 1) ∧ y.1 < k0 ∧ cM σ σ' [] [(5, (aG y.2.1)), (8, .int .i64 y.2.2)] [] [] rn | e => Q e σ'))) : Lp F hv Q σ := by
  unfold Lp
  refine ⟨Nat × (List ByteArray) × Int, fun x => bC.l1 x.1 a0_0 a0_1 a0_2 a0_3 a1_0 a1_1 x.2.1 x6 x.2.2 t10432 = some r ∧ x.1 < k + 1, fun x => x.1, [], fun x => [(5, (aG x.2.1)), (8, .int .i64 x.2.2)], fun x => [], fun x => [], ⟨(k, x5_1, x8), rn, ⟨H, Nat.lt_succ_self _⟩, h1⟩, ?_⟩
  rintro ⟨k, x5_1, x8⟩ ⟨H, hk⟩
  exact h2 k x5_1 x8 hk H
theorem bC.l0_lp {F : (Exit → St → Prop) → St → Prop} {hv : List Tmp} {Q : Exit → St → Prop} {σ : St} {r : List ByteArray} {k : Nat} {a0_0 : List ByteArray} {a0_1 : List aF} {a0_2 : List aB} {a0_3 : List aA} {a1_0 : List ByteArray} {a1_1 : List ByteArray} {x5 : List ByteArray} {x6 : Int} (H : bC.l0 k a0_0 a0_1 a0_2 a0_3 a1_0 a1_1 x5 x6 = some r) (rn : List (Option Nat)) (h1 : cM σ σ [] [(5, (aG x5)), (6, .int .i64 x6)] [] [] rn)
    (h2 : ∀ (k0 : Nat) (x5 : List ByteArray) (x6 : Int), k0 < k + 1 → bC.l0 k0 a0_0 a0_1 a0_2 a0_3 a1_0 a1_1 x5 x6 = some r → dF σ hv [] [(5, (aG x5)), (6, .int .i64 x6)] [] [] (F (fun e σ' => match e with | .normal => ∃ (y : Nat × (List ByteArray) × Int) (rn : List (Option Nat)), (bC.l0 y.1 a0_0 a0_1 a0_2 a0_3 a1_0 a1_1 y.2.1 y.2.2 = some r ∧ y.1 < k + 1) ∧ y.1 < k0 ∧ cM σ σ' [] [(5, (aG y.2.1)), (6, .int .i64 y.2.2)] [] [] rn | e => Q e σ'))) : Lp F hv Q σ := by
  unfold Lp
  refine ⟨Nat × (List ByteArray) × Int, fun x => bC.l0 x.1 a0_0 a0_1 a0_2 a0_3 a1_0 a1_1 x.2.1 x.2.2 = some r ∧ x.1 < k + 1, fun x => x.1, [], fun x => [(5, (aG x.2.1)), (6, .int .i64 x.2.2)], fun x => [], fun x => [], ⟨(k, x5, x6), rn, ⟨H, Nat.lt_succ_self _⟩, h1⟩, ?_⟩
  rintro ⟨k, x5, x6⟩ ⟨H, hk⟩
  exact h2 k x5 x6 hk H
theorem bC.ac {k : Nat} {a0_0 : List ByteArray} {a0_1 : List aF} {a0_2 : List aB} {a0_3 : List aA} {a1_0 : List ByteArray} {a1_1 : List ByteArray} {r : List ByteArray} (H : bC.f k a0_0 a0_1 a0_2 a0_3 a1_0 a1_1 = some r) : cK Try.prog G 9 [] [.agg [(aG a0_0), (aE a0_1), (aD a0_2), (aC a0_3)], .agg [(aG a1_0), (aG a1_1)]] [] ((aG r)) := by
  refine bN tok hP Try.func9 rfl (by kernel_rfl) [.tmp 4] rfl (by kernel_rfl) (Nat.le_of_ble_eq_true rfl) (.l .n (.l .n (.l (.c .n (.l (.c .n .n) .n)) (.l (.f 0 .n (.l .n (.l (.c .n (.l .n (.l .n (.l (.c .n .n) .n)))) .n))) .n)))) rfl ?_
  unfold bC.f at H
  refine Or.inl ?_
  revert H; refine aK (fun t10428 A H => (cmk (eZ.ac A) rfl rfl (dY H (fun c H => ?_) (fun c H => ?_))))
  refine Br.f ff_ (Br.f ff_ ?_)
  revert H; refine aK (fun t10429 A H => (cmk (bZ.ac A) rfl rfl (Br.f ff_ (Br.f ff_ (iQ 112 [(2, .bp 0 0), (3, .bp 8 0), (5, .own 24 0), (18, .bool (!t10429))] [(0, .box [(aG a0_0), (aE a0_1), (aD a0_2), (aC a0_3)]), (8, .box [(aG a1_0), (aG a1_1)]), (24, .arr 9 1 (([] : List ByteArray).map bB))] rfl ⟨.inl rfl, ⟨.inl rfl, ⟨.inl rfl, ⟨.inl rfl, trivial⟩⟩⟩⟩ ⟨rfl, ⟨rfl, ⟨fm_, trivial⟩⟩⟩ (dY H (fun c H => ?_) (fun c H => ?_)))))))
  refine jE 120 [24] [(2, .bp 0 0), (3, .bp 8 0), (5, (aG ([] : List ByteArray))), (6, .int .i64 0)] [(0, .box [(aG a0_0), (aE a0_1), (aD a0_2), (aC a0_3)]), (8, .box [(aG a1_0), (aG a1_1)])] rfl rfl ⟨.inl (.inl rfl), ⟨.inl (.inl rfl), ⟨.inl (oH rfl rfl (.inr lm_) lm_), ⟨.inl (.inl rfl), trivial⟩⟩⟩⟩ ⟨.inl (rfl), ⟨.inl (rfl), trivial⟩⟩ (bC.l0_lp (a0_0 := a0_0) (a0_1 := a0_1) (a0_2 := a0_2) (a0_3 := a0_3) (a1_0 := a1_0) (a1_1 := a1_1) (k := k) H [] (fq rfl rfl fi_ rfl) ?_)
  intro k x5 x6 hk H; rcases k with _ | k; exact bD H; rw [bC.l0] at H
  refine bT H (fun c H => ?_) (fun c H => ?_)
  refine nd_ H (fun c H => (Nd.mk nf_ (El.mk (aP _ _ nf_ nf_) ?_)))
  revert H; refine aK (fun t10432 A H => (cmk (dR.ac A) rfl rfl (cu 224 [(2, .bp 0 0), (3, .bp 8 0), (5, (aG x5)), (6, .int .i64 x6), (7, (aG t10432))] [(0, .box [(aG a0_0), (aE a0_1), (aD a0_2), (aC a0_3)]), (8, .box [(aG a1_0), (aG a1_1)])] rfl rfl rfl (bC.l1_lp (a0_0 := a0_0) (a0_1 := a0_1) (a0_2 := a0_2) (a0_3 := a0_3) (a1_0 := a1_0) (a1_1 := a1_1) (x6 := x6) (t10432 := t10432) (k := k) H [] (fq rfl rfl fi_ rfl) ?_))))
  intro k x5_1 x8 hk H; rcases k with _ | k; exact bD H; rw [bC.l1] at H
  refine bT H (fun c H => ?_) (fun c H => ?_)
  refine nd_ H (fun c H => (Nd.mk nf_ (El.mk (aP _ _ nf_ nf_) ?_)))
  revert H; refine aK (fun t10434 A H => (cmk (cG.ac A) rfl rfl (cu 328 [(2, .bp 0 0), (3, .bp 8 0), (5, (aG x5_1)), (6, .int .i64 x6), (7, (aG t10432)), (8, .int .i64 x8), (47, .bool (!t10434))] [(0, .box [(aG a0_0), (aE a0_1), (aD a0_2), (aC a0_3)]), (8, .box [(aG a1_0), (aG a1_1)])] rfl rfl rfl (dY H (fun c H => ?_) (fun c H => ?_)))))
  exact ⟨(k, _, wrap64 (x8 + 1)), [], ⟨H, lt_⟩, lt_, (fq rfl rfl fi_ rfl)⟩
  refine Nd.mk nf_ (Nd.mk nf_ (El.mk (aP _ _ nf_ nf_) ?_))
  revert H; refine aK (fun t10435 A H => (cmk (dG.ac A) rfl rfl (⟨(k, t10435, wrap64 (x8 + 1)), [], ⟨H, lt_⟩, lt_, (fq rfl rfl fi_ rfl)⟩)))
  exact ⟨(k, x5_1, wrap64 (x6 + 1)), [], ⟨H, lt_⟩, lt_, (fq rfl rfl fi_ rfl)⟩
  cases H
  exact rz rfl
  refine cu 128 [(4, .own 24 0)] [(24, .arr 9 1 (([] : List ByteArray).map bB))] rfl rfl rfl ?_
  cases H
  exact jL [24] (nY rfl lm_ lm_ rfl)
  refine Br.t ft_ (Br.t ft_ (Br.t ft_ (Br.t ft_ (iQ 112 [(2, .bp 0 0), (3, .bp 8 0), (5, .own 24 0), (18, .bool true)] [(0, .box [(aG a0_0), (aE a0_1), (aD a0_2), (aC a0_3)]), (8, .box [(aG a1_0), (aG a1_1)]), (24, .arr 9 1 (([] : List ByteArray).map bB))] rfl ⟨.inl rfl, ⟨.inl rfl, ⟨.inl rfl, ⟨.inl rfl, trivial⟩⟩⟩⟩ ⟨rfl, ⟨rfl, ⟨fm_, trivial⟩⟩⟩ (Br.t rfl (cu 128 [(4, .own 24 0)] [(24, .arr 9 1 (([] : List ByteArray).map bB))] rfl rfl rfl ?_))))))
  cases H
  exact jL [24] (nY rfl lm_ lm_ rfl)
theorem bA.l0_lp {F : (Exit → St → Prop) → St → Prop} {hv : List Tmp} {Q : Exit → St → Prop} {σ : St} {r : (List ByteArray) × (List aF) × (List aB) × (List aA) × (List ByteArray) × (List ByteArray) × (List ByteArray)} {k : Nat} {l0 : List Int} {t10439 : (List ByteArray) × (List aF) × (List aB) × (List aA) × (List Int) × Int} {t10441 : (List ByteArray) × (List ByteArray) × (List Int) × Int} {t10443 : (List ByteArray) × (List Int) × Int} {t10464 : List ByteArray} {x10 : List ByteArray} {x11 : Int} (H : bA.l0 k l0 x10 x11 t10439 t10441 t10443 t10464 = some r) (rn : List (Option Nat)) (h1 : cM σ σ [272] [(10, .own 0 x10.length), (11, .int .i64 x11)] [] [.arr 9 1 (x10.map bB)] rn)
    (h2 : ∀ (k0 : Nat) (x10 : List ByteArray) (x11 : Int), k0 < k + 1 → bA.l0 k0 l0 x10 x11 t10439 t10441 t10443 t10464 = some r → dF σ hv [272] [(10, .own 0 x10.length), (11, .int .i64 x11)] [] [.arr 9 1 (x10.map bB)] (F (fun e σ' => match e with | .normal => ∃ (y : Nat × (List ByteArray) × Int) (rn : List (Option Nat)), (bA.l0 y.1 l0 y.2.1 y.2.2 t10439 t10441 t10443 t10464 = some r ∧ y.1 < k + 1) ∧ y.1 < k0 ∧ cM σ σ' [272] [(10, .own 0 y.2.1.length), (11, .int .i64 y.2.2)] [] [.arr 9 1 (y.2.1.map bB)] rn | e => Q e σ'))) : Lp F hv Q σ := by
  unfold Lp
  refine ⟨Nat × (List ByteArray) × Int, fun x => bA.l0 x.1 l0 x.2.1 x.2.2 t10439 t10441 t10443 t10464 = some r ∧ x.1 < k + 1, fun x => x.1, [272], fun x => [(10, .own 0 x.2.1.length), (11, .int .i64 x.2.2)], fun x => [], fun x => [.arr 9 1 (x.2.1.map bB)], ⟨(k, x10, x11), rn, ⟨H, Nat.lt_succ_self _⟩, h1⟩, ?_⟩
  rintro ⟨k, x10, x11⟩ ⟨H, hk⟩
  exact h2 k x10 x11 hk H
theorem bA.l1_lp {F : (Exit → St → Prop) → St → Prop} {hv : List Tmp} {Q : Exit → St → Prop} {σ : St} {r : (List ByteArray) × (List aF) × (List aB) × (List aA) × (List ByteArray) × (List ByteArray) × (List ByteArray)} {k : Nat} {t10439 : (List ByteArray) × (List aF) × (List aB) × (List aA) × (List Int) × Int} {t10441 : (List ByteArray) × (List ByteArray) × (List Int) × Int} {t10443 : (List ByteArray) × (List Int) × Int} {t10469 : List ByteArray} {x10_1 : List ByteArray} {x11_1 : Int} (H : bA.l1 k x10_1 x11_1 t10439 t10441 t10443 t10469 = some r) (rn : List (Option Nat)) (h1 : cM σ σ [232] [(10, .own 0 x10_1.length), (11, .int .i64 x11_1)] [] [.arr 9 1 (x10_1.map bB)] rn)
    (h2 : ∀ (k0 : Nat) (x10_1 : List ByteArray) (x11_1 : Int), k0 < k + 1 → bA.l1 k0 x10_1 x11_1 t10439 t10441 t10443 t10469 = some r → dF σ hv [232] [(10, .own 0 x10_1.length), (11, .int .i64 x11_1)] [] [.arr 9 1 (x10_1.map bB)] (F (fun e σ' => match e with | .normal => ∃ (y : Nat × (List ByteArray) × Int) (rn : List (Option Nat)), (bA.l1 y.1 y.2.1 y.2.2 t10439 t10441 t10443 t10469 = some r ∧ y.1 < k + 1) ∧ y.1 < k0 ∧ cM σ σ' [232] [(10, .own 0 y.2.1.length), (11, .int .i64 y.2.2)] [] [.arr 9 1 (y.2.1.map bB)] rn | e => Q e σ'))) : Lp F hv Q σ := by
  unfold Lp
  refine ⟨Nat × (List ByteArray) × Int, fun x => bA.l1 x.1 x.2.1 x.2.2 t10439 t10441 t10443 t10469 = some r ∧ x.1 < k + 1, fun x => x.1, [232], fun x => [(10, .own 0 x.2.1.length), (11, .int .i64 x.2.2)], fun x => [], fun x => [.arr 9 1 (x.2.1.map bB)], ⟨(k, x10_1, x11_1), rn, ⟨H, Nat.lt_succ_self _⟩, h1⟩, ?_⟩
  rintro ⟨k, x10_1, x11_1⟩ ⟨H, hk⟩
  exact h2 k x10_1 x11_1 hk H
theorem bA.ac {k : Nat} {l0 : List Int} {r : (List ByteArray) × (List aF) × (List aB) × (List aA) × (List ByteArray) × (List ByteArray) × (List ByteArray)} (H : bA.f k l0 = some r) : cK Try.prog G 4 [] [(bP l0)] [] (.tup [.agg [(aG r.1), (aE r.2.1), (aD r.2.2.1), (aC r.2.2.2.1)], (aG r.2.2.2.2.1), .agg [(aG r.2.2.2.2.2.1), (aG r.2.2.2.2.2.2)]]) := by
  refine bN tok hP Try.func4 rfl (by kernel_rfl) [.cell 2 28, .tmp 3, .cell 4 30] rfl (by kernel_rfl) (Nat.le_of_ble_eq_true rfl) (.l .n (.l .n (.l .n (.c .n (.l .n (.c .n (.l (.c .n (.l (.l .n (.l .n (.l (.l .n (.l (.c .n .n) .n)) .n))) .n)) .n))))))) rfl ?_
  unfold bA.f at H
  revert H; refine aK (fun t10437 A H => (cmk (jF.ac A) rfl rfl ?_))
  revert H; refine aK (fun t10439 A H => (bQ [32] (jX.ac A) ⟨rfl, trivial⟩ rfl rfl rfl rfl rfl rfl rfl rfl ?_))
  revert H; refine aK (fun t10441 A H => (bQ [32] (fA.ac A) ⟨rfl, trivial⟩ rfl rfl rfl rfl rfl rfl rfl rfl (cu 120 [(2, .bp 0 0), (4, .bp 16 0), (5, .bp 32 0), (6, .bp 64 0), (7, .bp 104 0)] [(0, .box [.nil, .nil, .nil, .nil]), (16, .box [.nil, .nil]), (32, .box [(bP t10441.2.2.1), .int .i64 t10441.2.2.2]), (64, .box [(aG t10439.1), (aE t10439.2.1), (aD t10439.2.2.1), (aC t10439.2.2.2.1)]), (104, .box [(aG t10441.1), (aG t10441.2.1)])] rfl rfl rfl ?_)))
  revert H; refine aK (fun t10443 A H => (aDV [32, 136] 1 (eU.acO A) ⟨rfl, rfl, ⟨rfl, trivial⟩⟩ rfl rfl rfl rfl rfl rfl rfl rfl ?_))
  revert H; refine aK (fun t10462 A H => (bQ [32] (aN.ac A) ⟨rfl, trivial⟩ rfl rfl rfl rfl rfl rfl rfl rfl (bT H (fun c H => ?_) (fun c H => ?_))))
  refine nd_ H (fun c H => (iQ 216 [(2, .bp 0 0), (4, .bp 16 0), (5, .bp 32 0), (6, .bp 64 0), (7, .bp 104 0), (8, .own 200 (t10443.1.length + t10441.2.1.length))] [(0, .box [.nil, .nil, .nil, .nil]), (16, .box [.nil, .nil]), (32, .box [(bP t10462.2.1), .int .i64 t10462.2.2]), (64, .box [(aG t10439.1), (aE t10439.2.1), (aD t10439.2.2.1), (aC t10439.2.2.2.1)]), (104, .box [(aG t10441.1), (aG t10441.2.1)]), (200, .arr 9 1 ((t10443.1 ++ t10441.2.1).map bB))] rfl ⟨.inl rfl, ⟨.inl rfl, ⟨.inl rfl, ⟨.inl rfl, ⟨.inl rfl, ⟨.inl rfl, trivial⟩⟩⟩⟩⟩⟩ ⟨rfl, ⟨rfl, ⟨rfl, ⟨rfl, ⟨rfl, ⟨fm_, trivial⟩⟩⟩⟩⟩⟩ ?_))
  revert H; refine aK (fun t10463 A H => (bQ [32] (aN.ac A) ⟨rfl, trivial⟩ rfl rfl rfl rfl rfl rfl rfl rfl (cu 240 [(2, .bp 0 0), (4, .bp 16 0), (6, .bp 64 0), (7, .bp 104 0), (8, .own 200 (t10443.1.length + t10441.2.1.length)), (31, .bool (decide (t10463.1 = 0)))] [(0, .box [.nil, .nil, .nil, .nil]), (16, .box [.nil, .nil]), (64, .box [(aG t10439.1), (aE t10439.2.1), (aD t10439.2.2.1), (aC t10439.2.2.2.1)]), (104, .box [(aG t10441.1), (aG t10441.2.1)]), (200, .arr 9 1 ((t10443.1 ++ t10441.2.1).map bB))] rfl rfl rfl (bT H (fun c H => ?_) (fun c H => ?_)))))
  revert H; refine aK (fun t10464 A H => (cmk (bC.ac A) rfl rfl (Or.inl (bA.l0_lp (l0 := l0) (t10439 := t10439) (t10441 := t10441) (t10443 := t10443) (t10464 := t10464) (k := k) H [some 272] (bG ⟨eL lm_, ⟨.inl ⟨rfl, rfl⟩, trivial⟩⟩ ⟨fm_, trivial⟩ fi_ trivial rfl) ?_))))
  intro k x10 x11 hk H; rcases k with _ | k; exact bD H; rw [bA.l0] at H
  refine cu 329 [(2, .bp 0 0), (4, .bp 16 0), (6, .bp 64 0), (7, .bp 104 0), (8, .own 200 (t10443.1.length + t10441.2.1.length)), (9, (aG t10464)), (10, .own 296 x10.length), (11, .int .i64 x11), (39, .bool (decide (x11 < (t10443.1.length + t10441.2.1.length : Int))))] [(0, .box [.nil, .nil, .nil, .nil]), (16, .box [.nil, .nil]), (64, .box [(aG t10439.1), (aE t10439.2.1), (aD t10439.2.2.1), (aC t10439.2.2.2.1)]), (104, .box [(aG t10441.1), (aG t10441.2.1)]), (200, .arr 9 1 ((t10443.1 ++ t10441.2.1).map bB)), (296, .arr 9 1 (x10.map bB))] rfl rfl rfl (bT H (fun c H => ?_) (fun c H => ?_))
  refine nd_ H (fun c H => (Nd.mk nf_ (El.mk (aP _ _ nf_ nf_) ?_)))
  revert H; refine aK (fun t10467 A H => (cmk (cG.ac A) rfl rfl (dY H (fun c H => ?_) (fun c H => ?_))))
  exact ⟨(k, x10, wrap64 (x11 + 1)), [some 296], ⟨H, lt_⟩, lt_, (bG ⟨rfl, ⟨.inl ⟨rfl, rfl⟩, trivial⟩⟩ ⟨rfl, trivial⟩ fi_ trivial rfl)⟩
  refine Nd.mk nf_ (Nd.mk nf_ (El.mk (aP _ _ nf_ nf_) (Or.inl (nd_ H (fun c H => (⟨(k, (x10 ++ ([bE ByteArray.empty (t10443.1 ++ t10441.2.1) x11] : List ByteArray)), wrap64 (x11 + 1)), [some 433], ⟨H, lt_⟩, lt_, (bG ⟨eL lm_, ⟨.inl ⟨rfl, rfl⟩, trivial⟩⟩ ⟨fm_, trivial⟩ fi_ trivial rfl)⟩))))))
  cases H
  exact iG [296] (dL (rta rfl) (dL (mP rfl rfl) (dL (rta rfl) (gJ))))
  cases H
  exact iG [200] (dL (rta rfl) (dL (nY rfl lm_ lm_ rfl) (dL (rta rfl) (gJ))))
  refine cu 176 [(2, .bp 0 0), (4, .bp 16 0), (5, .bp 32 0), (6, .bp 64 0), (7, .bp 104 0), (8, .own 136 t10443.1.length)] [(0, .box [.nil, .nil, .nil, .nil]), (16, .box [.nil, .nil]), (32, .box [(bP t10462.2.1), .int .i64 t10462.2.2]), (64, .box [(aG t10439.1), (aE t10439.2.1), (aD t10439.2.2.1), (aC t10439.2.2.2.1)]), (104, .box [(aG t10441.1), (aG t10441.2.1)]), (136, .arr 9 1 (t10443.1.map bB))] rfl rfl rfl ?_
  revert H; refine aK (fun t10468 A H => (bQ [32] (aN.ac A) ⟨rfl, trivial⟩ rfl rfl rfl rfl rfl rfl rfl rfl (cu 200 [(2, .bp 0 0), (4, .bp 16 0), (6, .bp 64 0), (7, .bp 104 0), (8, .own 136 t10443.1.length), (31, .bool (decide (t10468.1 = 0)))] [(0, .box [.nil, .nil, .nil, .nil]), (16, .box [.nil, .nil]), (64, .box [(aG t10439.1), (aE t10439.2.1), (aD t10439.2.2.1), (aC t10439.2.2.2.1)]), (104, .box [(aG t10441.1), (aG t10441.2.1)]), (136, .arr 9 1 (t10443.1.map bB))] rfl rfl rfl (bT H (fun c H => ?_) (fun c H => ?_)))))
  revert H; refine aK (fun t10469 A H => (cmk (bC.ac A) rfl rfl (Or.inl (bA.l1_lp (t10439 := t10439) (t10441 := t10441) (t10443 := t10443) (t10469 := t10469) (k := k) H [some 232] (bG ⟨eL lm_, ⟨.inl ⟨rfl, rfl⟩, trivial⟩⟩ ⟨fm_, trivial⟩ fi_ trivial rfl) ?_))))
  intro k x10_1 x11_1 hk H; rcases k with _ | k; exact bD H; rw [bA.l1] at H
  refine cu 289 [(2, .bp 0 0), (4, .bp 16 0), (6, .bp 64 0), (7, .bp 104 0), (8, .own 136 t10443.1.length), (9, (aG t10469)), (10, .own 256 x10_1.length), (11, .int .i64 x11_1), (39, .bool (decide (x11_1 < (t10443.1.length : Int))))] [(0, .box [.nil, .nil, .nil, .nil]), (16, .box [.nil, .nil]), (64, .box [(aG t10439.1), (aE t10439.2.1), (aD t10439.2.2.1), (aC t10439.2.2.2.1)]), (104, .box [(aG t10441.1), (aG t10441.2.1)]), (136, .arr 9 1 (t10443.1.map bB)), (256, .arr 9 1 (x10_1.map bB))] rfl rfl rfl (bT H (fun c H => ?_) (fun c H => ?_))
  refine nd_ H (fun c H => (Nd.mk nf_ (El.mk (aP _ _ nf_ nf_) ?_)))
  revert H; refine aK (fun t10472 A H => (cmk (cG.ac A) rfl rfl (dY H (fun c H => ?_) (fun c H => ?_))))
  exact ⟨(k, x10_1, wrap64 (x11_1 + 1)), [some 256], ⟨H, lt_⟩, lt_, (bG ⟨rfl, ⟨.inl ⟨rfl, rfl⟩, trivial⟩⟩ ⟨rfl, trivial⟩ fi_ trivial rfl)⟩
  refine Nd.mk nf_ (Nd.mk nf_ (El.mk (aP _ _ nf_ nf_) (Or.inl (nd_ H (fun c H => (⟨(k, (x10_1 ++ ([bE ByteArray.empty t10443.1 x11_1] : List ByteArray)), wrap64 (x11_1 + 1)), [some 393], ⟨H, lt_⟩, lt_, (bG ⟨eL lm_, ⟨.inl ⟨rfl, rfl⟩, trivial⟩⟩ ⟨fm_, trivial⟩ fi_ trivial rfl)⟩))))))
  cases H
  exact iG [256] (dL (rta rfl) (dL (mP rfl rfl) (dL (rta rfl) (gJ))))
  cases H
  exact iG [136] (dL (rta rfl) (dL (mP rfl rfl) (dL (rta rfl) (gJ))))
theorem cN.l0_lp {F : (Exit → St → Prop) → St → Prop} {hv : List Tmp} {Q : Exit → St → Prop} {σ : St} {r : Bool} {k : Nat} {a0 : ByteArray} {x7 : Int} (H : cN.l0 k a0 x7 = some r) (rn : List (Option Nat)) (h1 : cM σ σ [] [(7, .int .i64 x7)] [] [] rn)
    (h2 : ∀ (k0 : Nat) (x7 : Int), k0 < k + 1 → cN.l0 k0 a0 x7 = some r → dF σ hv [] [(7, .int .i64 x7)] [] [] (F (fun e σ' => match e with | .normal => ∃ (y : Nat × Int) (rn : List (Option Nat)), (cN.l0 y.1 a0 y.2 = some r ∧ y.1 < k + 1) ∧ y.1 < k0 ∧ cM σ σ' [] [(7, .int .i64 y.2)] [] [] rn | e => Q e σ'))) : Lp F hv Q σ := by
  unfold Lp
  refine ⟨Nat × Int, fun x => cN.l0 x.1 a0 x.2 = some r ∧ x.1 < k + 1, fun x => x.1, [], fun x => [(7, .int .i64 x.2)], fun x => [], fun x => [], ⟨(k, x7), rn, ⟨H, Nat.lt_succ_self _⟩, h1⟩, ?_⟩
  rintro ⟨k, x7⟩ ⟨H, hk⟩
  exact h2 k x7 hk H
theorem cN.ac {k : Nat} {a0 : ByteArray} {r : Bool} (H : cN.f k a0 = some r) : cK Try.prog G 42 [] [.str a0] [] (.bool r) := by
  refine bN tok hP Try.func42 rfl (by kernel_rfl) [.tmp 2] rfl (by kernel_rfl) (Nat.le_of_ble_eq_true rfl) (.l .n (.l (.l .n (.l .n (.l .n (.l (.l .n (.c .n (.c .n (.l (.c .n .n) .n)))) .n)))) (.c .n .n))) rfl ?_
  unfold cN.f at H
  refine cN.l0_lp (a0 := a0) (k := k) H [] (fq rfl rfl fi_ rfl) ?_
  intro k x7 hk H; rcases k with _ | k; exact bD H; rw [cN.l0] at H
  refine bT H (fun c H => ?_) (fun c H => ?_)
  refine nd_ H (fun c H => (Nd.mk nf_ (cu 88 [(0, .str a0), (4, .int .u8 (bt a0 x7)), (6, .int .i64 (a0.size : Int)), (7, .int .i64 x7)] [] rfl rfl rfl (bT H (fun c H => ?_) (fun c H => ?_)))))
  refine Br.t ft_ (Br.t ft_ (Br.t rfl (Br.t rfl (Br.t rfl (bT H (fun c H => ?_) (fun c H => ?_))))))
  refine Br.t ft_ (Br.t rfl (Br.t ft_ (Br.t rfl (Br.t rfl (Br.t rfl (Br.t rfl (cu 232 [(0, .str a0), (6, .int .i64 (a0.size : Int)), (7, .int .i64 x7), (30, .bool (!(decide ((bt a0 x7) = 45))))] [] rfl rfl rfl (iW H (fun c H => ?_) (fun c H => ?_)))))))))
  exact ⟨(k, wrap64 (x7 + 1)), [], ⟨H, lt_⟩, lt_, (fq rfl rfl fi_ rfl)⟩
  refine cu 240 [(2, .bool false)] [] rfl rfl rfl ?_
  cases H
  exact rz rfl
  refine Br.f ff_ (Br.t rfl (Br.f ff_ (Br.t rfl (bT H (fun c H => ?_) (fun c H => ?_)))))
  refine Br.t ft_ (Br.t ft_ (cu 232 [(0, .str a0), (6, .int .i64 (a0.size : Int)), (7, .int .i64 x7), (30, .bool (!(decide ((bt a0 x7) = 45))))] [] rfl rfl rfl (iW H (fun c H => ?_) (fun c H => ?_))))
  exact ⟨(k, wrap64 (x7 + 1)), [], ⟨H, lt_⟩, lt_, (fq rfl rfl fi_ rfl)⟩
  refine cu 240 [(2, .bool false)] [] rfl rfl rfl ?_
  cases H
  exact rz rfl
  refine Br.f ff_ (Br.f ff_ (cu 232 [(0, .str a0), (6, .int .i64 (a0.size : Int)), (7, .int .i64 x7), (30, .bool false)] [] rfl rfl rfl (Br.f rfl (⟨(k, wrap64 (x7 + 1)), [], ⟨H, lt_⟩, lt_, (fq rfl rfl fi_ rfl)⟩))))
  refine Br.f ff_ (Br.f ff_ (bT H (fun c H => ?_) (fun c H => ?_)))
  refine Br.t ft_ (Br.t ft_ (bT H (fun c H => ?_) (fun c H => ?_)))
  refine Br.t ft_ (Br.t ft_ (Br.t ft_ (Br.t ft_ (Br.t rfl (Br.t rfl (Br.t rfl (cu 232 [(0, .str a0), (6, .int .i64 (a0.size : Int)), (7, .int .i64 x7), (30, .bool (!(decide ((bt a0 x7) = 45))))] [] rfl rfl rfl (iW H (fun c H => ?_) (fun c H => ?_)))))))))
  exact ⟨(k, wrap64 (x7 + 1)), [], ⟨H, lt_⟩, lt_, (fq rfl rfl fi_ rfl)⟩
  refine cu 240 [(2, .bool false)] [] rfl rfl rfl ?_
  cases H
  exact rz rfl
  refine Br.f ff_ (Br.t ft_ (Br.f ff_ (Br.t ft_ (bT H (fun c H => ?_) (fun c H => ?_)))))
  refine Br.t ft_ (Br.t ft_ (cu 232 [(0, .str a0), (6, .int .i64 (a0.size : Int)), (7, .int .i64 x7), (30, .bool (!(decide ((bt a0 x7) = 45))))] [] rfl rfl rfl (iW H (fun c H => ?_) (fun c H => ?_))))
  exact ⟨(k, wrap64 (x7 + 1)), [], ⟨H, lt_⟩, lt_, (fq rfl rfl fi_ rfl)⟩
  refine cu 240 [(2, .bool false)] [] rfl rfl rfl ?_
  cases H
  exact rz rfl
  refine Br.f ff_ (Br.f ff_ (cu 232 [(0, .str a0), (6, .int .i64 (a0.size : Int)), (7, .int .i64 x7), (30, .bool false)] [] rfl rfl rfl (Br.f rfl (⟨(k, wrap64 (x7 + 1)), [], ⟨H, lt_⟩, lt_, (fq rfl rfl fi_ rfl)⟩))))
  refine Br.f ff_ (Br.f ff_ (Br.f ff_ (Br.f ff_ (Br.f rfl (Br.f rfl (Br.f rfl (cu 232 [(0, .str a0), (6, .int .i64 (a0.size : Int)), (7, .int .i64 x7), (30, .bool false)] [] rfl rfl rfl (Br.f rfl (⟨(k, wrap64 (x7 + 1)), [], ⟨H, lt_⟩, lt_, (fq rfl rfl fi_ rfl)⟩)))))))))
  refine bT H (fun c H => ?_) (fun c H => ?_)
  refine Br.t ft_ (Br.t ft_ (Br.t ft_ (cu 112 [(2, .bool (decide ((a0.size : Int) ≤ 8)))] [] rfl rfl rfl ?_)))
  cases H
  exact rz rfl
  refine Br.f ff_ (Br.f ff_ (Br.f ff_ (cu 112 [(2, .bool false)] [] rfl rfl rfl ?_)))
  cases H
  exact rz rfl
theorem eV.l0_lp {F : (Exit → St → Prop) → St → Prop} {hv : List Tmp} {Q : Exit → St → Prop} {σ : St} {r : Bool} {k : Nat} {l0 : List ByteArray} {x3 : Int} (H : eV.l0 k l0 x3 = some r) (rn : List (Option Nat)) (h1 : cM σ σ [] [(3, .int .i64 x3)] [] [] rn)
    (h2 : ∀ (k0 : Nat) (x3 : Int), k0 < k + 1 → eV.l0 k0 l0 x3 = some r → dF σ hv [] [(3, .int .i64 x3)] [] [] (F (fun e σ' => match e with | .normal => ∃ (y : Nat × Int) (rn : List (Option Nat)), (eV.l0 y.1 l0 y.2 = some r ∧ y.1 < k + 1) ∧ y.1 < k0 ∧ cM σ σ' [] [(3, .int .i64 y.2)] [] [] rn | e => Q e σ'))) : Lp F hv Q σ := by
  unfold Lp
  refine ⟨Nat × Int, fun x => eV.l0 x.1 l0 x.2 = some r ∧ x.1 < k + 1, fun x => x.1, [], fun x => [(3, .int .i64 x.2)], fun x => [], fun x => [], ⟨(k, x3), rn, ⟨H, Nat.lt_succ_self _⟩, h1⟩, ?_⟩
  rintro ⟨k, x3⟩ ⟨H, hk⟩
  exact h2 k x3 hk H
theorem eV.ac {k : Nat} {l0 : List ByteArray} {r : Bool} (H : eV.f k l0 = some r) : cK Try.prog G 55 [] [(aG l0)] [] (.bool r) := by
  refine bN tok hP Try.func55 rfl (by kernel_rfl) [.tmp 2] rfl (by kernel_rfl) (Nat.le_of_ble_eq_true rfl) (.l .n (.l (.l .n (.l .n (.l (.c .n .n) .n))) .n)) rfl ?_
  unfold eV.f at H
  refine eV.l0_lp (l0 := l0) (k := k) H [] (fq rfl rfl fi_ rfl) ?_
  intro k x3 hk H; rcases k with _ | k; exact bD H; rw [eV.l0] at H
  refine bT H (fun c H => ?_) (fun c H => ?_)
  refine nd_ H (fun c H => (nd_ H (fun c H => (El.mk (aP _ _ nf_ nf_) (nd_ H (fun c H => (Nd.mk nf_ (El.mk (aP _ _ nf_ nf_) (cu 128 [(0, (aG l0)), (3, .int .i64 x3), (19, .bool (!(Op.bytesLess (bE ByteArray.empty l0 (wrap64 (x3 - 1))).toList (bE ByteArray.empty l0 x3).toList)))] [] rfl rfl rfl (dY H (fun c H => ?_) (fun c H => ?_)))))))))))
  exact ⟨(k, wrap64 (x3 + 1)), [], ⟨H, lt_⟩, lt_, (fq rfl rfl fi_ rfl)⟩
  cases H
  exact rz rfl
  cases H
  exact rz rfl
theorem fG.l0_lp {F : (Exit → St → Prop) → St → Prop} {hv : List Tmp} {Q : Exit → St → Prop} {σ : St} {r : Bool} {k : Nat} {l0 : List ByteArray} {x7 : Int} (H : fG.l0 k l0 x7 = some r) (rn : List (Option Nat)) (h1 : cM σ σ [] [(7, .int .i64 x7)] [] [] rn)
    (h2 : ∀ (k0 : Nat) (x7 : Int), k0 < k + 1 → fG.l0 k0 l0 x7 = some r → dF σ hv [] [(7, .int .i64 x7)] [] [] (F (fun e σ' => match e with | .normal => ∃ (y : Nat × Int) (rn : List (Option Nat)), (fG.l0 y.1 l0 y.2 = some r ∧ y.1 < k + 1) ∧ y.1 < k0 ∧ cM σ σ' [] [(7, .int .i64 y.2)] [] [] rn | e => Q e σ'))) : Lp F hv Q σ := by
  unfold Lp
  refine ⟨Nat × Int, fun x => fG.l0 x.1 l0 x.2 = some r ∧ x.1 < k + 1, fun x => x.1, [], fun x => [(7, .int .i64 x.2)], fun x => [], fun x => [], ⟨(k, x7), rn, ⟨H, Nat.lt_succ_self _⟩, h1⟩, ?_⟩
  rintro ⟨k, x7⟩ ⟨H, hk⟩
  exact h2 k x7 hk H
theorem fG.ac {k : Nat} {l0 : List ByteArray} {r : Bool} (H : fG.f k l0 = some r) : cK Try.prog G 38 [] [(aG l0)] [] (.bool r) := by
  refine bN tok hP Try.func38 rfl (by kernel_rfl) [.tmp 2] rfl (by kernel_rfl) (Nat.le_of_ble_eq_true rfl) (.l .n (.l (.l .n (.l .n (.l .n (.l (.l .n (.c .n .n)) .n)))) .n)) rfl ?_
  unfold fG.f at H
  refine fG.l0_lp (l0 := l0) (k := k) H [] (fq rfl rfl fi_ rfl) ?_
  intro k x7 hk H; rcases k with _ | k; exact bD H; rw [fG.l0] at H
  refine bT H (fun c H => ?_) (fun c H => ?_)
  refine nd_ H (fun c H => (Nd.mk nf_ (El.mk (aP _ _ nf_ nf_) ?_)))
  revert H; refine aK (fun t10670 A H => (cmk (cN.ac A) rfl rfl (cu 88 [(0, (aG l0)), (5, (aG l0)), (6, .int .i64 (l0.length : Int)), (7, .int .i64 x7), (13, .bool (!t10670))] [] rfl rfl rfl (dY H (fun c H => ?_) (fun c H => ?_)))))
  exact ⟨(k, wrap64 (x7 + 1)), [], ⟨H, lt_⟩, lt_, (fq rfl rfl fi_ rfl)⟩
  cases H
  exact rz rfl
  revert H; refine aK (fun t10672 A H => (cmk (eV.ac A) rfl rfl ?_))
  cases H
  exact rz rfl
theorem cV.l0_lp {F : (Exit → St → Prop) → St → Prop} {hv : List Tmp} {Q : Exit → St → Prop} {σ : St} {r : List dE} {k : Nat} {a0_1 : List aF} {x2 : List dE} {x8 : Int} (H : cV.l0 k a0_1 x2 x8 = some r) (rn : List (Option Nat)) (h1 : cM σ σ [0] [(2, .own 0 x2.length), (8, .int .i64 x8)] [] [.arr 81 2 (x2.map gN)] rn)
    (h2 : ∀ (k0 : Nat) (x2 : List dE) (x8 : Int), k0 < k + 1 → cV.l0 k0 a0_1 x2 x8 = some r → dF σ hv [0] [(2, .own 0 x2.length), (8, .int .i64 x8)] [] [.arr 81 2 (x2.map gN)] (F (fun e σ' => match e with | .normal => ∃ (y : Nat × (List dE) × Int) (rn : List (Option Nat)), (cV.l0 y.1 a0_1 y.2.1 y.2.2 = some r ∧ y.1 < k + 1) ∧ y.1 < k0 ∧ cM σ σ' [0] [(2, .own 0 y.2.1.length), (8, .int .i64 y.2.2)] [] [.arr 81 2 (y.2.1.map gN)] rn | e => Q e σ'))) : Lp F hv Q σ := by
  unfold Lp
  refine ⟨Nat × (List dE) × Int, fun x => cV.l0 x.1 a0_1 x.2.1 x.2.2 = some r ∧ x.1 < k + 1, fun x => x.1, [0], fun x => [(2, .own 0 x.2.1.length), (8, .int .i64 x.2.2)], fun x => [], fun x => [.arr 81 2 (x.2.1.map gN)], ⟨(k, x2, x8), rn, ⟨H, Nat.lt_succ_self _⟩, h1⟩, ?_⟩
  rintro ⟨k, x2, x8⟩ ⟨H, hk⟩
  exact h2 k x2 x8 hk H
theorem cV.ac {k : Nat} {a0_0 : List ByteArray} {a0_1 : List aF} {a0_2 : List aB} {a0_3 : List aA} {r : List dE} (H : cV.f k a0_0 a0_1 a0_2 a0_3 = some r) : cK Try.prog G 40 [] [.agg [(aG a0_0), (aE a0_1), (aD a0_2), (aC a0_3)]] [] ((eB r)) := by
  refine bN tok hP Try.func40 rfl (by kernel_rfl) [.tmp 2] rfl (by kernel_rfl) (Nat.le_of_ble_eq_true rfl) (.l .n (.l (.l .n (.l .n (.l .n (.l (.c .n .n) .n)))) .n)) rfl ?_
  unfold cV.f at H
  refine cV.l0_lp (a0_1 := a0_1) (k := k) H [none] (bG ⟨⟨rfl, rfl⟩, ⟨.inl ⟨rfl, rfl⟩, trivial⟩⟩ ⟨rfl, trivial⟩ fi_ trivial rfl) ?_
  intro k x2 x8 hk H; rcases k with _ | k; exact bD H; rw [cV.l0] at H
  refine bT H (fun c H => ?_) (fun c H => ?_)
  refine nd_ H (fun c H => (Nd.mk nf_ (El.mk (dO _ _ nf_ nf_) (cu 89 [(2, .own 48 x2.length), (4, .bp 73 0), (6, (aE a0_1)), (7, .int .i64 (a0_1.length : Int)), (8, .int .i64 x8)] [(48, .arr 81 2 (x2.map gN)), (73, .box [.str ((bV a0_1 x8).f0), .str ((bV a0_1 x8).f1)])] rfl rfl rfl (Or.inl (nd_ H (fun c H => (⟨(k, (x2 ++ ([(⟨(bV a0_1 x8).f0, (bV a0_1 x8).f1⟩ : dE)] : List dE)), wrap64 (x8 + 1)), [some 145], ⟨H, lt_⟩, lt_, (bG ⟨eL lm_, ⟨.inl ⟨rfl, rfl⟩, trivial⟩⟩ ⟨fm_, trivial⟩ fi_ trivial rfl)⟩))))))))
  cases H
  exact jL [48] (mP rfl rfl)
theorem eQ.l0_lp {F : (Exit → St → Prop) → St → Prop} {hv : List Tmp} {Q : Exit → St → Prop} {σ : St} {r : Bool} {k : Nat} {l0 : List dE} {a1 : Int} {x9 : Int} (H : eQ.l0 k l0 a1 x9 = some r) (rn : List (Option Nat)) (h1 : cM σ σ [] [(9, .int .i64 x9)] [] [] rn)
    (h2 : ∀ (k0 : Nat) (x9 : Int), k0 < k + 1 → eQ.l0 k0 l0 a1 x9 = some r → dF σ hv [] [(9, .int .i64 x9)] [] [] (F (fun e σ' => match e with | .normal => ∃ (y : Nat × Int) (rn : List (Option Nat)), (eQ.l0 y.1 l0 a1 y.2 = some r ∧ y.1 < k + 1) ∧ y.1 < k0 ∧ cM σ σ' [] [(9, .int .i64 y.2)] [] [] rn | e => Q e σ'))) : Lp F hv Q σ := by
  unfold Lp
  refine ⟨Nat × Int, fun x => eQ.l0 x.1 l0 a1 x.2 = some r ∧ x.1 < k + 1, fun x => x.1, [], fun x => [(9, .int .i64 x.2)], fun x => [], fun x => [], ⟨(k, x9), rn, ⟨H, Nat.lt_succ_self _⟩, h1⟩, ?_⟩
  rintro ⟨k, x9⟩ ⟨H, hk⟩
  exact h2 k x9 hk H
theorem eQ.ac {k : Nat} {l0 : List dE} {a1 : Int} {r : Bool} (H : eQ.f k l0 a1 = some r) : cK Try.prog G 39 [] [(eB l0), .int .i64 a1] [] (.bool r) := by
  refine bN tok hP Try.func39 rfl (by kernel_rfl) [.tmp 4] rfl (by kernel_rfl) (Nat.le_of_ble_eq_true rfl) (.l .n (.l (.l .n (.l .n (.l .n (.l (.c .n (.l (.c .n (.l (.c .n .n) .n)) (.c .n (.l (.c .n .n) .n)))) .n)))) (.c .n .n))) rfl ?_
  unfold eQ.f at H
  refine eQ.l0_lp (l0 := l0) (a1 := a1) (k := k) H [] (fq rfl rfl fi_ rfl) ?_
  intro k x9 hk H; rcases k with _ | k; exact bD H; rw [eQ.l0] at H
  refine bT H (fun c H => ?_) (fun c H => ?_)
  refine nd_ H (fun c H => (Nd.mk nf_ (El.mk (iS _ _ nf_ nf_) (cu 88 [(0, (eB l0)), (1, .int .i64 a1), (5, .int .i64 x9), (6, .bp 64 0), (7, (eB l0)), (8, .int .i64 (l0.length : Int)), (9, .int .i64 x9)] [(64, .box [.str ((dK l0 x9).f0), .str ((dK l0 x9).f1)])] rfl rfl rfl ?_))))
  revert H; refine aK (fun t10760 A H => (cmk (cN.ac A) rfl rfl (dY H (fun c H => ?_) (fun c H => ?_))))
  refine Br.f ff_ (Br.f ff_ ?_)
  revert H; refine aK (fun t10761 A H => (cmk (cN.ac A) rfl rfl (Br.f ff_ (Br.f ff_ (dY H (fun c H => ?_) (fun c H => ?_))))))
  refine Br.f ff_ (Br.f ff_ (Br.f ff_ (Br.f ff_ (Br.f ff_ (cu 224 [(0, (eB l0)), (1, .int .i64 a1), (5, .int .i64 x9), (6, .bp 64 0), (7, (eB l0)), (8, .int .i64 (l0.length : Int)), (9, .int .i64 x9), (30, .bool (!(Op.bytesLess ((dK l0 x9).f0).toList ((dK l0 x9).f1).toList)))] [(64, .box [.str ((dK l0 x9).f0), .str ((dK l0 x9).f1)])] rfl rfl rfl (dY H (fun c H => ?_) (fun c H => ?_)))))))
  refine bT H (fun c H => ?_) (fun c H => ?_)
  refine Br.t ft_ (Br.t ft_ (Br.t ft_ (nd_ H (fun c H => (nd_ H (fun c H => (El.mk (iS _ _ nf_ nf_) (Br.t ft_ (Br.t ft_ (Br.t ft_ (Br.t ft_ (Br.t ft_ (Br.t ft_ (iI H (fun c H => ?_) (fun c H => ?_)))))))))))))))
  refine Br.t ft_ (Br.t ft_ (Br.t ft_ (Br.t ft_ (Br.t ft_ (Br.t ft_ (Br.t ft_ (Br.t ft_ (Br.t ft_ (Br.t ft_ (Br.t ft_ (Br.t ft_ (Br.t ft_ (cu 504 [(0, (eB l0)), (1, .int .i64 a1), (7, (eB l0)), (8, .int .i64 (l0.length : Int)), (9, .int .i64 x9), (65, .bool true)] [] rfl rfl rfl (Br.t rfl (cu 512 [(4, .bool false)] [] rfl rfl rfl ?_)))))))))))))))
  cases H
  exact rz rfl
  refine Br.f ff_ (Br.f ff_ (Br.f ff_ (Nd.mk nf_ (Nd.mk nf_ (El.mk (iS _ _ nf_ nf_) (Br.f ff_ (Br.f ff_ (Br.f ff_ (Br.f ff_ (Br.f ff_ (Br.f ff_ (bT H (fun c H => ?_) (fun c H => ?_)))))))))))))
  refine Br.t ft_ (Br.t ft_ (Br.t ft_ (Nd.mk nf_ (Nd.mk nf_ (El.mk (iS _ _ nf_ nf_) (Br.t ft_ (Br.t ft_ (Br.t ft_ (Br.t ft_ (Br.t ft_ (Br.f ff_ (Br.t ft_ (Br.t ft_ (Br.f ff_ (Br.t ft_ (cu 504 [(0, (eB l0)), (1, .int .i64 a1), (7, (eB l0)), (8, .int .i64 (l0.length : Int)), (9, .int .i64 x9), (65, .bool (!(Op.bytesLess ((dK l0 (wrap64 (x9 - 1))).f1).toList ((dK l0 x9).f1).toList)))] [] rfl rfl rfl (dY H (fun c H => ?_) (fun c H => ?_))))))))))))))))))
  exact ⟨(k, wrap64 (x9 + 1)), [], ⟨H, lt_⟩, lt_, (fq rfl rfl fi_ rfl)⟩
  refine cu 512 [(4, .bool false)] [] rfl rfl rfl ?_
  cases H
  exact rz rfl
  refine Br.f ff_ (Br.f ff_ (Br.f ff_ (Br.f ff_ (Br.f ff_ (Br.f ff_ (Br.f ff_ (Br.f ff_ (Br.f ff_ (Br.f ff_ (Br.t ft_ (Br.f ff_ (Br.t ft_ (cu 504 [(0, (eB l0)), (1, .int .i64 a1), (7, (eB l0)), (8, .int .i64 (l0.length : Int)), (9, .int .i64 x9), (65, .bool false)] [] rfl rfl rfl (Br.f rfl (⟨(k, wrap64 (x9 + 1)), [], ⟨H, lt_⟩, lt_, (fq rfl rfl fi_ rfl)⟩)))))))))))))))
  refine Br.f ff_ (Br.f ff_ (Br.f ff_ (Br.f ff_ (Br.f ff_ (Br.f ff_ (Br.f ff_ (Br.f ff_ (Br.f ff_ (Br.f ff_ (Br.f ff_ (cu 504 [(0, (eB l0)), (1, .int .i64 a1), (7, (eB l0)), (8, .int .i64 (l0.length : Int)), (9, .int .i64 x9), (65, .bool false)] [] rfl rfl rfl (Br.f rfl (⟨(k, wrap64 (x9 + 1)), [], ⟨H, lt_⟩, lt_, (fq rfl rfl fi_ rfl)⟩)))))))))))))
  refine cu 232 [(4, .bool false)] [] rfl rfl rfl ?_
  cases H
  exact rz rfl
  refine Br.t ft_ (Br.t ft_ (Br.t ft_ (Br.t ft_ (Br.t ft_ (cu 224 [(0, (eB l0)), (1, .int .i64 a1), (5, .int .i64 x9), (6, .bp 64 0), (7, (eB l0)), (8, .int .i64 (l0.length : Int)), (9, .int .i64 x9), (30, .bool true)] [(64, .box [.str ((dK l0 x9).f0), .str ((dK l0 x9).f1)])] rfl rfl rfl (Br.t rfl (cu 232 [(4, .bool false)] [] rfl rfl rfl ?_)))))))
  cases H
  exact rz rfl
  refine Br.t ft_ (Br.t ft_ (Br.t ft_ (Br.t ft_ (Br.t rfl (Br.t rfl (Br.t rfl (Br.t rfl (Br.t rfl (Br.t rfl (cu 224 [(0, (eB l0)), (1, .int .i64 a1), (5, .int .i64 x9), (6, .bp 64 0), (7, (eB l0)), (8, .int .i64 (l0.length : Int)), (9, .int .i64 x9), (30, .bool true)] [(64, .box [.str ((dK l0 x9).f0), .str ((dK l0 x9).f1)])] rfl rfl rfl (Br.t rfl (cu 232 [(4, .bool false)] [] rfl rfl rfl ?_))))))))))))
  cases H
  exact rz rfl
  refine cu 80 [(4, .bool (decide ((l0.length : Int) ≤ a1)))] [] rfl rfl rfl ?_
  cases H
  exact rz rfl
theorem bK.l0_lp {F : (Exit → St → Prop) → St → Prop} {hv : List Tmp} {Q : Exit → St → Prop} {σ : St} {r : Int} {k : Nat} {l0 : List ByteArray} {a1 : ByteArray} {x8 : Int} (H : bK.l0 k l0 a1 x8 = some r) (rn : List (Option Nat)) (h1 : cM σ σ [] [(8, .int .i64 x8)] [] [] rn)
    (h2 : ∀ (k0 : Nat) (x8 : Int), k0 < k + 1 → bK.l0 k0 l0 a1 x8 = some r → dF σ hv [] [(8, .int .i64 x8)] [] [] (F (fun e σ' => match e with | .normal => ∃ (y : Nat × Int) (rn : List (Option Nat)), (bK.l0 y.1 l0 a1 y.2 = some r ∧ y.1 < k + 1) ∧ y.1 < k0 ∧ cM σ σ' [] [(8, .int .i64 y.2)] [] [] rn | e => Q e σ'))) : Lp F hv Q σ := by
  unfold Lp
  refine ⟨Nat × Int, fun x => bK.l0 x.1 l0 a1 x.2 = some r ∧ x.1 < k + 1, fun x => x.1, [], fun x => [(8, .int .i64 x.2)], fun x => [], fun x => [], ⟨(k, x8), rn, ⟨H, Nat.lt_succ_self _⟩, h1⟩, ?_⟩
  rintro ⟨k, x8⟩ ⟨H, hk⟩
  exact h2 k x8 hk H
theorem bK.ac {k : Nat} {l0 : List ByteArray} {a1 : ByteArray} {r : Int} (H : bK.f k l0 a1 = some r) : cK Try.prog G 65 [] [(aG l0), .str a1] [] (.int .i64 r) := by
  refine bN tok hP Try.func65 rfl (by kernel_rfl) [.tmp 4] rfl (by kernel_rfl) (Nat.le_of_ble_eq_true rfl) (.l .n (.l (.l .n (.l .n (.l .n (.l (.l .n (.c .n .n)) .n)))) .n)) rfl ?_
  unfold bK.f at H
  refine bK.l0_lp (l0 := l0) (a1 := a1) (k := k) H [] (fq rfl rfl fi_ rfl) ?_
  intro k x8 hk H; rcases k with _ | k; exact bD H; rw [bK.l0] at H
  refine bT H (fun c H => ?_) (fun c H => ?_)
  refine nd_ H (fun c H => (Nd.mk nf_ (El.mk (aP _ _ nf_ nf_) (cu 104 [(0, (aG l0)), (1, .str a1), (5, .int .i64 x8), (7, .int .i64 (l0.length : Int)), (8, .int .i64 x8), (16, .bool (decide (a1.toList = (bE ByteArray.empty l0 x8).toList)))] [] rfl rfl rfl (bT H (fun c H => ?_) (fun c H => ?_))))))
  cases H
  exact rz rfl
  exact ⟨(k, wrap64 (x8 + 1)), [], ⟨H, lt_⟩, lt_, (fq rfl rfl fi_ rfl)⟩
  cases H
  exact rz rfl
theorem fC.ac {k : Nat} {l0 : List ByteArray} {a1 : ByteArray} {r : Bool} (H : fC.f k l0 a1 = some r) : cK Try.prog G 56 [] [(aG l0), .str a1] [] (.bool r) := by
  refine bN tok hP Try.func56 rfl (by kernel_rfl) [.tmp 4] rfl (by kernel_rfl) (Nat.le_of_ble_eq_true rfl) .n rfl ?_
  unfold fC.f at H
  revert H; refine aK (fun t10904 A H => (cmk (bK.ac A) rfl rfl ?_))
  cases H
  exact rz rfl
theorem eX.ac {k : Nat} {l0 : List ByteArray} {a1 : ByteArray} {r : Bool} (H : eX.f k l0 a1 = some r) : cK Try.prog G 41 [] [(aG l0), .str a1] [] (.bool r) := by
  refine bN tok hP Try.func41 rfl (by kernel_rfl) [.tmp 4] rfl (by kernel_rfl) (Nat.le_of_ble_eq_true rfl) .n rfl ?_
  unfold eX.f at H
  revert H; refine aK (fun t10906 A H => (cmk (fC.ac A) rfl rfl ?_))
  cases H
  exact rz rfl
theorem cF.l0_lp {F : (Exit → St → Prop) → St → Prop} {hv : List Tmp} {Q : Exit → St → Prop} {σ : St} {r : ByteArray × Int × ByteArray × Bool} {k : Nat} {a0_2 : List aB} {a1 : ByteArray} {x11 : Int} (H : cF.l0 k a0_2 a1 x11 = some r) (rn : List (Option Nat)) (h1 : cM σ σ [0] [(11, .int .i64 x11)] [] [] rn)
    (h2 : ∀ (k0 : Nat) (x11 : Int), k0 < k + 1 → cF.l0 k0 a0_2 a1 x11 = some r → dF σ hv [0] [(11, .int .i64 x11)] [] [] (F (fun e σ' => match e with | .normal => ∃ (y : Nat × Int) (rn : List (Option Nat)), (cF.l0 y.1 a0_2 a1 y.2 = some r ∧ y.1 < k + 1) ∧ y.1 < k0 ∧ cM σ σ' [0] [(11, .int .i64 y.2)] [] [] rn | e => Q e σ'))) : Lp F hv Q σ := by
  unfold Lp
  refine ⟨Nat × Int, fun x => cF.l0 x.1 a0_2 a1 x.2 = some r ∧ x.1 < k + 1, fun x => x.1, [0], fun x => [(11, .int .i64 x.2)], fun x => [], fun x => [], ⟨(k, x11), rn, ⟨H, Nat.lt_succ_self _⟩, h1⟩, ?_⟩
  rintro ⟨k, x11⟩ ⟨H, hk⟩
  exact h2 k x11 hk H
theorem cF.ac {k : Nat} {a0_0 : List ByteArray} {a0_1 : List aF} {a0_2 : List aB} {a0_3 : List aA} {a1 : ByteArray} {r : ByteArray × Int × ByteArray × Bool} (H : cF.f k a0_0 a0_1 a0_2 a0_3 a1 = some r) : cK Try.prog G 43 [] [.agg [(aG a0_0), (aE a0_1), (aD a0_2), (aC a0_3)], .str a1] [] (.tup [.agg [.str r.1, .int .i64 r.2.1, .str r.2.2.1], .bool r.2.2.2]) := by
  refine bN tok hP Try.func43 rfl (by kernel_rfl) [.cell 4 68, .tmp 5] rfl (by kernel_rfl) (Nat.le_of_ble_eq_true rfl) (.l .n (.l (.l .n (.l .n (.l .n (.l (.c .n .n) .n)))) (.c .n .n))) rfl ?_
  unfold cF.f at H
  refine cF.l0_lp (a0_2 := a0_2) (a1 := a1) (k := k) H [] (fq rfl rfl fi_ rfl) ?_
  intro k x11 hk H; rcases k with _ | k; exact bD H; rw [cF.l0] at H
  refine bT H (fun c H => ?_) (fun c H => ?_)
  refine nd_ H (fun c H => (Nd.mk nf_ (El.mk (bL _ _ nf_ nf_) (cu 96 [(1, .str a1), (4, .bp 8 0), (7, .bp 80 0), (9, (aD a0_2)), (10, .int .i64 (a0_2.length : Int)), (11, .int .i64 x11)] [(8, .box [.str (⟨#[]⟩ : ByteArray), .int .i64 0, .str (⟨#[]⟩ : ByteArray)]), (80, .box [.str ((aO a0_2 x11).f0), .int .i64 ((aO a0_2 x11).f1), .str ((aO a0_2 x11).f2)])] rfl rfl rfl (bT H (fun c H => ?_) (fun c H => ?_))))))
  cases H
  exact rts rfl
  exact ⟨(k, wrap64 (x11 + 1)), [], ⟨H, lt_⟩, lt_, (fq rfl rfl fi_ rfl)⟩
  refine cu 88 [(4, .bp 8 0), (5, .bool false)] [(8, .box [.str (⟨#[]⟩ : ByteArray), .int .i64 0, .str (⟨#[]⟩ : ByteArray)])] rfl rfl rfl ?_
  cases H
  exact rts rfl
theorem aQ.j0_sq {F : (Exit → St → Prop) → St → Prop} {hv : List Tmp} {K : St → Prop} {Q : Exit → St → Prop} {σ : St} {r : Bool} {KK : Nat} {a0_0 : List ByteArray} {a0_1 : List aF} {a0_2 : List aB} {a0_3 : List aA} {x111 : Int}
    (h1 : F (fun e σ' => match e with | .normal => ∃ (y : Nat × Bool) (rn : List (Option Nat)), (aQ.j0 y.1 a0_0 a0_1 a0_2 a0_3 x111 y.2 = some r ∧ y.1 < KK) ∧ cM σ σ' [] [(170, .bool y.2)] [] [] rn | e => Q e σ') σ)
    (h2 : ∀ (k : Nat) (x170 : Bool), k < KK → aQ.j0 k a0_0 a0_1 a0_2 a0_3 x111 x170 = some r → dF σ hv [] [(170, .bool x170)] [] [] K) : Sq F hv K Q σ := by
  unfold Sq
  refine ⟨Nat × Bool, fun x => aQ.j0 x.1 a0_0 a0_1 a0_2 a0_3 x111 x.2 = some r ∧ x.1 < KK, [], fun x => [(170, .bool x.2)], fun x => [], fun x => [], h1, ?_⟩
  rintro ⟨k, x170⟩ ⟨H, hk⟩
  exact h2 k x170 hk H
theorem aQ.l2_lp {F : (Exit → St → Prop) → St → Prop} {hv : List Tmp} {Q : Exit → St → Prop} {σ : St} {r : Bool} {k : Nat} {a0_0 : List ByteArray} {a0_1 : List aF} {a0_2 : List aB} {a0_3 : List aA} {x111 : Int} (H : aQ.l2 k a0_0 a0_1 a0_2 a0_3 x111 = some r) (rn : List (Option Nat)) (h1 : cM σ σ [] [(111, .int .i64 x111)] [] [] rn)
    (h2 : ∀ (k0 : Nat) (x111 : Int), k0 < k + 1 → aQ.l2 k0 a0_0 a0_1 a0_2 a0_3 x111 = some r → dF σ hv [] [(111, .int .i64 x111)] [] [] (F (fun e σ' => match e with | .normal => ∃ (y : Nat × Int) (rn : List (Option Nat)), (aQ.l2 y.1 a0_0 a0_1 a0_2 a0_3 y.2 = some r ∧ y.1 < k + 1) ∧ y.1 < k0 ∧ cM σ σ' [] [(111, .int .i64 y.2)] [] [] rn | e => Q e σ'))) : Lp F hv Q σ := by
  unfold Lp
  refine ⟨Nat × Int, fun x => aQ.l2 x.1 a0_0 a0_1 a0_2 a0_3 x.2 = some r ∧ x.1 < k + 1, fun x => x.1, [], fun x => [(111, .int .i64 x.2)], fun x => [], fun x => [], ⟨(k, x111), rn, ⟨H, Nat.lt_succ_self _⟩, h1⟩, ?_⟩
  rintro ⟨k, x111⟩ ⟨H, hk⟩
  exact h2 k x111 hk H
theorem aQ.l1_lp {F : (Exit → St → Prop) → St → Prop} {hv : List Tmp} {Q : Exit → St → Prop} {σ : St} {r : Bool} {k : Nat} {a0_0 : List ByteArray} {a0_1 : List aF} {a0_2 : List aB} {a0_3 : List aA} {x66 : Int} (H : aQ.l1 k a0_0 a0_1 a0_2 a0_3 x66 = some r) (rn : List (Option Nat)) (h1 : cM σ σ [] [(66, .int .i64 x66)] [] [] rn)
    (h2 : ∀ (k0 : Nat) (x66 : Int), k0 < k + 1 → aQ.l1 k0 a0_0 a0_1 a0_2 a0_3 x66 = some r → dF σ hv [] [(66, .int .i64 x66)] [] [] (F (fun e σ' => match e with | .normal => ∃ (y : Nat × Int) (rn : List (Option Nat)), (aQ.l1 y.1 a0_0 a0_1 a0_2 a0_3 y.2 = some r ∧ y.1 < k + 1) ∧ y.1 < k0 ∧ cM σ σ' [] [(66, .int .i64 y.2)] [] [] rn | e => Q e σ'))) : Lp F hv Q σ := by
  unfold Lp
  refine ⟨Nat × Int, fun x => aQ.l1 x.1 a0_0 a0_1 a0_2 a0_3 x.2 = some r ∧ x.1 < k + 1, fun x => x.1, [], fun x => [(66, .int .i64 x.2)], fun x => [], fun x => [], ⟨(k, x66), rn, ⟨H, Nat.lt_succ_self _⟩, h1⟩, ?_⟩
  rintro ⟨k, x66⟩ ⟨H, hk⟩
  exact h2 k x66 hk H
theorem aQ.l0_lp {F : (Exit → St → Prop) → St → Prop} {hv : List Tmp} {Q : Exit → St → Prop} {σ : St} {r : Bool} {k : Nat} {a0_0 : List ByteArray} {a0_1 : List aF} {a0_2 : List aB} {a0_3 : List aA} {x44 : Int} (H : aQ.l0 k a0_0 a0_1 a0_2 a0_3 x44 = some r) (rn : List (Option Nat)) (h1 : cM σ σ [] [(44, .int .i64 x44)] [] [] rn)
    (h2 : ∀ (k0 : Nat) (x44 : Int), k0 < k + 1 → aQ.l0 k0 a0_0 a0_1 a0_2 a0_3 x44 = some r → dF σ hv [] [(44, .int .i64 x44)] [] [] (F (fun e σ' => match e with | .normal => ∃ (y : Nat × Int) (rn : List (Option Nat)), (aQ.l0 y.1 a0_0 a0_1 a0_2 a0_3 y.2 = some r ∧ y.1 < k + 1) ∧ y.1 < k0 ∧ cM σ σ' [] [(44, .int .i64 y.2)] [] [] rn | e => Q e σ'))) : Lp F hv Q σ := by
  unfold Lp
  refine ⟨Nat × Int, fun x => aQ.l0 x.1 a0_0 a0_1 a0_2 a0_3 x.2 = some r ∧ x.1 < k + 1, fun x => x.1, [], fun x => [(44, .int .i64 x.2)], fun x => [], fun x => [], ⟨(k, x44), rn, ⟨H, Nat.lt_succ_self _⟩, h1⟩, ?_⟩
  rintro ⟨k, x44⟩ ⟨H, hk⟩
  exact h2 k x44 hk H

end Go.Proofs.Ytjhkgbfmigfmfaa.GV

