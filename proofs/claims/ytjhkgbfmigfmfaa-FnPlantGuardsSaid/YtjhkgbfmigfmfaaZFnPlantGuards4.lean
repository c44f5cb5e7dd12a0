import Derived.Test.YtjhkgbfmigfmfaaZFnPlantGuards3
import Derived.Shelf.Lay
import Derived.Shelf.Sort.AssemblyIn
import Derived.Ground.SoProg
import Derived.Test.YtjhkgbfmigfmfaaProg
import Derived.KernelRfl
set_option linter.unusedVariables false
set_option linter.unusedSimpArgs false
namespace Go.Proofs.Ytjhkgbfmigfmfaa.GV
open Go Go.Aw Go.RowKit Go.Proofs
set_option maxRecDepth 100000
set_option maxHeartbeats 40000000
variable {G : Nat → Option Obj}
attribute [local irreducible] kW Lp Sq Cut mV cM
theorem aQ.ac {k : Nat} {a0_0 : List ByteArray} {a0_1 : List aF} {a0_2 : List aB} {a0_3 : List aA} {r : Bool} (H : aQ.f k a0_0 a0_1 a0_2 a0_3 = some r) : cK Try.prog G 19 [] [.agg [(aG a0_0), (aE a0_1), (aD a0_2), (aC a0_3)]] [] (.bool r) := by
  refine bN tok hP Try.func19 rfl (by kernel_rfl) [.tmp 2] rfl (by kernel_rfl) (Nat.le_of_ble_eq_true rfl) (.l .n (.l (.c .n (.l (.c .n .n) .n)) (.l (.l .n (.l .n (.l .n (.l (.l .n (.c .n (.l (.c .n .n) .n))) .n)))) (.l (.l .n (.c .n (.l .n (.l (.l .n (.c .n (.l (.c .n .n) .n))) .n)))) (.l (.l .n (.l .n (.l .n (.l (.c .n (.l .n (.c .n (.j .n (.l (.c .n .n) .n))))) .n)))) .n))))) rfl ?_
  unfold aQ.f at H
  refine bT H (fun c H => ?_) (fun c H => ?_)
  refine Br.t ft_ (Br.t ft_ (Br.t ft_ (Br.t ft_ (Br.t rfl (Br.t rfl (Br.t rfl (Br.t rfl (Br.t rfl (Br.t rfl (Br.t rfl (Br.t rfl (Br.t rfl (Br.t rfl (Br.t rfl (Br.t rfl (Br.t rfl (Br.t rfl (Br.t rfl (cu 240 [(1, .bp 0 0), (40, .bool true)] [(0, .box [(aG a0_0), (aE a0_1), (aD a0_2), (aC a0_3)])] rfl rfl rfl (Br.t rfl (cu 248 [(2, .bool false)] [] rfl rfl rfl ?_)))))))))))))))))))))
  cases H
  exact rz rfl
  refine Br.f ff_ (Br.f ff_ ?_)
  revert H; refine aK (fun t10976 A H => (cmk (fG.ac A) rfl rfl (Br.f ff_ (Br.f ff_ (dY H (fun c H => ?_) (fun c H => ?_))))))
  refine Br.f ff_ ?_
  revert H; refine aK (fun t10977 A H => (cmk (cV.ac A) rfl rfl (Br.f ff_ ?_)))
  revert H; refine aK (fun t10978 A H => (cmk (eQ.ac A) rfl rfl (Br.f ff_ (Br.f ff_ (dY H (fun c H => ?_) (fun c H => ?_))))))
  refine Br.f ff_ (Br.f ff_ (Br.f ff_ (Br.f ff_ (bT H (fun c H => ?_) (fun c H => ?_)))))
  refine Br.t ft_ (Br.t ft_ (Br.t ft_ (Br.t ft_ (cu 240 [(1, .bp 0 0), (40, .bool true)] [(0, .box [(aG a0_0), (aE a0_1), (aD a0_2), (aC a0_3)])] rfl rfl rfl (Br.t rfl (cu 248 [(2, .bool false)] [] rfl rfl rfl ?_))))))
  cases H
  exact rz rfl
  refine Br.f ff_ (Br.f ff_ (Br.f ff_ (Br.f ff_ (cu 240 [(1, .bp 0 0), (40, .bool (decide ((a0_3.length : Int) > 18)))] [(0, .box [(aG a0_0), (aE a0_1), (aD a0_2), (aC a0_3)])] rfl rfl rfl (bT H (fun c H => ?_) (fun c H => ?_))))))
  refine cu 248 [(2, .bool false)] [] rfl rfl rfl ?_
  cases H
  exact rz rfl
  refine aQ.l0_lp (a0_0 := a0_0) (a0_1 := a0_1) (a0_2 := a0_2) (a0_3 := a0_3) (k := k) H [] (fq rfl rfl fi_ rfl) ?_
  intro k x44 hk H; rcases k with _ | k; exact bD H; rw [aQ.l0] at H
  refine bT H (fun c H => ?_) (fun c H => ?_)
  refine nd_ H (fun c H => (Nd.mk nf_ (El.mk (dO _ _ nf_ nf_) ?_)))
  revert H; refine aK (fun t10985 A H => (cmk (eX.ac A) rfl rfl (dY H (fun c H => ?_) (fun c H => ?_))))
  refine Br.f ff_ (Br.f ff_ (Br.f ff_ (Br.f ff_ ?_)))
  revert H; refine aK (fun t10986 A H => (cmk (eX.ac A) rfl rfl (Br.f ff_ (Br.f ff_ (cu 424 [(1, .bp 0 0), (42, (aE a0_1)), (43, .int .i64 (a0_1.length : Int)), (44, .int .i64 x44), (61, .bool (!t10986))] [(0, .box [(aG a0_0), (aE a0_1), (aD a0_2), (aC a0_3)])] rfl rfl rfl (dY H (fun c H => ?_) (fun c H => ?_)))))))
  exact ⟨(k, wrap64 (x44 + 1)), [], ⟨H, lt_⟩, lt_, (fq rfl rfl fi_ rfl)⟩
  refine cu 432 [(2, .bool false)] [] rfl rfl rfl ?_
  cases H
  exact rz rfl
  refine Br.t ft_ (Br.t ft_ (Br.t ft_ (Br.t ft_ (Br.t ft_ (Br.t ft_ (cu 424 [(1, .bp 0 0), (42, (aE a0_1)), (43, .int .i64 (a0_1.length : Int)), (44, .int .i64 x44), (61, .bool true)] [(0, .box [(aG a0_0), (aE a0_1), (aD a0_2), (aC a0_3)])] rfl rfl rfl (Br.t rfl (cu 432 [(2, .bool false)] [] rfl rfl rfl ?_))))))))
  cases H
  exact rz rfl
  refine aQ.l1_lp (a0_0 := a0_0) (a0_1 := a0_1) (a0_2 := a0_2) (a0_3 := a0_3) (k := k) H [] (fq rfl rfl fi_ rfl) ?_
  intro k x66 hk H; rcases k with _ | k; exact bD H; rw [aQ.l1] at H
  refine cu 320 [(1, .bp 0 0), (64, (aD a0_2)), (65, .int .i64 (a0_2.length : Int)), (66, .int .i64 x66), (67, .bool (decide (x66 < (a0_2.length : Int))))] [(0, .box [(aG a0_0), (aE a0_1), (aD a0_2), (aC a0_3)])] rfl rfl rfl (bT H (fun c H => ?_) (fun c H => ?_))
  refine nd_ H (fun c H => (Nd.mk nf_ (El.mk (bL _ _ nf_ nf_) ?_)))
  revert H; refine aK (fun t10993 A H => (cmk (cN.ac A) rfl rfl (dY H (fun c H => ?_) (fun c H => ?_))))
  refine Br.f ff_ (Br.f ff_ (Br.f ff_ (bT H (fun c H => ?_) (fun c H => ?_))))
  refine Br.t ft_ (Br.t ft_ (Br.t ft_ (Br.t rfl (Br.t rfl (Br.t rfl (Br.t rfl (Br.t rfl (Br.t rfl (Br.t rfl (Br.t rfl (Br.t rfl (Br.t rfl (cu 656 [(1, .bp 0 0), (64, (aD a0_2)), (65, .int .i64 (a0_2.length : Int)), (66, .int .i64 x66), (106, .bool true)] [(0, .box [(aG a0_0), (aE a0_1), (aD a0_2), (aC a0_3)])] rfl rfl rfl (Br.t rfl (cu 664 [(2, .bool false)] [] rfl rfl rfl ?_)))))))))))))))
  cases H
  exact rz rfl
  refine Br.f ff_ (Br.f ff_ (Br.f ff_ (bT H (fun c H => ?_) (fun c H => ?_))))
  refine Br.t ft_ (Br.t ft_ (Br.t ft_ (Br.t ft_ (Br.t rfl (Br.t rfl (Br.t rfl (Br.t rfl (Br.t rfl (cu 656 [(1, .bp 0 0), (64, (aD a0_2)), (65, .int .i64 (a0_2.length : Int)), (66, .int .i64 x66), (106, .bool true)] [(0, .box [(aG a0_0), (aE a0_1), (aD a0_2), (aC a0_3)])] rfl rfl rfl (Br.t rfl (cu 664 [(2, .bool false)] [] rfl rfl rfl ?_)))))))))))
  cases H
  exact rz rfl
  refine Br.f ff_ (Br.f ff_ ?_)
  revert H; refine aK (fun t10994 A H => (cmk (cN.ac A) rfl rfl (Br.f ff_ (Br.f ff_ (dY H (fun c H => ?_) (fun c H => ?_))))))
  refine Br.f ff_ (Br.f ff_ (bT H (fun c H => ?_) (fun c H => ?_)))
  refine Br.t ft_ (Br.t ft_ (Br.t ft_ (Br.t ft_ (nd_ H (fun c H => (nd_ H (fun c H => (El.mk (bL _ _ nf_ nf_) (Br.t ft_ (Br.t ft_ (Br.t ft_ (Br.t ft_ (Br.t ft_ (Br.f ff_ (Br.t ft_ (Br.f ff_ (cu 656 [(1, .bp 0 0), (64, (aD a0_2)), (65, .int .i64 (a0_2.length : Int)), (66, .int .i64 x66), (106, .bool (!(Op.bytesLess ((aO a0_2 (wrap64 (x66 - 1))).f0).toList ((aO a0_2 x66).f0).toList)))] [(0, .box [(aG a0_0), (aE a0_1), (aD a0_2), (aC a0_3)])] rfl rfl rfl (dY H (fun c H => ?_) (fun c H => ?_)))))))))))))))))))
  exact ⟨(k, wrap64 (x66 + 1)), [], ⟨H, lt_⟩, lt_, (fq rfl rfl fi_ rfl)⟩
  refine cu 664 [(2, .bool false)] [] rfl rfl rfl ?_
  cases H
  exact rz rfl
  refine Br.f ff_ (Br.f ff_ (Br.f ff_ (Br.f ff_ (Br.f ff_ (Br.f ff_ (Br.f ff_ (Br.f ff_ (Br.f ff_ (Br.f ff_ (Br.f ff_ (Br.f ff_ (cu 656 [(1, .bp 0 0), (64, (aD a0_2)), (65, .int .i64 (a0_2.length : Int)), (66, .int .i64 x66), (106, .bool false)] [(0, .box [(aG a0_0), (aE a0_1), (aD a0_2), (aC a0_3)])] rfl rfl rfl (Br.f rfl (⟨(k, wrap64 (x66 + 1)), [], ⟨H, lt_⟩, lt_, (fq rfl rfl fi_ rfl)⟩))))))))))))))
  refine Br.t ft_ (Br.t ft_ (Br.t ft_ (Br.t ft_ (cu 656 [(1, .bp 0 0), (64, (aD a0_2)), (65, .int .i64 (a0_2.length : Int)), (66, .int .i64 x66), (106, .bool true)] [(0, .box [(aG a0_0), (aE a0_1), (aD a0_2), (aC a0_3)])] rfl rfl rfl (Br.t rfl (cu 664 [(2, .bool false)] [] rfl rfl rfl ?_))))))
  cases H
  exact rz rfl
  refine Br.t ft_ (Br.t ft_ (Br.t ft_ (Br.t rfl (Br.t rfl (Br.t rfl (Br.t rfl (Br.t rfl (Br.t rfl (Br.t rfl (Br.t rfl (Br.t rfl (Br.t rfl (Br.t rfl (Br.t rfl (Br.t rfl (Br.t rfl (cu 656 [(1, .bp 0 0), (64, (aD a0_2)), (65, .int .i64 (a0_2.length : Int)), (66, .int .i64 x66), (106, .bool true)] [(0, .box [(aG a0_0), (aE a0_1), (aD a0_2), (aC a0_3)])] rfl rfl rfl (Br.t rfl (cu 664 [(2, .bool false)] [] rfl rfl rfl ?_)))))))))))))))))))
  cases H
  exact rz rfl
  refine aQ.l2_lp (a0_0 := a0_0) (a0_1 := a0_1) (a0_2 := a0_2) (a0_3 := a0_3) (k := k) H [] (fq rfl rfl fi_ rfl) ?_
  intro k x111 hk H; rcases k with _ | k; exact bD H; rw [aQ.l2] at H
  refine bT H (fun c H => ?_) (fun c H => ?_)
  refine nd_ H (fun c H => (Nd.mk nf_ (El.mk (aZ _ _ nf_ nf_) (cu 408 [(1, .bp 0 0), (7, .int .i64 x111), (8, .bp 384 0), (109, (aC a0_3)), (110, .int .i64 (a0_3.length : Int)), (111, .int .i64 x111)] [(0, .box [(aG a0_0), (aE a0_1), (aD a0_2), (aC a0_3)]), (384, .box [.str ((aH a0_3 x111).f0), .str ((aH a0_3 x111).f1), .str ((aH a0_3 x111).f2), .str ((aH a0_3 x111).f3)])] rfl rfl rfl ?_))))
  revert H; refine aK (fun t11011 A H => (cmk (cF.ac A) rfl rfl ?_))
  revert H; refine aK (fun t11012 A H => (cmk (cF.ac A) rfl rfl (cu 568 [(1, .bp 0 0), (7, .int .i64 x111), (8, .bp 384 0), (10, .bool t11011.2.2.2), (12, .bool t11012.2.2.2), (109, (aC a0_3)), (110, .int .i64 (a0_3.length : Int)), (111, .int .i64 x111)] [(0, .box [(aG a0_0), (aE a0_1), (aD a0_2), (aC a0_3)]), (384, .box [.str ((aH a0_3 x111).f0), .str ((aH a0_3 x111).f1), .str ((aH a0_3 x111).f2), .str ((aH a0_3 x111).f3)])] rfl rfl rfl (aQ.j0_sq (a0_0 := a0_0) (a0_1 := a0_1) (a0_2 := a0_2) (a0_3 := a0_3) (x111 := x111) (KK := k + 1) (r := r) ?_ ?_))))
  revert H; refine aK (fun t11015 A H => (cmk (cN.ac A) rfl rfl (dY H (fun c H => ?_) (fun c H => ?_))))
  refine Br.f ff_ (Br.f ff_ (dY H (fun c H => ?_) (fun c H => ?_)))
  refine Br.f ff_ (Br.f ff_ (dY H (fun c H => ?_) (fun c H => ?_)))
  refine Br.f ff_ (Br.f ff_ (Br.f ff_ (Br.f ff_ (Br.f ff_ (dY H (fun c H => ?_) (fun c H => ?_))))))
  refine Br.f ff_ (Br.f ff_ ?_)
  revert H; refine aK (fun t11016 A H => (cmk (cN.ac A) rfl rfl (Br.f ff_ (Br.f ff_ (dY H (fun c H => ?_) (fun c H => ?_))))))
  refine Br.f ff_ (Br.f ff_ (bT H (fun c H => ?_) (fun c H => ?_)))
  refine Br.t ft_ (Br.t ft_ (Br.t ft_ (Br.t ft_ (nd_ H (fun c H => (nd_ H (fun c H => (El.mk (aZ _ _ nf_ nf_) (Br.t ft_ (Br.t ft_ (Br.t ft_ (Br.t ft_ (Br.t ft_ (Br.f ff_ (Br.t ft_ (Br.f ff_ (⟨(k, !(Op.bytesLess ((aH a0_3 (wrap64 (x111 - 1))).f0).toList ((aH a0_3 x111).f0).toList)), [], ⟨H, lt_⟩, (fq rfl rfl fi_ rfl)⟩)))))))))))))))))
  refine Br.f ff_ (Br.f ff_ (Br.f ff_ (Br.f ff_ (Br.f ff_ (Br.f ff_ (Br.f ff_ (Br.f ff_ (Br.f ff_ (Br.f ff_ (Br.f ff_ (Br.f ff_ (⟨(k, false), [], ⟨H, lt_⟩, (fq rfl rfl fi_ rfl)⟩))))))))))))
  refine Br.t ft_ (Br.t ft_ (Br.t ft_ (Br.t ft_ (⟨(k, true), [], ⟨H, lt_⟩, (fq rfl rfl fi_ rfl)⟩))))
  refine Br.t ft_ (Br.t ft_ (Br.t ft_ (Br.t ft_ (Br.t rfl (Br.t rfl (Br.t rfl (Br.t rfl (Br.t rfl (⟨(k, true), [], ⟨H, lt_⟩, (fq rfl rfl fi_ rfl)⟩)))))))))
  refine Br.t ft_ (Br.t ft_ (Br.t ft_ (Br.t ft_ (Br.t ft_ (Br.t rfl (Br.t rfl (Br.t rfl (Br.t rfl (Br.t rfl (Br.t rfl (Br.t rfl (Br.t rfl (Br.t rfl (Br.t rfl (⟨(k, true), [], ⟨H, lt_⟩, (fq rfl rfl fi_ rfl)⟩)))))))))))))))
  refine Br.t ft_ (Br.t ft_ (Br.t rfl (Br.t rfl (Br.t rfl (Br.t rfl (Br.t rfl (Br.t rfl (Br.t rfl (Br.t rfl (Br.t rfl (Br.t rfl (Br.t rfl (Br.t rfl (Br.t rfl (Br.t rfl (Br.t rfl (Br.t rfl (⟨(k, true), [], ⟨H, lt_⟩, (fq rfl rfl fi_ rfl)⟩))))))))))))))))))
  refine Br.t ft_ (Br.t ft_ (Br.t rfl (Br.t rfl (Br.t rfl (Br.t rfl (Br.t rfl (Br.t rfl (Br.t rfl (Br.t rfl (Br.t rfl (Br.t rfl (Br.t rfl (Br.t rfl (Br.t rfl (Br.t rfl (Br.t rfl (Br.t rfl (Br.t rfl (Br.t rfl (Br.t rfl (⟨(k, true), [], ⟨H, lt_⟩, (fq rfl rfl fi_ rfl)⟩)))))))))))))))))))))
  intro k x170 hk H; rcases k with _ | k; exact bD H; rw [aQ.j0] at H
  refine iI H (fun c H => ?_) (fun c H => ?_)
  refine cu 576 [(2, .bool false)] [] rfl rfl rfl ?_
  cases H
  exact rz rfl
  exact ⟨(k, wrap64 (x111 + 1)), [], ⟨H, lt_⟩, lt_, (fq rfl rfl fi_ rfl)⟩
  cases H
  exact rz rfl
  refine Br.t ft_ (Br.t ft_ (Br.t ft_ (Br.t ft_ (Br.t rfl (Br.t rfl (Br.t rfl (Br.t rfl (Br.t rfl (cu 240 [(1, .bp 0 0), (40, .bool true)] [(0, .box [(aG a0_0), (aE a0_1), (aD a0_2), (aC a0_3)])] rfl rfl rfl (Br.t rfl (cu 248 [(2, .bool false)] [] rfl rfl rfl ?_)))))))))))
  cases H
  exact rz rfl
  refine Br.t ft_ (Br.t ft_ (Br.t ft_ (Br.t ft_ (Br.t rfl (Br.t rfl (Br.t rfl (Br.t rfl (Br.t rfl (Br.t rfl (Br.t rfl (Br.t rfl (Br.t rfl (Br.t rfl (cu 240 [(1, .bp 0 0), (40, .bool true)] [(0, .box [(aG a0_0), (aE a0_1), (aD a0_2), (aC a0_3)])] rfl rfl rfl (Br.t rfl (cu 248 [(2, .bool false)] [] rfl rfl rfl ?_))))))))))))))))
  cases H
  exact rz rfl
theorem cX.l0_lp {F : (Exit → St → Prop) → St → Prop} {hv : List Tmp} {Q : Exit → St → Prop} {σ : St} {r : ByteArray × ByteArray × ByteArray × ByteArray × Bool} {k : Nat} {a0_3 : List aA} {a1 : ByteArray} {x11 : Int} (H : cX.l0 k a0_3 a1 x11 = some r) (rn : List (Option Nat)) (h1 : cM σ σ [0] [(11, .int .i64 x11)] [] [] rn)
    (h2 : ∀ (k0 : Nat) (x11 : Int), k0 < k + 1 → cX.l0 k0 a0_3 a1 x11 = some r → dF σ hv [0] [(11, .int .i64 x11)] [] [] (F (fun e σ' => match e with | .normal => ∃ (y : Nat × Int) (rn : List (Option Nat)), (cX.l0 y.1 a0_3 a1 y.2 = some r ∧ y.1 < k + 1) ∧ y.1 < k0 ∧ cM σ σ' [0] [(11, .int .i64 y.2)] [] [] rn | e => Q e σ'))) : Lp F hv Q σ := by
  unfold Lp
  refine ⟨Nat × Int, fun x => cX.l0 x.1 a0_3 a1 x.2 = some r ∧ x.1 < k + 1, fun x => x.1, [0], fun x => [(11, .int .i64 x.2)], fun x => [], fun x => [], ⟨(k, x11), rn, ⟨H, Nat.lt_succ_self _⟩, h1⟩, ?_⟩
  rintro ⟨k, x11⟩ ⟨H, hk⟩
  exact h2 k x11 hk H
theorem cX.ac {k : Nat} {a0_0 : List ByteArray} {a0_1 : List aF} {a0_2 : List aB} {a0_3 : List aA} {a1 : ByteArray} {r : ByteArray × ByteArray × ByteArray × ByteArray × Bool} (H : cX.f k a0_0 a0_1 a0_2 a0_3 a1 = some r) : cK Try.prog G 44 [] [.agg [(aG a0_0), (aE a0_1), (aD a0_2), (aC a0_3)], .str a1] [] (.tup [.agg [.str r.1, .str r.2.1, .str r.2.2.1, .str r.2.2.2.1], .bool r.2.2.2.2]) := by
  refine bN tok hP Try.func44 rfl (by kernel_rfl) [.cell 4 53, .tmp 5] rfl (by kernel_rfl) (Nat.le_of_ble_eq_true rfl) (.l .n (.l (.l .n (.l .n (.l .n (.l (.c .n .n) .n)))) (.c .n .n))) rfl ?_
  unfold cX.f at H
  refine cX.l0_lp (a0_3 := a0_3) (a1 := a1) (k := k) H [] (fq rfl rfl fi_ rfl) ?_
  intro k x11 hk H; rcases k with _ | k; exact bD H; rw [cX.l0] at H
  refine bT H (fun c H => ?_) (fun c H => ?_)
  refine nd_ H (fun c H => (Nd.mk nf_ (El.mk (aZ _ _ nf_ nf_) (cu 96 [(1, .str a1), (4, .bp 8 0), (7, .bp 80 0), (9, (aC a0_3)), (10, .int .i64 (a0_3.length : Int)), (11, .int .i64 x11)] [(8, .box [.str (⟨#[]⟩ : ByteArray), .str (⟨#[]⟩ : ByteArray), .str (⟨#[]⟩ : ByteArray), .str (⟨#[]⟩ : ByteArray)]), (80, .box [.str ((aH a0_3 x11).f0), .str ((aH a0_3 x11).f1), .str ((aH a0_3 x11).f2), .str ((aH a0_3 x11).f3)])] rfl rfl rfl (bT H (fun c H => ?_) (fun c H => ?_))))))
  cases H
  exact rts rfl
  exact ⟨(k, wrap64 (x11 + 1)), [], ⟨H, lt_⟩, lt_, (fq rfl rfl fi_ rfl)⟩
  refine cu 88 [(4, .bp 8 0), (5, .bool false)] [(8, .box [.str (⟨#[]⟩ : ByteArray), .str (⟨#[]⟩ : ByteArray), .str (⟨#[]⟩ : ByteArray), .str (⟨#[]⟩ : ByteArray)])] rfl rfl rfl ?_
  cases H
  exact rts rfl
theorem cE.l1_lp {F : (Exit → St → Prop) → St → Prop} {hv : List Tmp} {Q : Exit → St → Prop} {σ : St} {r : Bool} {k : Nat} {a0_0 : List ByteArray} {a0_1 : List aF} {a0_2 : List aB} {a0_3 : List aA} {a1_0 : List ByteArray} {a1_1 : List ByteArray} {x71 : Int} (H : cE.l1 k a0_0 a0_1 a0_2 a0_3 a1_0 a1_1 x71 = some r) (rn : List (Option Nat)) (h1 : cM σ σ [] [(71, .int .i64 x71)] [] [] rn)
    (h2 : ∀ (k0 : Nat) (x71 : Int), k0 < k + 1 → cE.l1 k0 a0_0 a0_1 a0_2 a0_3 a1_0 a1_1 x71 = some r → dF σ hv [] [(71, .int .i64 x71)] [] [] (F (fun e σ' => match e with | .normal => ∃ (y : Nat × Int) (rn : List (Option Nat)), (cE.l1 y.1 a0_0 a0_1 a0_2 a0_3 a1_0 a1_1 y.2 = some r ∧ y.1 < k + 1) ∧ y.1 < k0 ∧ cM σ σ' [] [(71, .int .i64 y.2)] [] [] rn | e => Q e σ'))) : Lp F hv Q σ := by
  unfold Lp
  refine ⟨Nat × Int, fun x => cE.l1 x.1 a0_0 a0_1 a0_2 a0_3 a1_0 a1_1 x.2 = some r ∧ x.1 < k + 1, fun x => x.1, [], fun x => [(71, .int .i64 x.2)], fun x => [], fun x => [], ⟨(k, x71), rn, ⟨H, Nat.lt_succ_self _⟩, h1⟩, ?_⟩
  rintro ⟨k, x71⟩ ⟨H, hk⟩
  exact h2 k x71 hk H
theorem cE.l0_lp {F : (Exit → St → Prop) → St → Prop} {hv : List Tmp} {Q : Exit → St → Prop} {σ : St} {r : Bool} {k : Nat} {a0_0 : List ByteArray} {a0_1 : List aF} {a0_2 : List aB} {a0_3 : List aA} {a1_0 : List ByteArray} {a1_1 : List ByteArray} {x32 : Int} (H : cE.l0 k a0_0 a0_1 a0_2 a0_3 a1_0 a1_1 x32 = some r) (rn : List (Option Nat)) (h1 : cM σ σ [] [(32, .int .i64 x32)] [] [] rn)
    (h2 : ∀ (k0 : Nat) (x32 : Int), k0 < k + 1 → cE.l0 k0 a0_0 a0_1 a0_2 a0_3 a1_0 a1_1 x32 = some r → dF σ hv [] [(32, .int .i64 x32)] [] [] (F (fun e σ' => match e with | .normal => ∃ (y : Nat × Int) (rn : List (Option Nat)), (cE.l0 y.1 a0_0 a0_1 a0_2 a0_3 a1_0 a1_1 y.2 = some r ∧ y.1 < k + 1) ∧ y.1 < k0 ∧ cM σ σ' [] [(32, .int .i64 y.2)] [] [] rn | e => Q e σ'))) : Lp F hv Q σ := by
  unfold Lp
  refine ⟨Nat × Int, fun x => cE.l0 x.1 a0_0 a0_1 a0_2 a0_3 a1_0 a1_1 x.2 = some r ∧ x.1 < k + 1, fun x => x.1, [], fun x => [(32, .int .i64 x.2)], fun x => [], fun x => [], ⟨(k, x32), rn, ⟨H, Nat.lt_succ_self _⟩, h1⟩, ?_⟩
  rintro ⟨k, x32⟩ ⟨H, hk⟩
  exact h2 k x32 hk H
theorem cE.ac {k : Nat} {a0_0 : List ByteArray} {a0_1 : List aF} {a0_2 : List aB} {a0_3 : List aA} {a1_0 : List ByteArray} {a1_1 : List ByteArray} {r : Bool} (H : cE.f k a0_0 a0_1 a0_2 a0_3 a1_0 a1_1 = some r) : cK Try.prog G 20 [] [.agg [(aG a0_0), (aE a0_1), (aD a0_2), (aC a0_3)], .agg [(aG a1_0), (aG a1_1)]] [] (.bool r) := by
  refine bN tok hP Try.func20 rfl (by kernel_rfl) [.tmp 4] rfl (by kernel_rfl) (Nat.le_of_ble_eq_true rfl) (.l .n (.l .n (.l (.c .n (.l (.c .n .n) .n)) (.l (.l .n (.l .n (.l .n (.l (.c .n (.l .n (.c .n (.l (.c .n .n) .n)))) .n)))) (.l (.l .n (.c .n (.l .n (.l (.l .n (.c .n (.c .n (.c .n (.l (.c .n .n) .n))))) .n)))) .n))))) rfl ?_
  unfold cE.f at H
  refine bT H (fun c H => ?_) (fun c H => ?_)
  refine Br.t ft_ (Br.t ft_ (Br.t ft_ (Br.t ft_ (Br.t ft_ (Br.t ft_ (cu 136 [(2, .bp 0 0), (3, .bp 8 0), (5, .int .i64 (a1_0.length : Int)), (28, .bool true)] [(0, .box [(aG a0_0), (aE a0_1), (aD a0_2), (aC a0_3)]), (8, .box [(aG a1_0), (aG a1_1)])] rfl rfl rfl (Br.t rfl (cu 144 [(4, .bool false)] [] rfl rfl rfl ?_))))))))
  cases H
  exact rz rfl
  refine Br.f ff_ (Br.f ff_ (Br.f ff_ (Br.f ff_ (Br.f ff_ (Br.f ff_ (cu 136 [(2, .bp 0 0), (3, .bp 8 0), (5, .int .i64 (a1_0.length : Int)), (28, .bool (!(decide ((a1_1.length : Int) = (wrap64 ((a1_0.length : Int) - 1))))))] [(0, .box [(aG a0_0), (aE a0_1), (aD a0_2), (aC a0_3)]), (8, .box [(aG a1_0), (aG a1_1)])] rfl rfl rfl (iW H (fun c H => ?_) (fun c H => ?_))))))))
  refine cE.l0_lp (a0_0 := a0_0) (a0_1 := a0_1) (a0_2 := a0_2) (a0_3 := a0_3) (a1_0 := a1_0) (a1_1 := a1_1) (k := k) H [] (fq rfl rfl fi_ rfl) ?_
  intro k x32 hk H; rcases k with _ | k; exact bD H; rw [cE.l0] at H
  refine bT H (fun c H => ?_) (fun c H => ?_)
  refine nd_ H (fun c H => (Nd.mk nf_ (El.mk (aP _ _ nf_ nf_) (cu 216 [(2, .bp 0 0), (3, .bp 8 0), (5, .int .i64 (a1_0.length : Int)), (6, .int .i64 x32), (7, .str (bE ByteArray.empty a1_0 x32)), (30, (aG a1_0)), (31, .int .i64 (a1_0.length : Int)), (32, .int .i64 x32)] [(0, .box [(aG a0_0), (aE a0_1), (aD a0_2), (aC a0_3)]), (8, .box [(aG a1_0), (aG a1_1)])] rfl rfl rfl ?_))))
  revert H; refine aK (fun t11116 A H => (cmk (cF.ac A) rfl rfl (dY H (fun c H => ?_) (fun c H => ?_))))
  refine Br.f ff_ (Br.f ff_ (Br.f ff_ (Br.f ff_ (Br.f ff_ (bT H (fun c H => ?_) (fun c H => ?_))))))
  refine Br.t ft_ (Br.t ft_ (Br.t ft_ (Br.f ff_ (Br.t ft_ (Br.f ff_ (Br.f ff_ (iI H (fun c H => ?_) (fun c H => ?_))))))))
  refine Br.t ft_ (Br.t ft_ (Br.t ft_ (Br.t ft_ (Br.t ft_ (Br.t ft_ (cu 480 [(2, .bp 0 0), (3, .bp 8 0), (5, .int .i64 (a1_0.length : Int)), (30, (aG a1_0)), (31, .int .i64 (a1_0.length : Int)), (32, .int .i64 x32), (66, .bool true)] [(0, .box [(aG a0_0), (aE a0_1), (aD a0_2), (aC a0_3)]), (8, .box [(aG a1_0), (aG a1_1)])] rfl rfl rfl (Br.t rfl (cu 488 [(4, .bool false)] [] rfl rfl rfl ?_))))))))
  cases H
  exact rz rfl
  refine Br.f ff_ (Br.f ff_ (Br.f ff_ (Nd.mk nf_ (nd_ H (fun c H => (Br.f ff_ (Br.f ff_ ?_)))))))
  revert H; refine aK (fun t11117 A H => (fM (eX.ac A) (bW (gP lm_ lm_) (bW (hY rfl) (fE))) (Or.inl rfl) rfl rfl (Nat.le_of_ble_eq_true rfl) (Br.f ff_ (cu 480 [(2, .bp 0 0), (3, .bp 8 0), (5, .int .i64 (a1_0.length : Int)), (30, (aG a1_0)), (31, .int .i64 (a1_0.length : Int)), (32, .int .i64 x32), (66, .bool t11117)] [(0, .box [(aG a0_0), (aE a0_1), (aD a0_2), (aC a0_3)]), (8, .box [(aG a1_0), (aG a1_1)])] rfl rfl rfl (iI H (fun c H => ?_) (fun c H => ?_))))))
  refine cu 488 [(4, .bool false)] [] rfl rfl rfl ?_
  cases H
  exact rz rfl
  exact ⟨(k, wrap64 (x32 + 1)), [], ⟨H, lt_⟩, lt_, (fq rfl rfl fi_ rfl)⟩
  refine Br.f ff_ (Br.f ff_ (Br.f ff_ (Br.f ff_ (Br.f ff_ (Br.f ff_ (Br.f ff_ (iI H (fun c H => ?_) (fun c H => ?_))))))))
  refine Br.t ft_ (Br.t ft_ (Br.t ft_ (Br.t ft_ (Br.t ft_ (Br.t ft_ (cu 480 [(2, .bp 0 0), (3, .bp 8 0), (5, .int .i64 (a1_0.length : Int)), (30, (aG a1_0)), (31, .int .i64 (a1_0.length : Int)), (32, .int .i64 x32), (66, .bool true)] [(0, .box [(aG a0_0), (aE a0_1), (aD a0_2), (aC a0_3)]), (8, .box [(aG a1_0), (aG a1_1)])] rfl rfl rfl (Br.t rfl (cu 488 [(4, .bool false)] [] rfl rfl rfl ?_))))))))
  cases H
  exact rz rfl
  refine Br.f ff_ (Br.f ff_ (Br.f ff_ (Nd.mk nf_ (nd_ H (fun c H => (Br.f ff_ (Br.f ff_ ?_)))))))
  revert H; refine aK (fun t11118 A H => (fM (eX.ac A) (bW (gP lm_ lm_) (bW (hY rfl) (fE))) (Or.inl rfl) rfl rfl (Nat.le_of_ble_eq_true rfl) (Br.f ff_ (cu 480 [(2, .bp 0 0), (3, .bp 8 0), (5, .int .i64 (a1_0.length : Int)), (30, (aG a1_0)), (31, .int .i64 (a1_0.length : Int)), (32, .int .i64 x32), (66, .bool t11118)] [(0, .box [(aG a0_0), (aE a0_1), (aD a0_2), (aC a0_3)]), (8, .box [(aG a1_0), (aG a1_1)])] rfl rfl rfl (iI H (fun c H => ?_) (fun c H => ?_))))))
  refine cu 488 [(4, .bool false)] [] rfl rfl rfl ?_
  cases H
  exact rz rfl
  exact ⟨(k, wrap64 (x32 + 1)), [], ⟨H, lt_⟩, lt_, (fq rfl rfl fi_ rfl)⟩
  refine Br.t ft_ (Br.t ft_ (Br.t ft_ (Br.t ft_ (Br.t ft_ (Br.t ft_ (Br.t ft_ (Br.t ft_ (Br.t rfl (Br.t rfl (Br.t rfl (Br.t rfl (Br.t rfl (Br.t rfl (Br.t rfl (cu 480 [(2, .bp 0 0), (3, .bp 8 0), (5, .int .i64 (a1_0.length : Int)), (30, (aG a1_0)), (31, .int .i64 (a1_0.length : Int)), (32, .int .i64 x32), (66, .bool true)] [(0, .box [(aG a0_0), (aE a0_1), (aD a0_2), (aC a0_3)]), (8, .box [(aG a1_0), (aG a1_1)])] rfl rfl rfl (Br.t rfl (cu 488 [(4, .bool false)] [] rfl rfl rfl ?_)))))))))))))))))
  cases H
  exact rz rfl
  refine cE.l1_lp (a0_0 := a0_0) (a0_1 := a0_1) (a0_2 := a0_2) (a0_3 := a0_3) (a1_0 := a1_0) (a1_1 := a1_1) (k := k) H [] (fq rfl rfl fi_ rfl) ?_
  intro k x71 hk H; rcases k with _ | k; exact bD H; rw [cE.l1] at H
  refine cu 216 [(2, .bp 0 0), (3, .bp 8 0), (69, (aG a1_1)), (70, .int .i64 (a1_1.length : Int)), (71, .int .i64 x71), (72, .bool (decide (x71 < (a1_1.length : Int))))] [(0, .box [(aG a0_0), (aE a0_1), (aD a0_2), (aC a0_3)]), (8, .box [(aG a1_0), (aG a1_1)])] rfl rfl rfl (bT H (fun c H => ?_) (fun c H => ?_))
  refine nd_ H (fun c H => (Nd.mk nf_ (El.mk (aP _ _ nf_ nf_) ?_)))
  revert H; refine aK (fun t11122 A H => (cmk (cX.ac A) rfl rfl (cu 328 [(2, .bp 0 0), (3, .bp 8 0), (10, .int .i64 x71), (12, .bp 304 0), (13, .bool t11122.2.2.2.2), (69, (aG a1_1)), (70, .int .i64 (a1_1.length : Int)), (71, .int .i64 x71)] [(0, .box [(aG a0_0), (aE a0_1), (aD a0_2), (aC a0_3)]), (8, .box [(aG a1_0), (aG a1_1)]), (304, .box [.str t11122.1, .str t11122.2.1, .str t11122.2.2.1, .str t11122.2.2.2.1])] rfl rfl rfl (Nd.mk nf_ (nd_ H (fun c H => (El.mk (aP _ _ nf_ nf_) (nd_ H (fun c H => (nd_ H (fun c H => (El.mk (aP _ _ nf_ nf_) (Nd.mk nf_ (Nd.mk nf_ (El.mk (aP _ _ nf_ nf_) (Nd.mk nf_ (Nd.mk nf_ (El.mk (aP _ _ nf_ nf_) (cu 536 [(2, .bp 0 0), (3, .bp 8 0), (12, .bp 304 0), (13, .bool t11122.2.2.2.2), (14, .str (mnS (bE ByteArray.empty a1_0 x71) (bE ByteArray.empty a1_0 (wrap64 (x71 + 1))))), (15, .str (mxS (bE ByteArray.empty a1_0 x71) (bE ByteArray.empty a1_0 (wrap64 (x71 + 1))))), (69, (aG a1_1)), (70, .int .i64 (a1_1.length : Int)), (71, .int .i64 x71)] [(0, .box [(aG a0_0), (aE a0_1), (aD a0_2), (aC a0_3)]), (8, .box [(aG a1_0), (aG a1_1)]), (304, .box [.str t11122.1, .str t11122.2.1, .str t11122.2.2.1, .str t11122.2.2.2.1])] rfl rfl rfl (dY H (fun c H => ?_) (fun c H => ?_)))))))))))))))))))))
  refine Br.f ff_ (Br.f ff_ (Br.f ff_ (Br.f ff_ (iW H (fun c H => ?_) (fun c H => ?_)))))
  refine Br.f ff_ (Br.f ff_ (Br.f ff_ (Br.f ff_ (cu 648 [(2, .bp 0 0), (3, .bp 8 0), (69, (aG a1_1)), (70, .int .i64 (a1_1.length : Int)), (71, .int .i64 x71), (119, .bool (!(decide (t11122.2.2.1.toList = (mxS (bE ByteArray.empty a1_0 x71) (bE ByteArray.empty a1_0 (wrap64 (x71 + 1)))).toList))))] [(0, .box [(aG a0_0), (aE a0_1), (aD a0_2), (aC a0_3)]), (8, .box [(aG a1_0), (aG a1_1)])] rfl rfl rfl (iW H (fun c H => ?_) (fun c H => ?_))))))
  exact ⟨(k, wrap64 (x71 + 1)), [], ⟨H, lt_⟩, lt_, (fq rfl rfl fi_ rfl)⟩
  refine cu 656 [(4, .bool false)] [] rfl rfl rfl ?_
  cases H
  exact rz rfl
  refine Br.t ft_ (Br.t ft_ (Br.t ft_ (Br.t ft_ (cu 648 [(2, .bp 0 0), (3, .bp 8 0), (69, (aG a1_1)), (70, .int .i64 (a1_1.length : Int)), (71, .int .i64 x71), (119, .bool true)] [(0, .box [(aG a0_0), (aE a0_1), (aD a0_2), (aC a0_3)]), (8, .box [(aG a1_0), (aG a1_1)])] rfl rfl rfl (Br.t rfl (cu 656 [(4, .bool false)] [] rfl rfl rfl ?_))))))
  cases H
  exact rz rfl
  refine Br.t ft_ (Br.t ft_ (Br.t ft_ (Br.t ft_ (Br.t rfl (Br.t rfl (Br.t rfl (Br.t rfl (Br.t rfl (cu 648 [(2, .bp 0 0), (3, .bp 8 0), (69, (aG a1_1)), (70, .int .i64 (a1_1.length : Int)), (71, .int .i64 x71), (119, .bool true)] [(0, .box [(aG a0_0), (aE a0_1), (aD a0_2), (aC a0_3)]), (8, .box [(aG a1_0), (aG a1_1)])] rfl rfl rfl (Br.t rfl (cu 656 [(4, .bool false)] [] rfl rfl rfl ?_)))))))))))
  cases H
  exact rz rfl
  cases H
  exact rz rfl
  refine cu 144 [(4, .bool false)] [] rfl rfl rfl ?_
  cases H
  exact rz rfl
theorem fB.l0_lp {F : (Exit → St → Prop) → St → Prop} {hv : List Tmp} {Q : Exit → St → Prop} {σ : St} {r : Bool} {k : Nat} {l0 : List ByteArray} {l1 : List ByteArray} {x9 : Int} (H : fB.l0 k l0 l1 x9 = some r) (rn : List (Option Nat)) (h1 : cM σ σ [] [(9, .int .i64 x9)] [] [] rn)
    (h2 : ∀ (k0 : Nat) (x9 : Int), k0 < k + 1 → fB.l0 k0 l0 l1 x9 = some r → dF σ hv [] [(9, .int .i64 x9)] [] [] (F (fun e σ' => match e with | .normal => ∃ (y : Nat × Int) (rn : List (Option Nat)), (fB.l0 y.1 l0 l1 y.2 = some r ∧ y.1 < k + 1) ∧ y.1 < k0 ∧ cM σ σ' [] [(9, .int .i64 y.2)] [] [] rn | e => Q e σ'))) : Lp F hv Q σ := by
  unfold Lp
  refine ⟨Nat × Int, fun x => fB.l0 x.1 l0 l1 x.2 = some r ∧ x.1 < k + 1, fun x => x.1, [], fun x => [(9, .int .i64 x.2)], fun x => [], fun x => [], ⟨(k, x9), rn, ⟨H, Nat.lt_succ_self _⟩, h1⟩, ?_⟩
  rintro ⟨k, x9⟩ ⟨H, hk⟩
  exact h2 k x9 hk H
theorem fB.ac {k : Nat} {l0 : List ByteArray} {l1 : List ByteArray} {r : Bool} (H : fB.f k l0 l1 = some r) : cK Try.prog G 21 [] [(aG l0), (aG l1)] [] (.bool r) := by
  refine bN tok hP Try.func21 rfl (by kernel_rfl) [.tmp 4] rfl (by kernel_rfl) (Nat.le_of_ble_eq_true rfl) (.l .n (.l (.l .n (.l .n (.l .n (.l (.l .n (.c .n .n)) .n)))) .n)) rfl ?_
  unfold fB.f at H
  refine fB.l0_lp (l0 := l0) (l1 := l1) (k := k) H [] (fq rfl rfl fi_ rfl) ?_
  intro k x9 hk H; rcases k with _ | k; exact bD H; rw [fB.l0] at H
  refine bT H (fun c H => ?_) (fun c H => ?_)
  refine nd_ H (fun c H => (Nd.mk nf_ (El.mk (aP _ _ nf_ nf_) ?_)))
  revert H; refine aK (fun t11166 A H => (cmk (eX.ac A) rfl rfl (cu 96 [(1, (aG l1)), (7, (aG l0)), (8, .int .i64 (l0.length : Int)), (9, .int .i64 x9), (16, .bool (!t11166))] [] rfl rfl rfl (dY H (fun c H => ?_) (fun c H => ?_)))))
  exact ⟨(k, wrap64 (x9 + 1)), [], ⟨H, lt_⟩, lt_, (fq rfl rfl fi_ rfl)⟩
  cases H
  exact rz rfl
  cases H
  exact rz rfl
end Go.Proofs.Ytjhkgbfmigfmfaa.GV
namespace Go.Proofs
open Go.Shelf Go.Sort Go.RowKit in
shelf_lay Lays.n192 Nm 192 at Try as Try.gx192
end Go.Proofs
namespace Go.Proofs.Ytjhkgbfmigfmfaa.GV
open Go Go.Aw Go.RowKit Go.Proofs
set_option maxRecDepth 100000
set_option maxHeartbeats 40000000
variable {G : Nat → Option Obj}
attribute [local irreducible] kW Lp Sq Cut mV cM
theorem sort_Strings.ac {l0 : List ByteArray} {r : List ByteArray} (H : sort_Strings.f l0 = some r) : cK Try.prog G 45 [.arr 9 1 (l0.map bB)] [.own 0 l0.length] [.arr 9 1 (r.map bB)] .und := by
  exact xU Try.gx192 ⟨_, Try.func45, by kernel_rfl, by kernel_rfl⟩ G 9 rfl H (fun _ => rfl)
theorem dS.l0_lp {F : (Exit → St → Prop) → St → Prop} {hv : List Tmp} {Q : Exit → St → Prop} {σ : St} {r : List ByteArray} {k : Nat} {l0 : List ByteArray} {l1 : List ByteArray} {x5 : List ByteArray} {x12 : Int} (H : dS.l0 k l0 l1 x5 x12 = some r) (rn : List (Option Nat)) (h1 : cM σ σ [16] [(5, .own 0 x5.length), (12, .int .i64 x12)] [] [.arr 9 1 (x5.map bB)] rn)
    (h2 : ∀ (k0 : Nat) (x5 : List ByteArray) (x12 : Int), k0 < k + 1 → dS.l0 k0 l0 l1 x5 x12 = some r → dF σ hv [16] [(5, .own 0 x5.length), (12, .int .i64 x12)] [] [.arr 9 1 (x5.map bB)] (F (fun e σ' => match e with | .normal => ∃ (y : Nat × (List ByteArray) × Int) (rn : List (Option Nat)), (dS.l0 y.1 l0 l1 y.2.1 y.2.2 = some r ∧ y.1 < k + 1) ∧ y.1 < k0 ∧ cM σ σ' [16] [(5, .own 0 y.2.1.length), (12, .int .i64 y.2.2)] [] [.arr 9 1 (y.2.1.map bB)] rn | e => Q e σ'))) : Lp F hv Q σ := by
  unfold Lp
  refine ⟨Nat × (List ByteArray) × Int, fun x => dS.l0 x.1 l0 l1 x.2.1 x.2.2 = some r ∧ x.1 < k + 1, fun x => x.1, [16], fun x => [(5, .own 0 x.2.1.length), (12, .int .i64 x.2.2)], fun x => [], fun x => [.arr 9 1 (x.2.1.map bB)], ⟨(k, x5, x12), rn, ⟨H, Nat.lt_succ_self _⟩, h1⟩, ?_⟩
  rintro ⟨k, x5, x12⟩ ⟨H, hk⟩
  exact h2 k x5 x12 hk H
theorem dS.ac {k : Nat} {l0 : List ByteArray} {l1 : List ByteArray} {r : List ByteArray} (H : dS.f k l0 l1 = some r) : cK Try.prog G 24 [] [(aG l0), (aG l1)] [] ((aG r)) := by
  refine bN tok hP Try.func24 rfl (by kernel_rfl) [.tmp 4] rfl (by kernel_rfl) (Nat.le_of_ble_eq_true rfl) (.l .n (.l .n (.l (.l .n (.l .n (.l .n (.l (.c .n .n) .n)))) (.c .n .n)))) rfl ?_
  unfold dS.f at H
  refine nd_ H (fun c H => (dS.l0_lp (l0 := l0) (l1 := l1) (k := k) H [some 16] (bG ⟨eL lm_, ⟨.inl ⟨rfl, rfl⟩, trivial⟩⟩ ⟨fm_, trivial⟩ fi_ trivial rfl) ?_))
  intro k x5 x12 hk H; rcases k with _ | k; exact bD H; rw [dS.l0] at H
  refine bT H (fun c H => ?_) (fun c H => ?_)
  refine nd_ H (fun c H => (Nd.mk nf_ (El.mk (aP _ _ nf_ nf_) (cu 89 [(5, .own 56 x5.length), (7, .str (bE ByteArray.empty l1 x12)), (10, (aG l1)), (11, .int .i64 (l1.length : Int)), (12, .int .i64 x12)] [(56, .arr 9 1 (x5.map bB))] rfl rfl rfl ?_))))
  revert H; refine aK (fun t11260 A H => (fM (eX.ac A) (bW (nV rfl rfl) (bW (hY rfl) (fE))) (Or.inr ⟨rfl, nD⟩) rfl rfl (Nat.le_of_ble_eq_true rfl) (dY H (fun c H => ?_) (fun c H => ?_))))
  exact ⟨(k, x5, wrap64 (x12 + 1)), [some 56], ⟨H, lt_⟩, lt_, (bG ⟨rfl, ⟨.inl ⟨rfl, rfl⟩, trivial⟩⟩ ⟨rfl, trivial⟩ fi_ trivial rfl)⟩
  refine Or.inl (nd_ H (fun c H => (⟨(k, (x5 ++ ([bE ByteArray.empty l1 x12] : List ByteArray)), wrap64 (x12 + 1)), [some 145], ⟨H, lt_⟩, lt_, (bG ⟨eL lm_, ⟨.inl ⟨rfl, rfl⟩, trivial⟩⟩ ⟨fm_, trivial⟩ fi_ trivial rfl)⟩)))
  revert H; refine aK (fun t11262 A H => (bQ [56] (sort_Strings.ac A) ⟨rfl, trivial⟩ rfl rfl rfl rfl rfl rfl rfl rfl ?_))
  have Lt11262 := uS A
  refine cu 81 [(5, .own 56 x5.length)] [(56, .arr 9 1 (t11262.map bB))] rfl rfl rfl ?_
  cases H
  exact jL [56] (nY rfl lm_ lm_ rfl)
theorem dS.l0_lpO {F : (Exit → St → Prop) → St → Prop} {hv : List Tmp} {Q : Exit → St → Prop} {σ : St} {r : List ByteArray} {k : Nat} {l0 : List ByteArray} {l1 : List ByteArray} {x5 : List ByteArray} {x12 : Int} (H : dS.l0 k l0 l1 x5 x12 = some r) (rn : List (Option Nat)) (h1 : cM σ σ [16] [(5, .own 0 x5.length), (12, .int .i64 x12)] [] [.arr 9 1 (x5.map bB)] rn)
    (h2 : ∀ (k0 : Nat) (x5 : List ByteArray) (x12 : Int), k0 < k + 1 → dS.l0 k0 l0 l1 x5 x12 = some r → dF σ hv [16] [(5, .own 0 x5.length), (12, .int .i64 x12)] [] [.arr 9 1 (x5.map bB)] (F (fun e σ' => match e with | .normal => ∃ (y : Nat × (List ByteArray) × Int) (rn : List (Option Nat)), (dS.l0 y.1 l0 l1 y.2.1 y.2.2 = some r ∧ y.1 < k + 1) ∧ y.1 < k0 ∧ cM σ σ' [16] [(5, .own 0 y.2.1.length), (12, .int .i64 y.2.2)] [] [.arr 9 1 (y.2.1.map bB)] rn | e => Q e σ'))) : Lp F hv Q σ := by
  unfold Lp
  refine ⟨Nat × (List ByteArray) × Int, fun x => dS.l0 x.1 l0 l1 x.2.1 x.2.2 = some r ∧ x.1 < k + 1, fun x => x.1, [16], fun x => [(5, .own 0 x.2.1.length), (12, .int .i64 x.2.2)], fun x => [], fun x => [.arr 9 1 (x.2.1.map bB)], ⟨(k, x5, x12), rn, ⟨H, Nat.lt_succ_self _⟩, h1⟩, ?_⟩
  rintro ⟨k, x5, x12⟩ ⟨H, hk⟩
  exact h2 k x5 x12 hk H
theorem dS.acO {k : Nat} {l0 : List ByteArray} {l1 : List ByteArray} {r : List ByteArray} (H : dS.f k l0 l1 = some r) : cK Try.prog G 24 [] [(aG l0), (aG l1)] [.arr 9 1 (r.map bB)] (.own 0 r.length) := by
  refine bN tok hP Try.func24 rfl (by kernel_rfl) [.tmp 4] rfl (by kernel_rfl) (Nat.le_of_ble_eq_true rfl) (.l .n (.l .n (.l (.l .n (.l .n (.l .n (.l (.c .n .n) .n)))) (.c .n .n)))) rfl ?_
  unfold dS.f at H
  refine nd_ H (fun c H => (dS.l0_lpO (l0 := l0) (l1 := l1) (k := k) H [some 16] (bG ⟨eL lm_, ⟨.inl ⟨rfl, rfl⟩, trivial⟩⟩ ⟨fm_, trivial⟩ fi_ trivial rfl) ?_))
  intro k x5 x12 hk H; rcases k with _ | k; exact bD H; rw [dS.l0] at H
  refine bT H (fun c H => ?_) (fun c H => ?_)
  refine nd_ H (fun c H => (Nd.mk nf_ (El.mk (aP _ _ nf_ nf_) (cu 89 [(5, .own 56 x5.length), (7, .str (bE ByteArray.empty l1 x12)), (10, (aG l1)), (11, .int .i64 (l1.length : Int)), (12, .int .i64 x12)] [(56, .arr 9 1 (x5.map bB))] rfl rfl rfl ?_))))
  revert H; refine aK (fun t11369 A H => (fM (eX.ac A) (bW (nV rfl rfl) (bW (hY rfl) (fE))) (Or.inr ⟨rfl, nD⟩) rfl rfl (Nat.le_of_ble_eq_true rfl) (dY H (fun c H => ?_) (fun c H => ?_))))
  exact ⟨(k, x5, wrap64 (x12 + 1)), [some 56], ⟨H, lt_⟩, lt_, (bG ⟨rfl, ⟨.inl ⟨rfl, rfl⟩, trivial⟩⟩ ⟨rfl, trivial⟩ fi_ trivial rfl)⟩
  refine Or.inl (nd_ H (fun c H => (⟨(k, (x5 ++ ([bE ByteArray.empty l1 x12] : List ByteArray)), wrap64 (x12 + 1)), [some 145], ⟨H, lt_⟩, lt_, (bG ⟨eL lm_, ⟨.inl ⟨rfl, rfl⟩, trivial⟩⟩ ⟨fm_, trivial⟩ fi_ trivial rfl)⟩)))
  revert H; refine aK (fun t11371 A H => (bQ [56] (sort_Strings.ac A) ⟨rfl, trivial⟩ rfl rfl rfl rfl rfl rfl rfl rfl ?_))
  have Lt11371 := uS A
  refine cu 81 [(5, .own 56 x5.length)] [(56, .arr 9 1 (t11371.map bB))] rfl rfl rfl ?_
  cases H
  exact eT [some 56] [] ((eL lm_)) ⟨rfl, trivial⟩ rfl
theorem cT.l1_lp {F : (Exit → St → Prop) → St → Prop} {hv : List Tmp} {Q : Exit → St → Prop} {σ : St} {r : List ByteArray} {k : Nat} {a0_3 : List aA} {l1 : List ByteArray} {x9_1 : List ByteArray} {x10_1 : Bool} {x27 : Int} (H : cT.l1 k a0_3 l1 x9_1 x10_1 x27 = some r) (rn : List (Option Nat)) (h1 : cM σ σ [136] [(9, .own 0 x9_1.length), (10, .bool x10_1), (27, .int .i64 x27)] [] [.arr 9 1 (x9_1.map bB)] rn)
    (h2 : ∀ (k0 : Nat) (x9_1 : List ByteArray) (x10_1 : Bool) (x27 : Int), k0 < k + 1 → cT.l1 k0 a0_3 l1 x9_1 x10_1 x27 = some r → dF σ hv [136] [(9, .own 0 x9_1.length), (10, .bool x10_1), (27, .int .i64 x27)] [] [.arr 9 1 (x9_1.map bB)] (F (fun e σ' => match e with | .normal => ∃ (y : Nat × (List ByteArray) × Bool × Int) (rn : List (Option Nat)), (cT.l1 y.1 a0_3 l1 y.2.1 y.2.2.1 y.2.2.2 = some r ∧ y.1 < k + 1) ∧ y.1 < k0 ∧ cM σ σ' [136] [(9, .own 0 y.2.1.length), (10, .bool y.2.2.1), (27, .int .i64 y.2.2.2)] [] [.arr 9 1 (y.2.1.map bB)] rn | e => Q e σ'))) : Lp F hv Q σ := by
  unfold Lp
  refine ⟨Nat × (List ByteArray) × Bool × Int, fun x => cT.l1 x.1 a0_3 l1 x.2.1 x.2.2.1 x.2.2.2 = some r ∧ x.1 < k + 1, fun x => x.1, [136], fun x => [(9, .own 0 x.2.1.length), (10, .bool x.2.2.1), (27, .int .i64 x.2.2.2)], fun x => [], fun x => [.arr 9 1 (x.2.1.map bB)], ⟨(k, x9_1, x10_1, x27), rn, ⟨H, Nat.lt_succ_self _⟩, h1⟩, ?_⟩
  rintro ⟨k, x9_1, x10_1, x27⟩ ⟨H, hk⟩
  exact h2 k x9_1 x10_1 x27 hk H
theorem cT.l0_lp {F : (Exit → St → Prop) → St → Prop} {hv : List Tmp} {Q : Exit → St → Prop} {σ : St} {r : List ByteArray} {k : Nat} {a0_3 : List aA} {l1 : List ByteArray} {x9 : List ByteArray} {x10 : Bool} (H : cT.l0 k a0_3 l1 x9 x10 = some r) (rn : List (Option Nat)) (h1 : cM σ σ [112] [(9, .own 0 x9.length), (10, .bool x10)] [] [.arr 9 1 (x9.map bB)] rn)
    (h2 : ∀ (k0 : Nat) (x9 : List ByteArray) (x10 : Bool), k0 < k + 1 → cT.l0 k0 a0_3 l1 x9 x10 = some r → dF σ hv [112] [(9, .own 0 x9.length), (10, .bool x10)] [] [.arr 9 1 (x9.map bB)] (F (fun e σ' => match e with | .normal => ∃ (y : Nat × (List ByteArray) × Bool) (rn : List (Option Nat)), (cT.l0 y.1 a0_3 l1 y.2.1 y.2.2 = some r ∧ y.1 < k + 1) ∧ y.1 < k0 ∧ cM σ σ' [112] [(9, .own 0 y.2.1.length), (10, .bool y.2.2)] [] [.arr 9 1 (y.2.1.map bB)] rn | e => Q e σ'))) : Lp F hv Q σ := by
  unfold Lp
  refine ⟨Nat × (List ByteArray) × Bool, fun x => cT.l0 x.1 a0_3 l1 x.2.1 x.2.2 = some r ∧ x.1 < k + 1, fun x => x.1, [112], fun x => [(9, .own 0 x.2.1.length), (10, .bool x.2.2)], fun x => [], fun x => [.arr 9 1 (x.2.1.map bB)], ⟨(k, x9, x10), rn, ⟨H, Nat.lt_succ_self _⟩, h1⟩, ?_⟩
  rintro ⟨k, x9, x10⟩ ⟨H, hk⟩
  exact h2 k x9 x10 hk H
theorem cT.ac {k : Nat} {a0_0 : List ByteArray} {a0_1 : List aF} {a0_2 : List aB} {a0_3 : List aA} {l1 : List ByteArray} {a2 : ByteArray} {r : List ByteArray} (H : cT.f k a0_0 a0_1 a0_2 a0_3 l1 a2 = some r) : cK Try.prog G 23 [] [.agg [(aG a0_0), (aE a0_1), (aD a0_2), (aC a0_3)], (aG l1), .str a2] [] ((aG r)) := by
  refine bN tok hP Try.func23 rfl (by kernel_rfl) [.tmp 6] rfl (by kernel_rfl) (Nat.le_of_ble_eq_true rfl) (.l .n (.l (.c .n .n) (.l .n (.l (.l .n (.l .n (.l .n (.c .n (.l .n (.l .n (.l (.l .n (.c .n (.l (.c .n .n) .n))) .n))))))) .n)))) rfl ?_
  unfold cT.f at H
  revert H; refine aK (fun t11374 A H => (cmk (cF.ac A) rfl rfl (cu 88 [(1, (aG l1)), (2, .str a2), (3, .bp 0 0), (8, .bool t11374.2.2.2)] [(0, .box [(aG a0_0), (aE a0_1), (aD a0_2), (aC a0_3)])] rfl rfl rfl (dY H (fun c H => ?_) (fun c H => ?_)))))
  refine Or.inl (cT.l0_lp (a0_3 := a0_3) (l1 := l1) (k := k) H [some 112] (bG ⟨eL lm_, ⟨.inl ⟨rfl, rfl⟩, trivial⟩⟩ ⟨fm_, trivial⟩ fi_ trivial rfl) ?_)
  intro k x9 x10 hk H; rcases k with _ | k; exact bD H; rw [cT.l0] at H
  refine iI H (fun c H => ?_) (fun c H => ?_)
  refine cu 185 [(1, (aG l1)), (3, .bp 0 0), (9, .own 136 x9.length), (10, .bool false), (25, (aC a0_3)), (26, .int .i64 (a0_3.length : Int)), (27, .int .i64 0)] [(0, .box [(aG a0_0), (aE a0_1), (aD a0_2), (aC a0_3)]), (136, .arr 9 1 (x9.map bB))] rfl rfl rfl (cT.l1_lp (a0_3 := a0_3) (l1 := l1) (k := k) H [some 136] (bG ⟨rfl, ⟨.inl ⟨rfl, rfl⟩, ⟨.inl ⟨rfl, rfl⟩, trivial⟩⟩⟩ ⟨rfl, trivial⟩ fi_ trivial rfl) ?_)
  intro k x9_1 x10_1 x27 hk H; rcases k with _ | k; exact bD H; rw [cT.l1] at H
  refine bT H (fun c H => ?_) (fun c H => ?_)
  refine nd_ H (fun c H => (Nd.mk nf_ (El.mk (aZ _ _ nf_ nf_) ?_)))
  revert H; refine aK (fun t11400 A H => (cmk (eX.ac A) rfl rfl (iI H (fun c H => ?_) (fun c H => ?_))))
  refine Br.t ft_ (Br.t ft_ (Br.t ft_ ?_))
  revert H; refine aK (fun t11401 A H => (fM (eX.ac A) (bW (nV rfl rfl) (bW (hY rfl) (fE))) (Or.inr ⟨rfl, nD⟩) rfl rfl (Nat.le_of_ble_eq_true rfl) (Br.t ft_ (Br.t ft_ (Br.t ft_ (Br.t ft_ ?_))))))
  revert H; refine aK (fun t11402 A H => (fM (eX.ac A) (bW (nV rfl rfl) (bW (hY rfl) (fE))) (Or.inr ⟨rfl, nD⟩) rfl rfl (Nat.le_of_ble_eq_true rfl) (Br.t ft_ (Br.t ft_ (cu 346 [(1, (aG l1)), (3, .bp 0 0), (9, .own 185 x9_1.length), (10, .bool x10_1), (12, .bp 210 0), (25, (aC a0_3)), (26, .int .i64 (a0_3.length : Int)), (27, .int .i64 x27), (45, .bool (t11401 != t11402))] [(0, .box [(aG a0_0), (aE a0_1), (aD a0_2), (aC a0_3)]), (185, .arr 9 1 (x9_1.map bB)), (210, .box [.str ((aH a0_3 x27).f0), .str ((aH a0_3 x27).f1), .str ((aH a0_3 x27).f2), .str ((aH a0_3 x27).f3)])] rfl rfl rfl (iI H (fun c H => ?_) (fun c H => ?_)))))))
  refine Or.inl ?_
  revert H; refine aK (fun t11403 A H => (fM (dS.acO A) (bW (nV rfl rfl) (bW (wF rfl rfl lm_ lm_) (fE))) (Or.inr ⟨rfl, zP (qD jZ) (nD)⟩) rfl rfl (Nat.le_of_ble_eq_true rfl) (cu 410 [(1, (aG l1)), (3, .bp 0 0), (9, .own 394 t11403.length), (25, (aC a0_3)), (26, .int .i64 (a0_3.length : Int)), (27, .int .i64 x27)] [(0, .box [(aG a0_0), (aE a0_1), (aD a0_2), (aC a0_3)]), (394, .arr 9 1 (t11403.map bB))] rfl rfl rfl (⟨(k, t11403, true, wrap64 (x27 + 1)), [some 394], ⟨H, lt_⟩, lt_, (bG ⟨rfl, ⟨.inl ⟨rfl, rfl⟩, ⟨.inl ⟨rfl, rfl⟩, trivial⟩⟩⟩ ⟨rfl, trivial⟩ fi_ trivial rfl)⟩))))
  exact ⟨(k, x9_1, _, wrap64 (x27 + 1)), [some 185], ⟨H, lt_⟩, lt_, (bG ⟨rfl, ⟨.inl ⟨rfl, rfl⟩, ⟨.inl ⟨rfl, rfl⟩, trivial⟩⟩⟩ ⟨rfl, trivial⟩ fi_ trivial rfl)⟩
  refine Br.f ff_ (Br.f ff_ (Br.f ff_ (Br.f ff_ (Br.f ff_ (Br.f ff_ (Br.f ff_ (Br.f ff_ (Br.f ff_ (cu 346 [(1, (aG l1)), (3, .bp 0 0), (9, .own 185 x9_1.length), (10, .bool x10_1), (12, .bp 210 0), (25, (aC a0_3)), (26, .int .i64 (a0_3.length : Int)), (27, .int .i64 x27), (45, .bool false)] [(0, .box [(aG a0_0), (aE a0_1), (aD a0_2), (aC a0_3)]), (185, .arr 9 1 (x9_1.map bB)), (210, .box [.str ((aH a0_3 x27).f0), .str ((aH a0_3 x27).f1), .str ((aH a0_3 x27).f2), .str ((aH a0_3 x27).f3)])] rfl rfl rfl (Br.f rfl (⟨(k, x9_1, _, wrap64 (x27 + 1)), [some 185], ⟨H, lt_⟩, lt_, (bG ⟨rfl, ⟨.inl ⟨rfl, rfl⟩, ⟨.inl ⟨rfl, rfl⟩, trivial⟩⟩⟩ ⟨rfl, trivial⟩ fi_ trivial rfl)⟩)))))))))))
  exact ⟨(k, x9_1, x10_1), [some 185], ⟨H, lt_⟩, lt_, (bG ⟨rfl, ⟨.inl ⟨rfl, rfl⟩, trivial⟩⟩ ⟨rfl, trivial⟩ fi_ trivial rfl)⟩
  cases H
  exact jL [136] (mP rfl rfl)
  cases H
  exact jL [] (vI)
theorem bM.l0_lp {F : (Exit → St → Prop) → St → Prop} {hv : List Tmp} {Q : Exit → St → Prop} {σ : St} {r : Bool} {k : Nat} {l0 : List ByteArray} {l1 : List ByteArray} {x13 : Int} (H : bM.l0 k l0 l1 x13 = some r) (rn : List (Option Nat)) (h1 : cM σ σ [] [(13, .int .i64 x13)] [] [] rn)
    (h2 : ∀ (k0 : Nat) (x13 : Int), k0 < k + 1 → bM.l0 k0 l0 l1 x13 = some r → dF σ hv [] [(13, .int .i64 x13)] [] [] (F (fun e σ' => match e with | .normal => ∃ (y : Nat × Int) (rn : List (Option Nat)), (bM.l0 y.1 l0 l1 y.2 = some r ∧ y.1 < k + 1) ∧ y.1 < k0 ∧ cM σ σ' [] [(13, .int .i64 y.2)] [] [] rn | e => Q e σ'))) : Lp F hv Q σ := by
  unfold Lp
  refine ⟨Nat × Int, fun x => bM.l0 x.1 l0 l1 x.2 = some r ∧ x.1 < k + 1, fun x => x.1, [], fun x => [(13, .int .i64 x.2)], fun x => [], fun x => [], ⟨(k, x13), rn, ⟨H, Nat.lt_succ_self _⟩, h1⟩, ?_⟩
  rintro ⟨k, x13⟩ ⟨H, hk⟩
  exact h2 k x13 hk H
theorem bM.ac {k : Nat} {l0 : List ByteArray} {l1 : List ByteArray} {r : Bool} (H : bM.f k l0 l1 = some r) : cK Try.prog G 22 [] [(aG l0), (aG l1)] [] (.bool r) := by
  refine bN tok hP Try.func22 rfl (by kernel_rfl) [.tmp 4] rfl (by kernel_rfl) (Nat.le_of_ble_eq_true rfl) (.l .n (.l .n (.l (.l .n (.c .n (.l .n (.l (.l .n (.c .n .n)) .n)))) .n))) rfl ?_
  unfold bM.f at H
  refine iW H (fun c H => ?_) (fun c H => ?_)
  refine bM.l0_lp (l0 := l0) (l1 := l1) (k := k) H [] (fq rfl rfl fi_ rfl) ?_
  intro k x13 hk H; rcases k with _ | k; exact bD H; rw [bM.l0] at H
  refine cu 80 [(0, (aG l0)), (1, (aG l1)), (12, .int .i64 (l0.length : Int)), (13, .int .i64 x13), (14, .bool (decide (x13 < (l0.length : Int))))] [] rfl rfl rfl (bT H (fun c H => ?_) (fun c H => ?_))
  refine nd_ H (fun c H => (Nd.mk nf_ (El.mk (aP _ _ nf_ nf_) (Nd.mk nf_ (nd_ H (fun c H => (El.mk (aP _ _ nf_ nf_) (cu 168 [(0, (aG l0)), (1, (aG l1)), (12, .int .i64 (l0.length : Int)), (13, .int .i64 x13), (24, .bool (!(decide ((bE ByteArray.empty l0 x13).toList = (bE ByteArray.empty l1 x13).toList))))] [] rfl rfl rfl (iW H (fun c H => ?_) (fun c H => ?_))))))))))
  exact ⟨(k, wrap64 (x13 + 1)), [], ⟨H, lt_⟩, lt_, (fq rfl rfl fi_ rfl)⟩
  cases H
  exact rz rfl
  cases H
  exact rz rfl
  cases H
  exact rz rfl
theorem fJ.ac {k : Nat} {a0_0 : List ByteArray} {a0_1 : List aF} {a0_2 : List aB} {a0_3 : List aA} {l1 : List ByteArray} {a2_0 : List ByteArray} {a2_1 : List ByteArray} {r : Bool} (H : fJ.f k a0_0 a0_1 a0_2 a0_3 l1 a2_0 a2_1 = some r) : cK Try.prog G 5 [] [.agg [(aG a0_0), (aE a0_1), (aD a0_2), (aC a0_3)], (aG l1), .agg [(aG a2_0), (aG a2_1)]] [] (.bool r) := by
  refine bN tok hP Try.func5 rfl (by kernel_rfl) [.tmp 6] rfl (by kernel_rfl) (Nat.le_of_ble_eq_true rfl) (.l .n (.c .n .n)) rfl ?_
  unfold fJ.f at H
  revert H; refine aK (fun t11453 A H => (cmk (aQ.ac A) rfl rfl (iI H (fun c H => ?_) (fun c H => ?_))))
  refine Br.t ft_ (Br.t ft_ ?_)
  revert H; refine aK (fun t11454 A H => (cmk (cE.ac A) rfl rfl (Br.t ft_ (iI H (fun c H => ?_) (fun c H => ?_)))))
  refine Br.t ft_ (Br.t ft_ (Br.t ft_ ?_))
  revert H; refine aK (fun t11455 A H => (cmk (fB.ac A) rfl rfl (Br.t ft_ (iI H (fun c H => ?_) (fun c H => ?_)))))
  refine Br.t ft_ (Br.t ft_ (Br.t ft_ (Br.t ft_ (Nd.mk (by decide) (nd_ H (fun c H => (El.mk (aP _ _ nf_ nf_) (Br.t ft_ (Br.t ft_ ?_)))))))))
  revert H; refine aK (fun t11456 A H => (cmk (cT.ac A) rfl rfl (Br.t ft_ (Br.t ft_ (Br.t ft_ ?_)))))
  revert H; refine aK (fun t11457 A H => (fM (dS.ac A) (bW (aFG) (bW (hY rfl) (fE))) (Or.inl rfl) rfl rfl (Nat.le_of_ble_eq_true rfl) (Br.t ft_ ?_)))
  revert H; refine aK (fun t11458 A H => (cmk (bM.ac A) rfl rfl (Br.t ft_ (cu 240 [(6, .bool t11458)] [] rfl rfl rfl ?_))))
  cases H
  exact rz rfl
  refine Br.f ff_ (Br.f ff_ (Br.f ff_ (Br.f ff_ (Br.f ff_ (Br.f ff_ (Br.f ff_ (Br.f ff_ (Br.f ff_ (Br.f ff_ (Br.f ff_ (cu 240 [(6, .bool false)] [] rfl rfl rfl ?_)))))))))))
  cases H
  exact rz rfl
  refine Br.f ff_ (Br.f ff_ (Br.f ff_ (Br.f ff_ (Br.f rfl (Br.f rfl (Br.f rfl (Br.f rfl (Br.f rfl (Br.f rfl (Br.f rfl (Br.f rfl (Br.f rfl (Br.f rfl (Br.f rfl (Br.f rfl (cu 240 [(6, .bool false)] [] rfl rfl rfl ?_))))))))))))))))
  cases H
  exact rz rfl
  refine Br.f ff_ (Br.f ff_ (Br.f ff_ (Br.f rfl (Br.f rfl (Br.f rfl (Br.f rfl (Br.f rfl (Br.f rfl (Br.f rfl (Br.f rfl (Br.f rfl (Br.f rfl (Br.f rfl (Br.f rfl (Br.f rfl (Br.f rfl (Br.f rfl (Br.f rfl (Br.f rfl (cu 240 [(6, .bool false)] [] rfl rfl rfl ?_))))))))))))))))))))
  cases H
  exact rz rfl
theorem eD.l0_lp {F : (Exit → St → Prop) → St → Prop} {hv : List Tmp} {Q : Exit → St → Prop} {σ : St} {r : List ByteArray} {k : Nat} {a0_3 : List aA} {a1_0 : List ByteArray} {a1_1 : List ByteArray} {x5 : List ByteArray} {x11 : Int} (H : eD.l0 k a0_3 a1_0 a1_1 x5 x11 = some r) (rn : List (Option Nat)) (h1 : cM σ σ [0] [(5, .own 0 x5.length), (11, .int .i64 x11)] [] [.arr 9 1 (x5.map bB)] rn)
    (h2 : ∀ (k0 : Nat) (x5 : List ByteArray) (x11 : Int), k0 < k + 1 → eD.l0 k0 a0_3 a1_0 a1_1 x5 x11 = some r → dF σ hv [0] [(5, .own 0 x5.length), (11, .int .i64 x11)] [] [.arr 9 1 (x5.map bB)] (F (fun e σ' => match e with | .normal => ∃ (y : Nat × (List ByteArray) × Int) (rn : List (Option Nat)), (eD.l0 y.1 a0_3 a1_0 a1_1 y.2.1 y.2.2 = some r ∧ y.1 < k + 1) ∧ y.1 < k0 ∧ cM σ σ' [0] [(5, .own 0 y.2.1.length), (11, .int .i64 y.2.2)] [] [.arr 9 1 (y.2.1.map bB)] rn | e => Q e σ'))) : Lp F hv Q σ := by
  unfold Lp
  refine ⟨Nat × (List ByteArray) × Int, fun x => eD.l0 x.1 a0_3 a1_0 a1_1 x.2.1 x.2.2 = some r ∧ x.1 < k + 1, fun x => x.1, [0], fun x => [(5, .own 0 x.2.1.length), (11, .int .i64 x.2.2)], fun x => [], fun x => [.arr 9 1 (x.2.1.map bB)], ⟨(k, x5, x11), rn, ⟨H, Nat.lt_succ_self _⟩, h1⟩, ?_⟩
  rintro ⟨k, x5, x11⟩ ⟨H, hk⟩
  exact h2 k x5 x11 hk H
theorem eD.ac {k : Nat} {a0_0 : List ByteArray} {a0_1 : List aF} {a0_2 : List aB} {a0_3 : List aA} {a1_0 : List ByteArray} {a1_1 : List ByteArray} {r : List ByteArray} (H : eD.f k a0_0 a0_1 a0_2 a0_3 a1_0 a1_1 = some r) : cK Try.prog G 25 [] [.agg [(aG a0_0), (aE a0_1), (aD a0_2), (aC a0_3)], .agg [(aG a1_0), (aG a1_1)]] [] ((aG r)) := by
  refine bN tok hP Try.func25 rfl (by kernel_rfl) [.tmp 4] rfl (by kernel_rfl) (Nat.le_of_ble_eq_true rfl) (.l .n (.l .n (.l (.l .n (.l .n (.l .n (.l (.c .n (.c .n .n)) .n)))) (.c .n .n)))) rfl ?_
  unfold eD.f at H
  refine eD.l0_lp (a0_3 := a0_3) (a1_0 := a1_0) (a1_1 := a1_1) (k := k) H [none] (bG ⟨⟨rfl, rfl⟩, ⟨.inl ⟨rfl, rfl⟩, trivial⟩⟩ ⟨rfl, trivial⟩ fi_ trivial rfl) ?_
  intro k x5 x11 hk H; rcases k with _ | k; exact bD H; rw [eD.l0] at H
  refine bT H (fun c H => ?_) (fun c H => ?_)
  refine nd_ H (fun c H => (Nd.mk nf_ (El.mk (aZ _ _ nf_ nf_) (cu 105 [(3, .bp 8 0), (5, .own 64 x5.length), (7, .bp 89 0), (9, (aC a0_3)), (10, .int .i64 (a0_3.length : Int)), (11, .int .i64 x11)] [(8, .box [(aG a1_0), (aG a1_1)]), (64, .arr 9 1 (x5.map bB)), (89, .box [.str ((aH a0_3 x11).f0), .str ((aH a0_3 x11).f1), .str ((aH a0_3 x11).f2), .str ((aH a0_3 x11).f3)])] rfl rfl rfl ?_))))
  revert H; refine aK (fun t11567 A H => (cmk (eX.ac A) rfl rfl (iI H (fun c H => ?_) (fun c H => ?_))))
  refine Br.t ft_ (Br.t ft_ (Br.t ft_ (Br.t ft_ (Br.t ft_ (Br.t rfl (Br.t rfl (Br.t rfl (Br.t rfl (Br.t rfl ?_)))))))))
  revert H; refine aK (fun t11568 A H => (cmk (eX.ac A) rfl rfl (Br.t rfl (Br.t rfl (cu 265 [(3, .bp 8 0), (5, .own 64 x5.length), (7, .bp 89 0), (9, (aC a0_3)), (10, .int .i64 (a0_3.length : Int)), (11, .int .i64 x11), (34, .bool (!t11568))] [(8, .box [(aG a1_0), (aG a1_1)]), (64, .arr 9 1 (x5.map bB)), (89, .box [.str ((aH a0_3 x11).f0), .str ((aH a0_3 x11).f1), .str ((aH a0_3 x11).f2), .str ((aH a0_3 x11).f3)])] rfl rfl rfl (dY H (fun c H => ?_) (fun c H => ?_)))))))
  exact ⟨(k, x5, wrap64 (x11 + 1)), [some 64], ⟨H, lt_⟩, lt_, (bG ⟨rfl, ⟨.inl ⟨rfl, rfl⟩, trivial⟩⟩ ⟨rfl, trivial⟩ fi_ trivial rfl)⟩
  refine Or.inl (nd_ H (fun c H => (⟨(k, (x5 ++ ([(aH a0_3 x11).f0] : List ByteArray)), wrap64 (x11 + 1)), [some 297], ⟨H, lt_⟩, lt_, (bG ⟨eL lm_, ⟨.inl ⟨rfl, rfl⟩, trivial⟩⟩ ⟨fm_, trivial⟩ fi_ trivial rfl)⟩)))
  refine Br.f ff_ (Br.f ff_ (Br.f ff_ (Br.f ff_ ?_)))
  revert H; refine aK (fun t11569 A H => (cmk (eX.ac A) rfl rfl (Br.f ff_ (iI H (fun c H => ?_) (fun c H => ?_)))))
  refine Br.t ft_ (Br.t ft_ (Br.t ft_ (Br.t ft_ ?_)))
  revert H; refine aK (fun t11570 A H => (cmk (eX.ac A) rfl rfl (Br.t ft_ (Br.t ft_ (cu 265 [(3, .bp 8 0), (5, .own 64 x5.length), (7, .bp 89 0), (9, (aC a0_3)), (10, .int .i64 (a0_3.length : Int)), (11, .int .i64 x11), (34, .bool (!t11570))] [(8, .box [(aG a1_0), (aG a1_1)]), (64, .arr 9 1 (x5.map bB)), (89, .box [.str ((aH a0_3 x11).f0), .str ((aH a0_3 x11).f1), .str ((aH a0_3 x11).f2), .str ((aH a0_3 x11).f3)])] rfl rfl rfl (dY H (fun c H => ?_) (fun c H => ?_)))))))
  exact ⟨(k, x5, wrap64 (x11 + 1)), [some 64], ⟨H, lt_⟩, lt_, (bG ⟨rfl, ⟨.inl ⟨rfl, rfl⟩, trivial⟩⟩ ⟨rfl, trivial⟩ fi_ trivial rfl)⟩
  refine Or.inl (nd_ H (fun c H => (⟨(k, (x5 ++ ([(aH a0_3 x11).f0] : List ByteArray)), wrap64 (x11 + 1)), [some 297], ⟨H, lt_⟩, lt_, (bG ⟨eL lm_, ⟨.inl ⟨rfl, rfl⟩, trivial⟩⟩ ⟨fm_, trivial⟩ fi_ trivial rfl)⟩)))
  refine Br.f ff_ (Br.f ff_ (Br.f ff_ (Br.f ff_ (Br.f ff_ (Br.f ff_ (cu 265 [(3, .bp 8 0), (5, .own 64 x5.length), (7, .bp 89 0), (9, (aC a0_3)), (10, .int .i64 (a0_3.length : Int)), (11, .int .i64 x11), (34, .bool false)] [(8, .box [(aG a1_0), (aG a1_1)]), (64, .arr 9 1 (x5.map bB)), (89, .box [.str ((aH a0_3 x11).f0), .str ((aH a0_3 x11).f1), .str ((aH a0_3 x11).f2), .str ((aH a0_3 x11).f3)])] rfl rfl rfl (Br.f rfl (⟨(k, x5, wrap64 (x11 + 1)), [some 64], ⟨H, lt_⟩, lt_, (bG ⟨rfl, ⟨.inl ⟨rfl, rfl⟩, trivial⟩⟩ ⟨rfl, trivial⟩ fi_ trivial rfl)⟩))))))))
  refine cu 89 [(4, .own 64 x5.length)] [(64, .arr 9 1 (x5.map bB))] rfl rfl rfl ?_
  cases H
  exact jL [64] (mP rfl rfl)
theorem gE.ac {k : Nat} {a0_0 : List ByteArray} {a0_1 : List aF} {a0_2 : List aB} {a0_3 : List aA} {a1_0 : List ByteArray} {a1_1 : List ByteArray} {r : List ByteArray} (H : gE.f k a0_0 a0_1 a0_2 a0_3 a1_0 a1_1 = some r) : cK Try.prog G 6 [] [.agg [(aG a0_0), (aE a0_1), (aD a0_2), (aC a0_3)], .agg [(aG a1_0), (aG a1_1)]] [] ((aG r)) := by
  refine bN tok hP Try.func6 rfl (by kernel_rfl) [.tmp 4] rfl (by kernel_rfl) (Nat.le_of_ble_eq_true rfl) (.l .n (.l (.c .n (.l (.c .n .n) .n)) (.c .n .n))) rfl ?_
  unfold gE.f at H
  revert H; refine aK (fun t11577 A H => (cmk (aQ.ac A) rfl rfl (dY H (fun c H => ?_) (fun c H => ?_))))
  refine Br.f ff_ (Br.f ff_ ?_)
  revert H; refine aK (fun t11578 A H => (cmk (cE.ac A) rfl rfl (Br.f ff_ (Br.f ff_ (cu 96 [(2, .bp 0 0), (3, .bp 8 0), (13, .bool (!t11578))] [(0, .box [(aG a0_0), (aE a0_1), (aD a0_2), (aC a0_3)]), (8, .box [(aG a1_0), (aG a1_1)])] rfl rfl rfl (dY H (fun c H => ?_) (fun c H => ?_)))))))
  revert H; refine aK (fun t11579 A H => (cmk (eD.ac A) rfl rfl (cu 128 [(4, (aG t11579))] [] rfl rfl rfl ?_)))
  cases H
  exact rz rfl
  refine cu 104 [(4, .nil)] [] rfl rfl rfl ?_
  cases H
  exact jL [] (vI)
  refine Br.t ft_ (Br.t ft_ (Br.t ft_ (Br.t ft_ (cu 96 [(2, .bp 0 0), (3, .bp 8 0), (13, .bool true)] [(0, .box [(aG a0_0), (aE a0_1), (aD a0_2), (aC a0_3)]), (8, .box [(aG a1_0), (aG a1_1)])] rfl rfl rfl (Br.t rfl (cu 104 [(4, .nil)] [] rfl rfl rfl ?_))))))
  cases H
  exact jL [] (vI)
theorem cD.l1_lp {F : (Exit → St → Prop) → St → Prop} {hv : List Tmp} {Q : Exit → St → Prop} {σ : St} {r : List ByteArray} {k : Nat} {a0_2 : List aB} {a0_3 : List aA} {l1 : List ByteArray} {x8 : Int} {x7_1 : List ByteArray} {x9 : Int} (H : cD.l1 k a0_2 a0_3 l1 x7_1 x8 x9 = some r) (rn : List (Option Nat)) (h1 : cM σ σ [] [(7, (aG x7_1)), (9, .int .i64 x9)] [] [] rn)
    (h2 : ∀ (k0 : Nat) (x7_1 : List ByteArray) (x9 : Int), k0 < k + 1 → cD.l1 k0 a0_2 a0_3 l1 x7_1 x8 x9 = some r → dF σ hv [] [(7, (aG x7_1)), (9, .int .i64 x9)] [] [] (F (fun e σ' => match e with | .normal => ∃ (y : Nat × (List ByteArray) × Int) (rn : List (Option Nat)), (cD.l1 y.1 a0_2 a0_3 l1 y.2.1 x8 y.2.2 = some r ∧ y.1 < k + 1) ∧ y.1 < k0 ∧ cM σ σ' [] [(7, (aG y.2.1)), (9, .int .i64 y.2.2)] [] [] rn | e => Q e σ'))) : Lp F hv Q σ := by
  unfold Lp
  refine ⟨Nat × (List ByteArray) × Int, fun x => cD.l1 x.1 a0_2 a0_3 l1 x.2.1 x8 x.2.2 = some r ∧ x.1 < k + 1, fun x => x.1, [], fun x => [(7, (aG x.2.1)), (9, .int .i64 x.2.2)], fun x => [], fun x => [], ⟨(k, x7_1, x9), rn, ⟨H, Nat.lt_succ_self _⟩, h1⟩, ?_⟩
  rintro ⟨k, x7_1, x9⟩ ⟨H, hk⟩
  exact h2 k x7_1 x9 hk H
theorem cD.l0_lp {F : (Exit → St → Prop) → St → Prop} {hv : List Tmp} {Q : Exit → St → Prop} {σ : St} {r : List ByteArray} {k : Nat} {a0_2 : List aB} {a0_3 : List aA} {l1 : List ByteArray} {x7 : List ByteArray} {x8 : Int} (H : cD.l0 k a0_2 a0_3 l1 x7 x8 = some r) (rn : List (Option Nat)) (h1 : cM σ σ [] [(7, (aG x7)), (8, .int .i64 x8)] [] [] rn)
    (h2 : ∀ (k0 : Nat) (x7 : List ByteArray) (x8 : Int), k0 < k + 1 → cD.l0 k0 a0_2 a0_3 l1 x7 x8 = some r → dF σ hv [] [(7, (aG x7)), (8, .int .i64 x8)] [] [] (F (fun e σ' => match e with | .normal => ∃ (y : Nat × (List ByteArray) × Int) (rn : List (Option Nat)), (cD.l0 y.1 a0_2 a0_3 l1 y.2.1 y.2.2 = some r ∧ y.1 < k + 1) ∧ y.1 < k0 ∧ cM σ σ' [] [(7, (aG y.2.1)), (8, .int .i64 y.2.2)] [] [] rn | e => Q e σ'))) : Lp F hv Q σ := by
  unfold Lp
  refine ⟨Nat × (List ByteArray) × Int, fun x => cD.l0 x.1 a0_2 a0_3 l1 x.2.1 x.2.2 = some r ∧ x.1 < k + 1, fun x => x.1, [], fun x => [(7, (aG x.2.1)), (8, .int .i64 x.2.2)], fun x => [], fun x => [], ⟨(k, x7, x8), rn, ⟨H, Nat.lt_succ_self _⟩, h1⟩, ?_⟩
  rintro ⟨k, x7, x8⟩ ⟨H, hk⟩
  exact h2 k x7 x8 hk H
theorem cD.ac {k : Nat} {a0_0 : List ByteArray} {a0_1 : List aF} {a0_2 : List aB} {a0_3 : List aA} {l1 : List ByteArray} {a2 : ByteArray} {r : List ByteArray} (H : cD.f k a0_0 a0_1 a0_2 a0_3 l1 a2 = some r) : cK Try.prog G 28 [] [.agg [(aG a0_0), (aE a0_1), (aD a0_2), (aC a0_3)], (aG l1), .str a2] [] ((aG r)) := by
  refine bN tok hP Try.func28 rfl (by kernel_rfl) [.tmp 6] rfl (by kernel_rfl) (Nat.le_of_ble_eq_true rfl) (.l .n (.l .n (.l (.f 0 .n (.l .n (.l (.l .n (.l (.c .n .n) (.l (.l .n (.c .n .n)) .n))) .n))) .n))) rfl ?_
  unfold cD.f at H
  refine Or.inl (jE 48 [24] [(1, (aG l1)), (3, .bp 0 0), (7, (aG ([a2] : List ByteArray))), (8, .int .i64 0)] [(0, .box [(aG a0_0), (aE a0_1), (aD a0_2), (aC a0_3)])] rfl rfl ⟨.inl (.inl rfl), ⟨.inl (.inl rfl), ⟨.inl (oH rfl rfl (.inr lm_) lm_), ⟨.inl (.inl rfl), trivial⟩⟩⟩⟩ ⟨.inl (rfl), trivial⟩ (cD.l0_lp (a0_2 := a0_2) (a0_3 := a0_3) (l1 := l1) (k := k) H [] (fq rfl rfl fi_ rfl) ?_))
  intro k x7 x8 hk H; rcases k with _ | k; exact bD H; rw [cD.l0] at H
  refine bT H (fun c H => ?_) (fun c H => ?_)
  refine cD.l1_lp (a0_2 := a0_2) (a0_3 := a0_3) (l1 := l1) (x8 := x8) (k := k) H [] (fq rfl rfl fi_ rfl) ?_
  intro k x7_1 x9 hk H; rcases k with _ | k; exact bD H; rw [cD.l1] at H
  refine cu 136 [(1, (aG l1)), (3, .bp 0 0), (7, (aG x7_1)), (8, .int .i64 x8), (9, .int .i64 x9), (24, .bool (decide (x9 < (a0_3.length : Int))))] [(0, .box [(aG a0_0), (aE a0_1), (aD a0_2), (aC a0_3)])] rfl rfl rfl (bT H (fun c H => ?_) (fun c H => ?_))
  refine nd_ H (fun c H => (Nd.mk nf_ (El.mk (aZ _ _ nf_ nf_) ?_)))
  revert H; refine aK (fun t11836 A H => (cmk (cG.ac A) rfl rfl (iI H (fun c H => ?_) (fun c H => ?_))))
  refine Br.t ft_ (Br.t ft_ (Br.t ft_ ?_))
  revert H; refine aK (fun t11837 A H => (cmk (cG.ac A) rfl rfl (Br.t ft_ (Br.t ft_ (Br.t ft_ (Br.t ft_ ?_))))))
  revert H; refine aK (fun t11838 A H => (cmk (cG.ac A) rfl rfl (Br.t ft_ (Br.t ft_ (cu 312 [(1, (aG l1)), (3, .bp 0 0), (7, (aG x7_1)), (8, .int .i64 x8), (9, .int .i64 x9), (10, .bp 176 0), (46, .bool (t11837 != t11838))] [(0, .box [(aG a0_0), (aE a0_1), (aD a0_2), (aC a0_3)]), (176, .box [.str ((aH a0_3 x9).f0), .str ((aH a0_3 x9).f1), .str ((aH a0_3 x9).f2), .str ((aH a0_3 x9).f3)])] rfl rfl rfl (iI H (fun c H => ?_) (fun c H => ?_)))))))
  revert H; refine aK (fun t11839 A H => (cmk (dG.ac A) rfl rfl ?_))
  revert H; refine aK (fun t11840 A H => (cmk (dG.ac A) rfl rfl (⟨(k, t11840, wrap64 (x9 + 1)), [], ⟨H, lt_⟩, lt_, (fq rfl rfl fi_ rfl)⟩)))
  exact ⟨(k, _, wrap64 (x9 + 1)), [], ⟨H, lt_⟩, lt_, (fq rfl rfl fi_ rfl)⟩
  refine Br.f ff_ (Br.f ff_ (Br.f ff_ (Br.f ff_ (Br.f ff_ (Br.f ff_ (Br.f ff_ (Br.f ff_ (Br.f ff_ (cu 312 [(1, (aG l1)), (3, .bp 0 0), (7, (aG x7_1)), (8, .int .i64 x8), (9, .int .i64 x9), (10, .bp 176 0), (46, .bool false)] [(0, .box [(aG a0_0), (aE a0_1), (aD a0_2), (aC a0_3)]), (176, .box [.str ((aH a0_3 x9).f0), .str ((aH a0_3 x9).f1), .str ((aH a0_3 x9).f2), .str ((aH a0_3 x9).f3)])] rfl rfl rfl (Br.f rfl (⟨(k, _, wrap64 (x9 + 1)), [], ⟨H, lt_⟩, lt_, (fq rfl rfl fi_ rfl)⟩)))))))))))
  exact ⟨(k, x7_1, wrap64 (x8 + 1)), [], ⟨H, lt_⟩, lt_, (fq rfl rfl fi_ rfl)⟩
  cases H
  exact rz rfl
theorem dH.l0_lp {F : (Exit → St → Prop) → St → Prop} {hv : List Tmp} {Q : Exit → St → Prop} {σ : St} {r : Bool} {k : Nat} {a0_0 : List ByteArray} {a0_1 : List aF} {a0_2 : List aB} {a0_3 : List aA} {l1 : List ByteArray} {a2_0 : List ByteArray} {a2_1 : List ByteArray} {x7 : Int} (H : dH.l0 k a0_0 a0_1 a0_2 a0_3 l1 a2_0 a2_1 x7 = some r) (rn : List (Option Nat)) (h1 : cM σ σ [] [(7, .int .i64 x7)] [] [] rn)
    (h2 : ∀ (k0 : Nat) (x7 : Int), k0 < k + 1 → dH.l0 k0 a0_0 a0_1 a0_2 a0_3 l1 a2_0 a2_1 x7 = some r → dF σ hv [] [(7, .int .i64 x7)] [] [] (F (fun e σ' => match e with | .normal => ∃ (y : Nat × Int) (rn : List (Option Nat)), (dH.l0 y.1 a0_0 a0_1 a0_2 a0_3 l1 a2_0 a2_1 y.2 = some r ∧ y.1 < k + 1) ∧ y.1 < k0 ∧ cM σ σ' [] [(7, .int .i64 y.2)] [] [] rn | e => Q e σ'))) : Lp F hv Q σ := by
  unfold Lp
  refine ⟨Nat × Int, fun x => dH.l0 x.1 a0_0 a0_1 a0_2 a0_3 l1 a2_0 a2_1 x.2 = some r ∧ x.1 < k + 1, fun x => x.1, [], fun x => [(7, .int .i64 x.2)], fun x => [], fun x => [], ⟨(k, x7), rn, ⟨H, Nat.lt_succ_self _⟩, h1⟩, ?_⟩
  rintro ⟨k, x7⟩ ⟨H, hk⟩
  exact h2 k x7 hk H
theorem dH.ac {k : Nat} {a0_0 : List ByteArray} {a0_1 : List aF} {a0_2 : List aB} {a0_3 : List aA} {l1 : List ByteArray} {a2_0 : List ByteArray} {a2_1 : List ByteArray} {r : Bool} (H : dH.f k a0_0 a0_1 a0_2 a0_3 l1 a2_0 a2_1 = some r) : cK Try.prog G 7 [] [.agg [(aG a0_0), (aE a0_1), (aD a0_2), (aC a0_3)], (aG l1), .agg [(aG a2_0), (aG a2_1)]] [] (.bool r) := by
  refine bN tok hP Try.func7 rfl (by kernel_rfl) [.tmp 6] rfl (by kernel_rfl) (Nat.le_of_ble_eq_true rfl) (.l .n (.l (.c .n (.l (.c .n .n) .n)) (.l (.c .n (.l .n (.l (.c .n .n) .n))) (.c .n .n)))) rfl ?_
  unfold dH.f at H
  revert H; refine aK (fun t11851 A H => (cmk (eZ.ac A) rfl rfl (dY H (fun c H => ?_) (fun c H => ?_))))
  refine Br.f ff_ (Br.f ff_ ?_)
  revert H; refine aK (fun t11852 A H => (cmk (bZ.ac A) rfl rfl (Br.f ff_ (Br.f ff_ (cu 96 [(1, (aG l1)), (3, .bp 0 0), (5, .bp 8 0), (16, .bool (!t11852))] [(0, .box [(aG a0_0), (aE a0_1), (aD a0_2), (aC a0_3)]), (8, .box [(aG a2_0), (aG a2_1)])] rfl rfl rfl (dY H (fun c H => ?_) (fun c H => ?_)))))))
  refine cu 104 [(1, (aG l1)), (3, .bp 0 0), (5, .bp 8 0), (7, .int .i64 0)] [(0, .box [(aG a0_0), (aE a0_1), (aD a0_2), (aC a0_3)]), (8, .box [(aG a2_0), (aG a2_1)])] rfl rfl rfl (dH.l0_lp (a0_0 := a0_0) (a0_1 := a0_1) (a0_2 := a0_2) (a0_3 := a0_3) (l1 := l1) (a2_0 := a2_0) (a2_1 := a2_1) (k := k) H [] (fq rfl rfl fi_ rfl) ?_)
  intro k x7 hk H; rcases k with _ | k; exact bD H; rw [dH.l0] at H
  refine bT H (fun c H => ?_) (fun c H => ?_)
  refine nd_ H (fun c H => (Nd.mk nf_ (El.mk (aP _ _ nf_ nf_) ?_)))
  revert H; refine aK (fun t11853 A H => (cmk (cG.ac A) rfl rfl (cu 208 [(1, (aG l1)), (3, .bp 0 0), (5, .bp 8 0), (7, .int .i64 x7), (31, .bool (!t11853))] [(0, .box [(aG a0_0), (aE a0_1), (aD a0_2), (aC a0_3)]), (8, .box [(aG a2_0), (aG a2_1)])] rfl rfl rfl (dY H (fun c H => ?_) (fun c H => ?_)))))
  exact ⟨(k, wrap64 (x7 + 1)), [], ⟨H, lt_⟩, lt_, (fq rfl rfl fi_ rfl)⟩
  cases H
  exact rz rfl
  refine Nd.mk (by decide) (nd_ H (fun c H => (El.mk (aP _ _ nf_ nf_) ?_)))
  revert H; refine aK (fun t11854 A H => (cmk (cD.ac A) rfl rfl (cu 248 [(6, .bool (decide ((t11854.length : Int) = (a2_0.length : Int))))] [] rfl rfl rfl ?_)))
  cases H
  exact rz rfl
  refine cu 104 [(6, .bool false)] [] rfl rfl rfl ?_
  cases H
  exact rz rfl
  refine Br.t ft_ (Br.t ft_ (Br.t ft_ (Br.t ft_ (cu 96 [(1, (aG l1)), (3, .bp 0 0), (5, .bp 8 0), (16, .bool true)] [(0, .box [(aG a0_0), (aE a0_1), (aD a0_2), (aC a0_3)]), (8, .box [(aG a2_0), (aG a2_1)])] rfl rfl rfl (Br.t rfl (cu 104 [(6, .bool false)] [] rfl rfl rfl ?_))))))
  cases H
  exact rz rfl
theorem eM.l0_lp {F : (Exit → St → Prop) → St → Prop} {hv : List Tmp} {Q : Exit → St → Prop} {σ : St} {r : Bool} {k : Nat} {l0 : List ByteArray} {l1 : List ByteArray} {x5 : Int} (H : eM.l0 k l0 l1 x5 = some r) (rn : List (Option Nat)) (h1 : cM σ σ [] [(5, .int .i64 x5)] [] [] rn)
    (h2 : ∀ (k0 : Nat) (x5 : Int), k0 < k + 1 → eM.l0 k0 l0 l1 x5 = some r → dF σ hv [] [(5, .int .i64 x5)] [] [] (F (fun e σ' => match e with | .normal => ∃ (y : Nat × Int) (rn : List (Option Nat)), (eM.l0 y.1 l0 l1 y.2 = some r ∧ y.1 < k + 1) ∧ y.1 < k0 ∧ cM σ σ' [] [(5, .int .i64 y.2)] [] [] rn | e => Q e σ'))) : Lp F hv Q σ := by
  unfold Lp
  refine ⟨Nat × Int, fun x => eM.l0 x.1 l0 l1 x.2 = some r ∧ x.1 < k + 1, fun x => x.1, [], fun x => [(5, .int .i64 x.2)], fun x => [], fun x => [], ⟨(k, x5), rn, ⟨H, Nat.lt_succ_self _⟩, h1⟩, ?_⟩
  rintro ⟨k, x5⟩ ⟨H, hk⟩
  exact h2 k x5 hk H
theorem eM.ac {k : Nat} {l0 : List ByteArray} {l1 : List ByteArray} {r : Bool} (H : eM.f k l0 l1 = some r) : cK Try.prog G 8 [] [(aG l0), (aG l1)] [] (.bool r) := by
  refine bN tok hP Try.func8 rfl (by kernel_rfl) [.tmp 4] rfl (by kernel_rfl) (Nat.le_of_ble_eq_true rfl) (.l .n (.l .n (.l (.l .n (.l (.c .n .n) (.l (.l .n (.l (.c .n .n) .n)) .n))) .n))) rfl ?_
  unfold eM.f at H
  refine iW H (fun c H => ?_) (fun c H => ?_)
  refine eM.l0_lp (l0 := l0) (l1 := l1) (k := k) H [] (fq rfl rfl fi_ rfl) ?_
  intro k x5 hk H; rcases k with _ | k; exact bD H; rw [eM.l0] at H
  refine cu 88 [(0, (aG l0)), (1, (aG l1)), (5, .int .i64 x5), (14, .bool (decide (x5 < (l0.length : Int))))] [] rfl rfl rfl (bT H (fun c H => ?_) (fun c H => ?_))
  refine nd_ H (fun c H => (Nd.mk nf_ (El.mk (aP _ _ nf_ nf_) (Nd.mk nf_ (nd_ H (fun c H => (El.mk (aP _ _ nf_ nf_) (iW H (fun c H => ?_) (fun c H => ?_)))))))))
  exact ⟨(k, wrap64 (x5 + 1)), [], ⟨H, lt_⟩, lt_, (fq rfl rfl fi_ rfl)⟩
  refine cu 168 [(4, .bool false)] [] rfl rfl rfl ?_
  cases H
  exact rz rfl
  cases H
  exact rz rfl
  cases H
  exact rz rfl
theorem fH.l0_lp {F : (Exit → St → Prop) → St → Prop} {hv : List Tmp} {Q : Exit → St → Prop} {σ : St} {r : Int} {k : Nat} {a0_2 : List aB} {a1 : ByteArray} {x5 : Int} (H : fH.l0 k a0_2 a1 x5 = some r) (rn : List (Option Nat)) (h1 : cM σ σ [] [(5, .int .i64 x5)] [] [] rn)
    (h2 : ∀ (k0 : Nat) (x5 : Int), k0 < k + 1 → fH.l0 k0 a0_2 a1 x5 = some r → dF σ hv [] [(5, .int .i64 x5)] [] [] (F (fun e σ' => match e with | .normal => ∃ (y : Nat × Int) (rn : List (Option Nat)), (fH.l0 y.1 a0_2 a1 y.2 = some r ∧ y.1 < k + 1) ∧ y.1 < k0 ∧ cM σ σ' [] [(5, .int .i64 y.2)] [] [] rn | e => Q e σ'))) : Lp F hv Q σ := by
  unfold Lp
  refine ⟨Nat × Int, fun x => fH.l0 x.1 a0_2 a1 x.2 = some r ∧ x.1 < k + 1, fun x => x.1, [], fun x => [(5, .int .i64 x.2)], fun x => [], fun x => [], ⟨(k, x5), rn, ⟨H, Nat.lt_succ_self _⟩, h1⟩, ?_⟩
  rintro ⟨k, x5⟩ ⟨H, hk⟩
  exact h2 k x5 hk H
theorem fH.ac {k : Nat} {a0_0 : List ByteArray} {a0_1 : List aF} {a0_2 : List aB} {a0_3 : List aA} {a1 : ByteArray} {r : Int} (H : fH.f k a0_0 a0_1 a0_2 a0_3 a1 = some r) : cK Try.prog G 31 [] [.agg [(aG a0_0), (aE a0_1), (aD a0_2), (aC a0_3)], .str a1] [] (.int .i64 r) := by
  refine bN tok hP Try.func31 rfl (by kernel_rfl) [.tmp 4] rfl (by kernel_rfl) (Nat.le_of_ble_eq_true rfl) (.l .n (.l (.l .n (.l .n (.l (.c .n .n) .n))) .n)) rfl ?_
  unfold fH.f at H
  refine fH.l0_lp (a0_2 := a0_2) (a1 := a1) (k := k) H [] (fq rfl rfl fi_ rfl) ?_
  intro k x5 hk H; rcases k with _ | k; exact bD H; rw [fH.l0] at H
  refine bT H (fun c H => ?_) (fun c H => ?_)
  refine nd_ H (fun c H => (Nd.mk nf_ (El.mk (bL _ _ nf_ nf_) (cu 128 [(1, .str a1), (2, .bp 0 0), (5, .int .i64 x5), (20, .bool (decide (((aO a0_2 x5).f0).toList = a1.toList)))] [(0, .box [(aG a0_0), (aE a0_1), (aD a0_2), (aC a0_3)])] rfl rfl rfl (bT H (fun c H => ?_) (fun c H => ?_))))))
  refine Nd.mk nf_ (Nd.mk nf_ (El.mk (bL _ _ nf_ nf_) ?_))
  cases H
  exact rz rfl
  exact ⟨(k, wrap64 (x5 + 1)), [], ⟨H, lt_⟩, lt_, (fq rfl rfl fi_ rfl)⟩
  cases H
  exact rz rfl
theorem dT.l0_lp {F : (Exit → St → Prop) → St → Prop} {hv : List Tmp} {Q : Exit → St → Prop} {σ : St} {r : Bool} {k : Nat} {l0 : List ByteArray} {a1 : ByteArray} {x5 : Int} (H : dT.l0 k l0 a1 x5 = some r) (rn : List (Option Nat)) (h1 : cM σ σ [] [(5, .int .i64 x5)] [] [] rn)
    (h2 : ∀ (k0 : Nat) (x5 : Int), k0 < k + 1 → dT.l0 k0 l0 a1 x5 = some r → dF σ hv [] [(5, .int .i64 x5)] [] [] (F (fun e σ' => match e with | .normal => ∃ (y : Nat × Int) (rn : List (Option Nat)), (dT.l0 y.1 l0 a1 y.2 = some r ∧ y.1 < k + 1) ∧ y.1 < k0 ∧ cM σ σ' [] [(5, .int .i64 y.2)] [] [] rn | e => Q e σ'))) : Lp F hv Q σ := by
  unfold Lp
  refine ⟨Nat × Int, fun x => dT.l0 x.1 l0 a1 x.2 = some r ∧ x.1 < k + 1, fun x => x.1, [], fun x => [(5, .int .i64 x.2)], fun x => [], fun x => [], ⟨(k, x5), rn, ⟨H, Nat.lt_succ_self _⟩, h1⟩, ?_⟩
  rintro ⟨k, x5⟩ ⟨H, hk⟩
  exact h2 k x5 hk H
theorem dT.ac {k : Nat} {l0 : List ByteArray} {a1 : ByteArray} {r : Bool} (H : dT.f k l0 a1 = some r) : cK Try.prog G 11 [] [(aG l0), .str a1] [] (.bool r) := by
  refine bN tok hP Try.func11 rfl (by kernel_rfl) [.tmp 4] rfl (by kernel_rfl) (Nat.le_of_ble_eq_true rfl) (.l .n (.l (.l .n (.l .n (.l (.c .n .n) .n))) .n)) rfl ?_
  unfold dT.f at H
  refine dT.l0_lp (l0 := l0) (a1 := a1) (k := k) H [] (fq rfl rfl fi_ rfl) ?_
  intro k x5 hk H; rcases k with _ | k; exact bD H; rw [dT.l0] at H
  refine bT H (fun c H => ?_) (fun c H => ?_)
  refine nd_ H (fun c H => (Nd.mk nf_ (El.mk (aP _ _ nf_ nf_) (cu 96 [(0, (aG l0)), (1, .str a1), (5, .int .i64 x5), (17, .bool (decide ((bE ByteArray.empty l0 x5).toList = a1.toList)))] [] rfl rfl rfl (bT H (fun c H => ?_) (fun c H => ?_))))))
  cases H
  exact rz rfl
  exact ⟨(k, wrap64 (x5 + 1)), [], ⟨H, lt_⟩, lt_, (fq rfl rfl fi_ rfl)⟩
  cases H
  exact rz rfl
theorem bH.l2_lp {F : (Exit → St → Prop) → St → Prop} {hv : List Tmp} {Q : Exit → St → Prop} {σ : St} {r : Bool} {k : Nat} {a0_3 : List aA} {a1_0 : List ByteArray} {a1_1 : List ByteArray} {x8 : Int} {x9 : Bool} {x10 : Int} (H : bH.l2 k a0_3 a1_0 a1_1 x8 x9 x10 = some r) (rn : List (Option Nat)) (h1 : cM σ σ [] [(9, .bool x9), (10, .int .i64 x10)] [] [] rn)
    (h2 : ∀ (k0 : Nat) (x9 : Bool) (x10 : Int), k0 < k + 1 → bH.l2 k0 a0_3 a1_0 a1_1 x8 x9 x10 = some r → dF σ hv [] [(9, .bool x9), (10, .int .i64 x10)] [] [] (F (fun e σ' => match e with | .normal => ∃ (y : Nat × Bool × Int) (rn : List (Option Nat)), (bH.l2 y.1 a0_3 a1_0 a1_1 x8 y.2.1 y.2.2 = some r ∧ y.1 < k + 1) ∧ y.1 < k0 ∧ cM σ σ' [] [(9, .bool y.2.1), (10, .int .i64 y.2.2)] [] [] rn | e => Q e σ'))) : Lp F hv Q σ := by
  unfold Lp
  refine ⟨Nat × Bool × Int, fun x => bH.l2 x.1 a0_3 a1_0 a1_1 x8 x.2.1 x.2.2 = some r ∧ x.1 < k + 1, fun x => x.1, [], fun x => [(9, .bool x.2.1), (10, .int .i64 x.2.2)], fun x => [], fun x => [], ⟨(k, x9, x10), rn, ⟨H, Nat.lt_succ_self _⟩, h1⟩, ?_⟩
  rintro ⟨k, x9, x10⟩ ⟨H, hk⟩
  exact h2 k x9 x10 hk H
theorem bH.l1_lp {F : (Exit → St → Prop) → St → Prop} {hv : List Tmp} {Q : Exit → St → Prop} {σ : St} {r : Bool} {k : Nat} {a0_3 : List aA} {a1_0 : List ByteArray} {a1_1 : List ByteArray} {x8 : Int} (H : bH.l1 k a0_3 a1_0 a1_1 x8 = some r) (rn : List (Option Nat)) (h1 : cM σ σ [] [(8, .int .i64 x8)] [] [] rn)
    (h2 : ∀ (k0 : Nat) (x8 : Int), k0 < k + 1 → bH.l1 k0 a0_3 a1_0 a1_1 x8 = some r → dF σ hv [] [(8, .int .i64 x8)] [] [] (F (fun e σ' => match e with | .normal => ∃ (y : Nat × Int) (rn : List (Option Nat)), (bH.l1 y.1 a0_3 a1_0 a1_1 y.2 = some r ∧ y.1 < k + 1) ∧ y.1 < k0 ∧ cM σ σ' [] [(8, .int .i64 y.2)] [] [] rn | e => Q e σ'))) : Lp F hv Q σ := by
  unfold Lp
  refine ⟨Nat × Int, fun x => bH.l1 x.1 a0_3 a1_0 a1_1 x.2 = some r ∧ x.1 < k + 1, fun x => x.1, [], fun x => [(8, .int .i64 x.2)], fun x => [], fun x => [], ⟨(k, x8), rn, ⟨H, Nat.lt_succ_self _⟩, h1⟩, ?_⟩
  rintro ⟨k, x8⟩ ⟨H, hk⟩
  exact h2 k x8 hk H
theorem bH.l0_lp {F : (Exit → St → Prop) → St → Prop} {hv : List Tmp} {Q : Exit → St → Prop} {σ : St} {r : Bool} {k : Nat} {a0_0 : List ByteArray} {a0_1 : List aF} {a0_2 : List aB} {a0_3 : List aA} {a1_0 : List ByteArray} {a1_1 : List ByteArray} {x6 : Int} (H : bH.l0 k a0_0 a0_1 a0_2 a0_3 a1_0 a1_1 x6 = some r) (rn : List (Option Nat)) (h1 : cM σ σ [] [(6, .int .i64 x6)] [] [] rn)
    (h2 : ∀ (k0 : Nat) (x6 : Int), k0 < k + 1 → bH.l0 k0 a0_0 a0_1 a0_2 a0_3 a1_0 a1_1 x6 = some r → dF σ hv [] [(6, .int .i64 x6)] [] [] (F (fun e σ' => match e with | .normal => ∃ (y : Nat × Int) (rn : List (Option Nat)), (bH.l0 y.1 a0_0 a0_1 a0_2 a0_3 a1_0 a1_1 y.2 = some r ∧ y.1 < k + 1) ∧ y.1 < k0 ∧ cM σ σ' [] [(6, .int .i64 y.2)] [] [] rn | e => Q e σ'))) : Lp F hv Q σ := by
  unfold Lp
  refine ⟨Nat × Int, fun x => bH.l0 x.1 a0_0 a0_1 a0_2 a0_3 a1_0 a1_1 x.2 = some r ∧ x.1 < k + 1, fun x => x.1, [], fun x => [(6, .int .i64 x.2)], fun x => [], fun x => [], ⟨(k, x6), rn, ⟨H, Nat.lt_succ_self _⟩, h1⟩, ?_⟩
  rintro ⟨k, x6⟩ ⟨H, hk⟩
  exact h2 k x6 hk H
theorem bH.ac {k : Nat} {a0_0 : List ByteArray} {a0_1 : List aF} {a0_2 : List aB} {a0_3 : List aA} {a1_0 : List ByteArray} {a1_1 : List ByteArray} {r : Bool} (H : bH.f k a0_0 a0_1 a0_2 a0_3 a1_0 a1_1 = some r) : cK Try.prog G 10 [] [.agg [(aG a0_0), (aE a0_1), (aD a0_2), (aC a0_3)], .agg [(aG a1_0), (aG a1_1)]] [] (.bool r) := by
  refine bN tok hP Try.func10 rfl (by kernel_rfl) [.tmp 4] rfl (by kernel_rfl) (Nat.le_of_ble_eq_true rfl) (.l .n (.l .n (.l (.c .n (.l (.c .n .n) .n)) (.l (.l .n (.l .n (.l (.c .n (.c .n (.l (.c .n .n) .n))) .n))) (.l (.l .n (.l .n (.l (.c .n (.l (.l .n (.l .n (.c (.c .n .n) .n))) .n)) .n))) (.c .n .n)))))) rfl ?_
  unfold bH.f at H
  revert H; refine aK (fun t12062 A H => (cmk (eZ.ac A) rfl rfl (dY H (fun c H => ?_) (fun c H => ?_))))
  refine Br.f ff_ (Br.f ff_ (bT H (fun c H => ?_) (fun c H => ?_)))
  refine Br.t ft_ (Br.t ft_ (Br.t ft_ (Br.t ft_ (Br.t ft_ (Br.t ft_ (cu 176 [(2, .bp 0 0), (3, .bp 8 0), (5, .int .i64 (a1_0.length : Int)), (29, .bool true)] [(0, .box [(aG a0_0), (aE a0_1), (aD a0_2), (aC a0_3)]), (8, .box [(aG a1_0), (aG a1_1)])] rfl rfl rfl (Br.t rfl (cu 184 [(4, .bool false)] [] rfl rfl rfl ?_))))))))
  cases H
  exact rz rfl
  refine Br.f ff_ (Br.f ff_ (Br.f ff_ (Br.f ff_ (Br.f ff_ (Br.f ff_ (cu 176 [(2, .bp 0 0), (3, .bp 8 0), (5, .int .i64 (a1_0.length : Int)), (29, .bool (!(decide ((a1_1.length : Int) = (wrap64 ((a1_0.length : Int) - 1))))))] [(0, .box [(aG a0_0), (aE a0_1), (aD a0_2), (aC a0_3)]), (8, .box [(aG a1_0), (aG a1_1)])] rfl rfl rfl (iW H (fun c H => ?_) (fun c H => ?_))))))))
  refine bH.l0_lp (a0_0 := a0_0) (a0_1 := a0_1) (a0_2 := a0_2) (a0_3 := a0_3) (a1_0 := a1_0) (a1_1 := a1_1) (k := k) H [] (fq rfl rfl fi_ rfl) ?_
  intro k x6 hk H; rcases k with _ | k; exact bD H; rw [bH.l0] at H
  refine bT H (fun c H => ?_) (fun c H => ?_)
  refine nd_ H (fun c H => (Nd.mk nf_ (El.mk (aP _ _ nf_ nf_) ?_)))
  revert H; refine aK (fun t12072 A H => (cmk (fH.ac A) rfl rfl (cu 272 [(2, .bp 0 0), (3, .bp 8 0), (5, .int .i64 (a1_0.length : Int)), (6, .int .i64 x6), (7, .int .i64 t12072)] [(0, .box [(aG a0_0), (aE a0_1), (aD a0_2), (aC a0_3)]), (8, .box [(aG a1_0), (aG a1_1)])] rfl rfl rfl (bT H (fun c H => ?_) (fun c H => ?_)))))
  refine Br.t ft_ (Br.t ft_ (Br.t ft_ (Br.t ft_ (Br.t ft_ (Br.t ft_ (Br.t ft_ (Br.t rfl (Br.t rfl (Br.t rfl (Br.t rfl (Br.t rfl (Br.t rfl (Br.t rfl (Br.t rfl (Br.t rfl (Br.t rfl (Br.t rfl (cu 488 [(2, .bp 0 0), (3, .bp 8 0), (5, .int .i64 (a1_0.length : Int)), (6, .int .i64 x6), (68, .bool true)] [(0, .box [(aG a0_0), (aE a0_1), (aD a0_2), (aC a0_3)]), (8, .box [(aG a1_0), (aG a1_1)])] rfl rfl rfl (Br.t rfl (cu 496 [(4, .bool false)] [] rfl rfl rfl ?_))))))))))))))))))))
  cases H
  exact rz rfl
  refine Br.f ff_ (Br.f ff_ (bT H (fun c H => ?_) (fun c H => ?_)))
  refine Br.t ft_ (Br.t ft_ (Br.t ft_ (Br.f ff_ (Br.t ft_ (Br.f ff_ (Br.f ff_ (Br.f ff_ (Br.f ff_ (iI H (fun c H => ?_) (fun c H => ?_))))))))))
  refine Br.t ft_ (Br.t ft_ (Br.t ft_ (Br.t ft_ (Br.t ft_ (Br.t ft_ (Br.t ft_ (Br.t ft_ (Br.t ft_ (Br.t ft_ (cu 488 [(2, .bp 0 0), (3, .bp 8 0), (5, .int .i64 (a1_0.length : Int)), (6, .int .i64 x6), (68, .bool true)] [(0, .box [(aG a0_0), (aE a0_1), (aD a0_2), (aC a0_3)]), (8, .box [(aG a1_0), (aG a1_1)])] rfl rfl rfl (Br.t rfl (cu 496 [(4, .bool false)] [] rfl rfl rfl ?_))))))))))))
  cases H
  exact rz rfl
  refine Br.f ff_ (Br.f ff_ (Br.f ff_ (Nd.mk nf_ (nd_ H (fun c H => (Br.f ff_ (Br.f ff_ (Br.f ff_ (Br.f ff_ (Nd.mk nf_ (Nd.mk nf_ (El.mk (aP _ _ nf_ nf_) (Br.f ff_ (Br.f ff_ ?_))))))))))))))
  revert H; refine aK (fun t12073 A H => (fM (dT.ac A) (bW (gP lm_ lm_) (bW (hY rfl) (fE))) (Or.inl rfl) rfl rfl (Nat.le_of_ble_eq_true rfl) (Br.f ff_ (cu 488 [(2, .bp 0 0), (3, .bp 8 0), (5, .int .i64 (a1_0.length : Int)), (6, .int .i64 x6), (68, .bool t12073)] [(0, .box [(aG a0_0), (aE a0_1), (aD a0_2), (aC a0_3)]), (8, .box [(aG a1_0), (aG a1_1)])] rfl rfl rfl (iI H (fun c H => ?_) (fun c H => ?_))))))
  refine cu 496 [(4, .bool false)] [] rfl rfl rfl ?_
  cases H
  exact rz rfl
  exact ⟨(k, wrap64 (x6 + 1)), [], ⟨H, lt_⟩, lt_, (fq rfl rfl fi_ rfl)⟩
  refine Br.f ff_ (Br.f ff_ (Br.f ff_ (Br.f ff_ (Br.f ff_ (Br.f ff_ (Br.f ff_ (Br.f ff_ (Br.f ff_ (iI H (fun c H => ?_) (fun c H => ?_))))))))))
  refine Br.t ft_ (Br.t ft_ (Br.t ft_ (Br.t ft_ (Br.t ft_ (Br.t ft_ (Br.t ft_ (Br.t ft_ (Br.t ft_ (Br.t ft_ (cu 488 [(2, .bp 0 0), (3, .bp 8 0), (5, .int .i64 (a1_0.length : Int)), (6, .int .i64 x6), (68, .bool true)] [(0, .box [(aG a0_0), (aE a0_1), (aD a0_2), (aC a0_3)]), (8, .box [(aG a1_0), (aG a1_1)])] rfl rfl rfl (Br.t rfl (cu 496 [(4, .bool false)] [] rfl rfl rfl ?_))))))))))))
  cases H
  exact rz rfl
  refine Br.f ff_ (Br.f ff_ (Br.f ff_ (Nd.mk nf_ (nd_ H (fun c H => (Br.f ff_ (Br.f ff_ (Br.f ff_ (Br.f ff_ (Nd.mk nf_ (Nd.mk nf_ (El.mk (aP _ _ nf_ nf_) (Br.f ff_ (Br.f ff_ ?_))))))))))))))
  revert H; refine aK (fun t12074 A H => (fM (dT.ac A) (bW (gP lm_ lm_) (bW (hY rfl) (fE))) (Or.inl rfl) rfl rfl (Nat.le_of_ble_eq_true rfl) (Br.f ff_ (cu 488 [(2, .bp 0 0), (3, .bp 8 0), (5, .int .i64 (a1_0.length : Int)), (6, .int .i64 x6), (68, .bool t12074)] [(0, .box [(aG a0_0), (aE a0_1), (aD a0_2), (aC a0_3)]), (8, .box [(aG a1_0), (aG a1_1)])] rfl rfl rfl (iI H (fun c H => ?_) (fun c H => ?_))))))
  refine cu 496 [(4, .bool false)] [] rfl rfl rfl ?_
  cases H
  exact rz rfl
  exact ⟨(k, wrap64 (x6 + 1)), [], ⟨H, lt_⟩, lt_, (fq rfl rfl fi_ rfl)⟩
  refine bH.l1_lp (a0_3 := a0_3) (a1_0 := a1_0) (a1_1 := a1_1) (k := k) H [] (fq rfl rfl fi_ rfl) ?_
  intro k x8 hk H; rcases k with _ | k; exact bD H; rw [bH.l1] at H
  refine bT H (fun c H => ?_) (fun c H => ?_)
  refine cu 256 [(2, .bp 0 0), (3, .bp 8 0), (5, .int .i64 (a1_0.length : Int)), (8, .int .i64 x8), (9, .bool false)] [(0, .box [(aG a0_0), (aE a0_1), (aD a0_2), (aC a0_3)]), (8, .box [(aG a1_0), (aG a1_1)])] rfl rfl rfl (bH.l2_lp (a0_3 := a0_3) (a1_0 := a1_0) (a1_1 := a1_1) (x8 := x8) (k := k) H [] (fq rfl rfl fi_ rfl) ?_)
  intro k x9 x10 hk H; rcases k with _ | k; exact bD H; rw [bH.l2] at H
  refine bT H (fun c H => ?_) (fun c H => ?_)
  refine nd_ H (fun c H => (Nd.mk nf_ (El.mk (aZ _ _ nf_ nf_) (cu 360 [(2, .bp 0 0), (3, .bp 8 0), (5, .int .i64 (a1_0.length : Int)), (8, .int .i64 x8), (9, .bool x9), (10, .int .i64 x10), (11, .bp 344 0)] [(0, .box [(aG a0_0), (aE a0_1), (aD a0_2), (aC a0_3)]), (8, .box [(aG a1_0), (aG a1_1)]), (344, .box [.str ((aH a0_3 x10).f0), .str ((aH a0_3 x10).f1), .str ((aH a0_3 x10).f2), .str ((aH a0_3 x10).f3)])] rfl rfl rfl (iI H (fun c H => ?_) (fun c H => ?_))))))
  refine Br.t ft_ (Br.t ft_ (Br.t ft_ (Br.t ft_ (Br.t ft_ (Br.t ft_ (Br.t ft_ (Br.t ft_ (Br.t ft_ (Br.t ft_ (cu 792 [(2, .bp 0 0), (3, .bp 8 0), (5, .int .i64 (a1_0.length : Int)), (8, .int .i64 x8), (9, .bool true), (10, .int .i64 x10)] [(0, .box [(aG a0_0), (aE a0_1), (aD a0_2), (aC a0_3)]), (8, .box [(aG a1_0), (aG a1_1)])] rfl rfl rfl (⟨(k, true, wrap64 (x10 + 1)), [], ⟨H, lt_⟩, lt_, (fq rfl rfl fi_ rfl)⟩)))))))))))
  refine Br.f ff_ (Br.f ff_ (Br.f ff_ (Br.f ff_ (Br.f ff_ (nd_ H (fun c H => (nd_ H (fun c H => (El.mk (aP _ _ nf_ nf_) (Br.f ff_ (Br.f ff_ (Br.f ff_ (bT H (fun c H => ?_) (fun c H => ?_))))))))))))))
  refine Br.t ft_ (Br.t ft_ (Br.t ft_ (Br.t ft_ (Br.t ft_ (Nd.mk nf_ (nd_ H (fun c H => (El.mk (aP _ _ nf_ nf_) (Br.t ft_ (Br.t ft_ (Br.t ft_ (bT H (fun c H => ?_) (fun c H => ?_)))))))))))))
  refine Br.t ft_ (Br.t ft_ (Br.t ft_ (Br.t ft_ (Br.t ft_ (Br.t ft_ (nd_ H (fun c H => (nd_ H (fun c H => (El.mk (aP _ _ nf_ nf_) (Br.t ft_ (Br.t ft_ (Br.t ft_ (Br.t ft_ (Br.t ft_ (bT H (fun c H => ?_) (fun c H => ?_)))))))))))))))))
  refine Br.t ft_ (Br.t ft_ (Br.t ft_ (Br.t ft_ (Br.t ft_ (Br.t ft_ (Br.t ft_ (Br.t ft_ (Br.t ft_ (Br.t ft_ (Br.t ft_ (Br.f ff_ (Br.t ft_ (Br.f ff_ (cu 792 [(2, .bp 0 0), (3, .bp 8 0), (5, .int .i64 (a1_0.length : Int)), (8, .int .i64 x8), (9, .bool true), (10, .int .i64 x10)] [(0, .box [(aG a0_0), (aE a0_1), (aD a0_2), (aC a0_3)]), (8, .box [(aG a1_0), (aG a1_1)])] rfl rfl rfl (⟨(k, true, wrap64 (x10 + 1)), [], ⟨H, lt_⟩, lt_, (fq rfl rfl fi_ rfl)⟩)))))))))))))))
  refine Br.f ff_ (Br.f ff_ (Br.f ff_ (Br.f ff_ (Br.f ff_ (Nd.mk nf_ (Nd.mk nf_ (El.mk (aP _ _ nf_ nf_) (Br.f ff_ (Br.f ff_ (Br.f ff_ (bT H (fun c H => ?_) (fun c H => ?_))))))))))))
  refine Br.t ft_ (Br.t ft_ (Br.t ft_ (Br.t ft_ (Br.t ft_ (Br.t ft_ (Nd.mk nf_ (Nd.mk nf_ (El.mk (aP _ _ nf_ nf_) (Br.t ft_ (Br.t ft_ (Br.f ff_ (Br.t ft_ (Br.t ft_ (Br.f ff_ (Br.f ff_ (Br.t ft_ (Br.f ff_ (cu 792 [(2, .bp 0 0), (3, .bp 8 0), (5, .int .i64 (a1_0.length : Int)), (8, .int .i64 x8), (9, .bool (decide (((aH a0_3 x10).f1).toList = (bE ByteArray.empty a1_0 (wrap64 (x8 + 1))).toList))), (10, .int .i64 x10)] [(0, .box [(aG a0_0), (aE a0_1), (aD a0_2), (aC a0_3)]), (8, .box [(aG a1_0), (aG a1_1)])] rfl rfl rfl (⟨(k, decide (((aH a0_3 x10).f1).toList = (bE ByteArray.empty a1_0 (wrap64 (x8 + 1))).toList), wrap64 (x10 + 1)), [], ⟨H, lt_⟩, lt_, (fq rfl rfl fi_ rfl)⟩)))))))))))))))))))
  refine Br.f ff_ (Br.f ff_ (Br.f ff_ (Br.f ff_ (Br.f ff_ (Br.f ff_ (Br.f ff_ (Br.f ff_ (Br.f ff_ (Br.f ff_ (Br.t ft_ (Br.f ff_ (Br.f ff_ (Br.t ft_ (Br.f ff_ (cu 792 [(2, .bp 0 0), (3, .bp 8 0), (5, .int .i64 (a1_0.length : Int)), (8, .int .i64 x8), (9, .bool false), (10, .int .i64 x10)] [(0, .box [(aG a0_0), (aE a0_1), (aD a0_2), (aC a0_3)]), (8, .box [(aG a1_0), (aG a1_1)])] rfl rfl rfl (⟨(k, false, wrap64 (x10 + 1)), [], ⟨H, lt_⟩, lt_, (fq rfl rfl fi_ rfl)⟩))))))))))))))))
  refine Br.f ff_ (Br.f ff_ (Br.f ff_ (Br.f ff_ (Br.f ff_ (Br.f ff_ (Br.f ff_ (Br.f ff_ (Br.t ft_ (Br.f ff_ (Br.t ft_ (Br.f rfl (Br.f rfl (Br.f rfl (Br.f rfl (Br.f rfl (Br.f rfl (Nd.mk nf_ (Nd.mk nf_ (El.mk (aP _ _ nf_ nf_) (Br.f rfl (Br.f rfl (Br.f rfl (bT H (fun c H => ?_) (fun c H => ?_))))))))))))))))))))))))
  refine Br.t ft_ (Br.t ft_ (Br.t ft_ (Br.t ft_ (Br.t ft_ (Br.t ft_ (nd_ H (fun c H => (nd_ H (fun c H => (El.mk (aP _ _ nf_ nf_) (Br.t ft_ (Br.t ft_ (Br.f rfl (Br.t ft_ (Br.t ft_ (Br.f rfl (Br.f ff_ (Br.t ft_ (Br.f ff_ (cu 792 [(2, .bp 0 0), (3, .bp 8 0), (5, .int .i64 (a1_0.length : Int)), (8, .int .i64 x8), (9, .bool (decide (((aH a0_3 x10).f1).toList = (bE ByteArray.empty a1_0 (wrap64 (x8 + 1))).toList))), (10, .int .i64 x10)] [(0, .box [(aG a0_0), (aE a0_1), (aD a0_2), (aC a0_3)]), (8, .box [(aG a1_0), (aG a1_1)])] rfl rfl rfl (⟨(k, decide (((aH a0_3 x10).f1).toList = (bE ByteArray.empty a1_0 (wrap64 (x8 + 1))).toList), wrap64 (x10 + 1)), [], ⟨H, lt_⟩, lt_, (fq rfl rfl fi_ rfl)⟩)))))))))))))))))))))
  refine Br.f ff_ (Br.f ff_ (Br.f ff_ (Br.f ff_ (Br.f ff_ (Br.f ff_ (Br.f ff_ (Br.f ff_ (Br.f rfl (Br.f ff_ (Br.t ft_ (Br.f rfl (Br.f ff_ (Br.t ft_ (Br.f ff_ (cu 792 [(2, .bp 0 0), (3, .bp 8 0), (5, .int .i64 (a1_0.length : Int)), (8, .int .i64 x8), (9, .bool false), (10, .int .i64 x10)] [(0, .box [(aG a0_0), (aE a0_1), (aD a0_2), (aC a0_3)]), (8, .box [(aG a1_0), (aG a1_1)])] rfl rfl rfl (⟨(k, false, wrap64 (x10 + 1)), [], ⟨H, lt_⟩, lt_, (fq rfl rfl fi_ rfl)⟩))))))))))))))))
  refine Br.f ff_ (Br.f ff_ (Br.f ff_ (Br.f ff_ (Br.f ff_ (Br.f ff_ (Br.f ff_ (Br.f ff_ (Br.f ff_ (Br.f ff_ (Br.f ff_ (Br.f ff_ (Br.f ff_ (Br.f ff_ (cu 792 [(2, .bp 0 0), (3, .bp 8 0), (5, .int .i64 (a1_0.length : Int)), (8, .int .i64 x8), (9, .bool false), (10, .int .i64 x10)] [(0, .box [(aG a0_0), (aE a0_1), (aD a0_2), (aC a0_3)]), (8, .box [(aG a1_0), (aG a1_1)])] rfl rfl rfl (⟨(k, false, wrap64 (x10 + 1)), [], ⟨H, lt_⟩, lt_, (fq rfl rfl fi_ rfl)⟩)))))))))))))))
  refine dY H (fun c H => ?_) (fun c H => ?_)
  exact ⟨(k, wrap64 (x8 + 1)), [], ⟨H, lt_⟩, lt_, (fq rfl rfl fi_ rfl)⟩
  cases H
  exact rz rfl
  refine cu 256 [(4, .bool true)] [] rfl rfl rfl ?_
  cases H
  exact rz rfl
  refine cu 184 [(4, .bool false)] [] rfl rfl rfl ?_
  cases H
  exact rz rfl
  refine Br.t ft_ (Br.t ft_ (Br.t rfl (Br.t rfl (Br.t rfl (Br.t rfl (Br.t rfl (Br.t rfl (Br.t rfl (cu 176 [(2, .bp 0 0), (3, .bp 8 0), (5, .int .i64 (a1_0.length : Int)), (29, .bool true)] [(0, .box [(aG a0_0), (aE a0_1), (aD a0_2), (aC a0_3)]), (8, .box [(aG a1_0), (aG a1_1)])] rfl rfl rfl (Br.t rfl (cu 184 [(4, .bool false)] [] rfl rfl rfl ?_)))))))))))
  cases H
  exact rz rfl
theorem eA.l0_lp {F : (Exit → St → Prop) → St → Prop} {hv : List Tmp} {Q : Exit → St → Prop} {σ : St} {r : Bool} {k : Nat} {a0_3 : List aA} {a1 : ByteArray} {a2_0 : List ByteArray} {x7 : Int} (H : eA.l0 k a0_3 a1 a2_0 x7 = some r) (rn : List (Option Nat)) (h1 : cM σ σ [] [(7, .int .i64 x7)] [] [] rn)
    (h2 : ∀ (k0 : Nat) (x7 : Int), k0 < k + 1 → eA.l0 k0 a0_3 a1 a2_0 x7 = some r → dF σ hv [] [(7, .int .i64 x7)] [] [] (F (fun e σ' => match e with | .normal => ∃ (y : Nat × Int) (rn : List (Option Nat)), (eA.l0 y.1 a0_3 a1 a2_0 y.2 = some r ∧ y.1 < k + 1) ∧ y.1 < k0 ∧ cM σ σ' [] [(7, .int .i64 y.2)] [] [] rn | e => Q e σ'))) : Lp F hv Q σ := by
  unfold Lp
  refine ⟨Nat × Int, fun x => eA.l0 x.1 a0_3 a1 a2_0 x.2 = some r ∧ x.1 < k + 1, fun x => x.1, [], fun x => [(7, .int .i64 x.2)], fun x => [], fun x => [], ⟨(k, x7), rn, ⟨H, Nat.lt_succ_self _⟩, h1⟩, ?_⟩
  rintro ⟨k, x7⟩ ⟨H, hk⟩
  exact h2 k x7 hk H
theorem eA.ac {k : Nat} {a0_0 : List ByteArray} {a0_1 : List aF} {a0_2 : List aB} {a0_3 : List aA} {a1 : ByteArray} {a2_0 : List ByteArray} {a2_1 : List ByteArray} {r : Bool} (H : eA.f k a0_0 a0_1 a0_2 a0_3 a1 a2_0 a2_1 = some r) : cK Try.prog G 12 [] [.agg [(aG a0_0), (aE a0_1), (aD a0_2), (aC a0_3)], .str a1, .agg [(aG a2_0), (aG a2_1)]] [] (.bool r) := by
  refine bN tok hP Try.func12 rfl (by kernel_rfl) [.tmp 6] rfl (by kernel_rfl) (Nat.le_of_ble_eq_true rfl) (.l .n (.l (.l .n (.l .n (.l (.c .n (.l (.c .n .n) .n)) .n))) (.c .n .n))) rfl ?_
  unfold eA.f at H
  refine eA.l0_lp (a0_3 := a0_3) (a1 := a1) (a2_0 := a2_0) (k := k) H [] (fq rfl rfl fi_ rfl) ?_
  intro k x7 hk H; rcases k with _ | k; exact bD H; rw [eA.l0] at H
  refine bT H (fun c H => ?_) (fun c H => ?_)
  refine nd_ H (fun c H => (Nd.mk nf_ (El.mk (aZ _ _ nf_ nf_) (cu 136 [(1, .str a1), (3, .bp 0 0), (5, .bp 8 0), (7, .int .i64 x7), (22, .bool (decide (((aH a0_3 x7).f0).toList = a1.toList)))] [(0, .box [(aG a0_0), (aE a0_1), (aD a0_2), (aC a0_3)]), (8, .box [(aG a2_0), (aG a2_1)])] rfl rfl rfl (bT H (fun c H => ?_) (fun c H => ?_))))))
  refine Nd.mk nf_ (Nd.mk nf_ (El.mk (aZ _ _ nf_ nf_) ?_))
  revert H; refine aK (fun t12176 A H => (cmk (dT.ac A) rfl rfl (iI H (fun c H => ?_) (fun c H => ?_))))
  refine Br.t ft_ (Br.t ft_ (Br.t ft_ (Br.t ft_ (Br.t ft_ (Nd.mk nf_ (Nd.mk nf_ (El.mk (aZ _ _ nf_ nf_) (Br.t ft_ (Br.t ft_ (Br.t ft_ ?_))))))))))
  revert H; refine aK (fun t12177 A H => (cmk (dT.ac A) rfl rfl (Br.t ft_ (cu 304 [(6, .bool t12177)] [] rfl rfl rfl ?_))))
  cases H
  exact rz rfl
  refine Br.f ff_ (Br.f ff_ (Br.f ff_ (Br.f ff_ (Br.f ff_ (Br.f ff_ (Br.f ff_ (Br.f ff_ (Br.f ff_ (cu 304 [(6, .bool false)] [] rfl rfl rfl ?_)))))))))
  cases H
  exact rz rfl
  exact ⟨(k, wrap64 (x7 + 1)), [], ⟨H, lt_⟩, lt_, (fq rfl rfl fi_ rfl)⟩
  refine cu 80 [(6, .bool false)] [] rfl rfl rfl ?_
  cases H
  exact rz rfl
theorem bJ.l1_lp {F : (Exit → St → Prop) → St → Prop} {hv : List Tmp} {Q : Exit → St → Prop} {σ : St} {r : Bool} {k : Nat} {t12376 : (List ByteArray) × (List aF) × (List aB) × (List aA) × (List ByteArray) × (List ByteArray) × (List ByteArray)} {t12380 : List ByteArray} {x8 : List ByteArray} {x10 : Int} (H : bJ.l1 k x8 x10 t12376 t12380 = some r) (rn : List (Option Nat)) (h1 : cM σ σ [] [(10, .int .i64 x10)] [] [] rn)
    (h2 : ∀ (k0 : Nat) (x10 : Int), k0 < k + 1 → bJ.l1 k0 x8 x10 t12376 t12380 = some r → dF σ hv [] [(10, .int .i64 x10)] [] [] (F (fun e σ' => match e with | .normal => ∃ (y : Nat × Int) (rn : List (Option Nat)), (bJ.l1 y.1 x8 y.2 t12376 t12380 = some r ∧ y.1 < k + 1) ∧ y.1 < k0 ∧ cM σ σ' [] [(10, .int .i64 y.2)] [] [] rn | e => Q e σ'))) : Lp F hv Q σ := by
  unfold Lp
  refine ⟨Nat × Int, fun x => bJ.l1 x.1 x8 x.2 t12376 t12380 = some r ∧ x.1 < k + 1, fun x => x.1, [], fun x => [(10, .int .i64 x.2)], fun x => [], fun x => [], ⟨(k, x10), rn, ⟨H, Nat.lt_succ_self _⟩, h1⟩, ?_⟩
  rintro ⟨k, x10⟩ ⟨H, hk⟩
  exact h2 k x10 hk H
theorem bJ.l0_lp {F : (Exit → St → Prop) → St → Prop} {hv : List Tmp} {Q : Exit → St → Prop} {σ : St} {r : Bool} {k : Nat} {l0 : List Int} {t12376 : (List ByteArray) × (List aF) × (List aB) × (List aA) × (List ByteArray) × (List ByteArray) × (List ByteArray)} {t12380 : List ByteArray} {x8 : List ByteArray} {x9 : Int} (H : bJ.l0 k l0 x8 x9 t12376 t12380 = some r) (rn : List (Option Nat)) (h1 : cM σ σ [360] [(8, .own 0 x8.length), (9, .int .i64 x9)] [] [.arr 9 1 (x8.map bB)] rn)
    (h2 : ∀ (k0 : Nat) (x8 : List ByteArray) (x9 : Int), k0 < k + 1 → bJ.l0 k0 l0 x8 x9 t12376 t12380 = some r → dF σ hv [360] [(8, .own 0 x8.length), (9, .int .i64 x9)] [] [.arr 9 1 (x8.map bB)] (F (fun e σ' => match e with | .normal => ∃ (y : Nat × (List ByteArray) × Int) (rn : List (Option Nat)), (bJ.l0 y.1 l0 y.2.1 y.2.2 t12376 t12380 = some r ∧ y.1 < k + 1) ∧ y.1 < k0 ∧ cM σ σ' [360] [(8, .own 0 y.2.1.length), (9, .int .i64 y.2.2)] [] [.arr 9 1 (y.2.1.map bB)] rn | e => Q e σ'))) : Lp F hv Q σ := by
  unfold Lp
  refine ⟨Nat × (List ByteArray) × Int, fun x => bJ.l0 x.1 l0 x.2.1 x.2.2 t12376 t12380 = some r ∧ x.1 < k + 1, fun x => x.1, [360], fun x => [(8, .own 0 x.2.1.length), (9, .int .i64 x.2.2)], fun x => [], fun x => [.arr 9 1 (x.2.1.map bB)], ⟨(k, x8, x9), rn, ⟨H, Nat.lt_succ_self _⟩, h1⟩, ?_⟩
  rintro ⟨k, x8, x9⟩ ⟨H, hk⟩
  exact h2 k x8 x9 hk H
theorem bJ.ac {k : Nat} {l0 : List Int} {r : Bool} (H : bJ.f k l0 = some r) : cK Try.prog G 3 [] [(bP l0)] [] (.bool r) := by
  refine bN tok hP Try.func3 rfl (by kernel_rfl) [.tmp 2] rfl (by kernel_rfl) (Nat.le_of_ble_eq_true rfl) (.l .n (.l .n (.c .n (.l .n (.l .n (.l (.c .n (.l (.c .n .n) .n)) (.l (.l .n (.l (.c .n .n) .n)) (.l .n (.l (.c .n (.l .n (.l (.c .n .n) .n))) (.l (.l .n (.l (.c .n .n) .n)) (.l (.f 0 .n (.l .n (.l (.c .n (.l (.c .n .n) .n)) .n))) .n))))))))))) rfl ?_
  unfold bJ.f at H
  refine bT H (fun c H => ?_) (fun c H => ?_)
  cases H
  exact rz rfl
  revert H; refine aK (fun t12376 A H => (cmk (bA.ac A) rfl rfl (cu 120 [(3, .bp 80 0), (4, (aG t12376.2.2.2.2.1)), (5, .bp 88 0)] [(80, .box [(aG t12376.1), (aE t12376.2.1), (aD t12376.2.2.1), (aC t12376.2.2.2.1)]), (88, .box [(aG t12376.2.2.2.2.2.1), (aG t12376.2.2.2.2.2.2)])] rfl rfl rfl ?_)))
  revert H; refine aK (fun t12378 A H => (cmk (fJ.ac A) rfl rfl ?_))
  revert H; refine aK (fun t12380 A H => (cmk (gE.ac A) rfl rfl ?_))
  revert H; refine aK (fun t12387 A H => (cmk (dH.ac A) rfl rfl (iI H (fun c H => ?_) (fun c H => ?_))))
  refine Br.t ft_ (Br.t ft_ (Br.t ft_ (Br.t ft_ (Br.t ft_ (Br.t ft_ (cu 304 [(3, .bp 80 0), (4, (aG t12376.2.2.2.2.1)), (5, .bp 88 0), (6, .bool t12378), (7, (aG t12380)), (40, .bool true)] [(80, .box [(aG t12376.1), (aE t12376.2.1), (aD t12376.2.2.1), (aC t12376.2.2.2.1)]), (88, .box [(aG t12376.2.2.2.2.2.1), (aG t12376.2.2.2.2.2.2)])] rfl rfl rfl (Br.t rfl (cu 312 [(2, .bool false)] [] rfl rfl rfl ?_))))))))
  cases H
  exact rz rfl
  refine Br.f ff_ (Br.f ff_ (Br.f ff_ ?_))
  revert H; refine aK (fun t12388 A H => (cmk (bC.ac A) rfl rfl (Br.f ff_ ?_)))
  revert H; refine aK (fun t12389 A H => (cmk (eM.ac A) rfl rfl (Br.f ff_ (Br.f ff_ (cu 304 [(3, .bp 80 0), (4, (aG t12376.2.2.2.2.1)), (5, .bp 88 0), (6, .bool t12378), (7, (aG t12380)), (40, .bool (!t12389))] [(80, .box [(aG t12376.1), (aE t12376.2.1), (aD t12376.2.2.1), (aC t12376.2.2.2.1)]), (88, .box [(aG t12376.2.2.2.2.2.1), (aG t12376.2.2.2.2.2.2)])] rfl rfl rfl (dY H (fun c H => ?_) (fun c H => ?_)))))))
  revert H; refine aK (fun t12392 A H => (cmk (bH.ac A) rfl rfl (dY H (fun c H => ?_) (fun c H => ?_))))
  refine Or.inl (nd_ H (fun c H => (iQ 384 [(3, .bp 80 0), (4, (aG t12376.2.2.2.2.1)), (5, .bp 88 0), (7, (aG t12380)), (8, .own 360 (0 + t12376.2.2.2.2.2.2.length)), (9, .int .i64 0)] [(80, .box [(aG t12376.1), (aE t12376.2.1), (aD t12376.2.2.1), (aC t12376.2.2.2.1)]), (88, .box [(aG t12376.2.2.2.2.2.1), (aG t12376.2.2.2.2.2.2)]), (360, .arr 9 1 ((([] : List ByteArray) ++ t12376.2.2.2.2.2.2).map bB))] rfl ⟨.inl rfl, ⟨.inl rfl, ⟨.inl rfl, ⟨.inl rfl, ⟨.inl rfl, ⟨.inl rfl, trivial⟩⟩⟩⟩⟩⟩ ⟨rfl, ⟨rfl, ⟨fm_, trivial⟩⟩⟩ (bJ.l0_lp (l0 := l0) (t12376 := t12376) (t12380 := t12380) (k := k) H [some 360] (bG ⟨eL lm_, ⟨.inl ⟨rfl, rfl⟩, trivial⟩⟩ ⟨rfl, trivial⟩ fi_ trivial rfl) ?_))))
  intro k x8 x9 hk H; rcases k with _ | k; exact bD H; rw [bJ.l0] at H
  refine bT H (fun c H => ?_) (fun c H => ?_)
  refine nd_ H (fun c H => (Nd.mk nf_ (El.mk (aP _ _ nf_ nf_) ?_)))
  revert H; refine aK (fun t12399 A H => (cmk (dT.ac A) rfl rfl (cu 473 [(3, .bp 80 0), (4, (aG t12376.2.2.2.2.1)), (5, .bp 88 0), (7, (aG t12380)), (8, .own 384 x8.length), (9, .int .i64 x9), (68, .bool (!t12399))] [(80, .box [(aG t12376.1), (aE t12376.2.1), (aD t12376.2.2.1), (aC t12376.2.2.2.1)]), (88, .box [(aG t12376.2.2.2.2.2.1), (aG t12376.2.2.2.2.2.2)]), (384, .arr 9 1 (x8.map bB))] rfl rfl rfl (dY H (fun c H => ?_) (fun c H => ?_)))))
  exact ⟨(k, x8, wrap64 (x9 + 1)), [some 384], ⟨H, lt_⟩, lt_, (bG ⟨rfl, ⟨.inl ⟨rfl, rfl⟩, trivial⟩⟩ ⟨rfl, trivial⟩ fi_ trivial rfl)⟩
  refine Nd.mk nf_ (Nd.mk nf_ (El.mk (aP _ _ nf_ nf_) (Or.inl (nd_ H (fun c H => (⟨(k, (x8 ++ ([bE ByteArray.empty t12376.2.2.2.2.1 x9] : List ByteArray)), wrap64 (x9 + 1)), [some 521], ⟨H, lt_⟩, lt_, (bG ⟨eL lm_, ⟨.inl ⟨rfl, rfl⟩, trivial⟩⟩ ⟨fm_, trivial⟩ fi_ trivial rfl)⟩))))))
  revert H; refine aK (fun t12402 A H => (fM (fJ.ac A) (bW (gC (bR (bS rfl) (bR (bS rfl) (bR (bS rfl) (bR (bS rfl) (gB)))))) (bW (nV rfl rfl) (bW (gC (bR (bS rfl) (bR (bS rfl) (gB)))) (fE)))) (Or.inr ⟨rfl, nD⟩) rfl rfl (Nat.le_of_ble_eq_true rfl) (dY H (fun c H => ?_) (fun c H => ?_))))
  refine jE 465 [384] [(3, .bp 80 0), (5, .bp 88 0), (7, (aG t12380)), (8, (aG x8)), (10, .int .i64 0)] [(80, .box [(aG t12376.1), (aE t12376.2.1), (aD t12376.2.2.1), (aC t12376.2.2.2.1)]), (88, .box [(aG t12376.2.2.2.2.2.1), (aG t12376.2.2.2.2.2.2)])] rfl rfl ⟨.inl (.inl rfl), ⟨.inl (.inl rfl), ⟨.inl (.inl rfl), ⟨.inl (oH rfl rfl (.inr lm_) lm_), ⟨.inl (.inl rfl), trivial⟩⟩⟩⟩⟩ ⟨.inl (rfl), ⟨.inl (rfl), trivial⟩⟩ (bJ.l1_lp (t12376 := t12376) (t12380 := t12380) (x8 := x8) (k := k) H [] (fq rfl rfl fi_ rfl) ?_)
  intro k x10 hk H; rcases k with _ | k; exact bD H; rw [bJ.l1] at H
  refine bT H (fun c H => ?_) (fun c H => ?_)
  refine nd_ H (fun c H => (Nd.mk nf_ (El.mk (aP _ _ nf_ nf_) ?_)))
  revert H; refine aK (fun t12412 A H => (cmk (dT.ac A) rfl rfl (iI H (fun c H => ?_) (fun c H => ?_))))
  refine Br.t ft_ (Br.t ft_ (Br.t ft_ (Br.t ft_ (Br.t ft_ (Br.t ft_ (Br.t ft_ (Br.t ft_ (Br.t ft_ (Br.t ft_ (Br.t ft_ (Br.t ft_ (Br.t ft_ (Br.t ft_ (Br.t ft_ (Br.t ft_ (Br.t ft_ (Br.t ft_ (Br.t ft_ (Br.t ft_ (cu 729 [(3, .bp 80 0), (5, .bp 88 0), (7, (aG t12380)), (8, (aG x8)), (10, .int .i64 x10), (115, .bool true)] [(80, .box [(aG t12376.1), (aE t12376.2.1), (aD t12376.2.2.1), (aC t12376.2.2.2.1)]), (88, .box [(aG t12376.2.2.2.2.2.1), (aG t12376.2.2.2.2.2.2)])] rfl rfl rfl (Br.t rfl (cu 737 [(2, .bool false)] [] rfl rfl rfl ?_))))))))))))))))))))))
  cases H
  exact rz rfl
  refine Br.f ff_ (Or.inl (Br.f ff_ (Br.f ff_ (nd_ H (fun c H => (Br.f ff_ (Br.f ff_ (Br.f ff_ (Nd.mk nf_ (Nd.mk nf_ (El.mk (aP _ _ nf_ nf_) (Br.f ff_ (Br.f ff_ (Or.inl (Br.f ff_ (nd_ H (fun c H => (Br.f ff_ (Br.f ff_ ?_)))))))))))))))))))
  revert H; refine aK (fun t12413 A H => (fM (fJ.ac A) (bW (gC (bR (bS rfl) (bR (bS rfl) (bR (bS rfl) (bR (bS rfl) (gB)))))) (bW (wF rfl rfl lm_ lm_) (bW (gC (bR (bS rfl) (bR (bS rfl) (gB)))) (fE)))) (Or.inr ⟨rfl, nD⟩) rfl rfl (Nat.le_of_ble_eq_true rfl) (Br.f ff_ (Br.f ff_ (Br.f ff_ (Br.f ff_ (Nd.mk nf_ (Nd.mk nf_ (El.mk (aP _ _ nf_ nf_) (Br.f ff_ (Br.f ff_ (Br.f ff_ ?_))))))))))))
  revert H; refine aK (fun t12414 A H => (cmk (eA.ac A) rfl rfl (Br.f ff_ (Br.f ff_ (cu 729 [(3, .bp 80 0), (5, .bp 88 0), (7, (aG t12380)), (8, (aG x8)), (10, .int .i64 x10), (115, .bool (t12413 != t12414))] [(80, .box [(aG t12376.1), (aE t12376.2.1), (aD t12376.2.2.1), (aC t12376.2.2.2.1)]), (88, .box [(aG t12376.2.2.2.2.2.1), (aG t12376.2.2.2.2.2.2)])] rfl rfl rfl (iI H (fun c H => ?_) (fun c H => ?_)))))))
  refine cu 737 [(2, .bool false)] [] rfl rfl rfl ?_
  cases H
  exact rz rfl
  exact ⟨(k, wrap64 (x10 + 1)), [], ⟨H, lt_⟩, lt_, (fq rfl rfl fi_ rfl)⟩
  cases H
  exact rz rfl
  refine cu 465 [(2, .bool false)] [] rfl rfl rfl ?_
  cases H
  exact rz rfl
  refine dY H (fun c H => ?_) (fun c H => ?_)
  refine Br.f ff_ (Br.f ff_ (Br.f ff_ (cu 400 [(2, .bool false)] [] rfl rfl rfl ?_)))
  cases H
  exact rz rfl
  refine Br.t ft_ (Br.t ft_ (Br.t ft_ (cu 400 [(2, .bool (decide ((t12380.length : Int) = 0)))] [] rfl rfl rfl ?_)))
  cases H
  exact rz rfl
  refine cu 312 [(2, .bool false)] [] rfl rfl rfl ?_
  cases H
  exact rz rfl

end Go.Proofs.Ytjhkgbfmigfmfaa.GV

