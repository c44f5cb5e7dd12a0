import Derived.Test.YtnobkcplpbkigaaGreatDoorZFnPlantPrint3
import Derived.Shelf.Lay
import Derived.Shelf.Sort.AssemblyIn
import Derived.Ground.SoProg
import Derived.Ground.GgsProg
import Derived.Deep.QuietTactic
import Derived.BigQuiet
import Derived.Test.YtnobkcplpbkigaaGreatDoorProg
import Derived.KernelRfl
set_option linter.unusedVariables false
set_option linter.unusedSimpArgs false
namespace Go.Proofs.YtnobkcplpbkigaaGreatDoor.VP
open Go Go.Aw Go.RowKit Go.Proofs
set_option maxRecDepth 100000
set_option maxHeartbeats 40000000
variable {G : Nat → Option Obj}
attribute [local irreducible] jK Lp Sq Cut kR kJ cJ
theorem cY.ac {k : Nat} {a0_0 : List ByteArray} {a0_1 : List aC} {a0_2 : List aB} {a0_3 : List aA} {l1 : List ByteArray} {r : Int × (List ByteArray) × (List aC) × (List aB) × (List aA)} (H : cY.f k a0_0 a0_1 a0_2 a0_3 l1 = some r) : kX Tryz.prog G 32 1 [.box [.own 1 a0_0.length, .own 2 a0_1.length, .own 3 a0_2.length, .own 4 a0_3.length], .arr 9 1 (a0_0.map aW), .arr 47 2 (a0_1.map aJ), .arr 49 3 (a0_2.map aH), .arr 52 4 (a0_3.map aG)] [.bp 0 0, (aM l1)] [.box [.own 1 r.2.1.length, .own 2 r.2.2.1.length, .own 3 r.2.2.2.1.length, .own 4 r.2.2.2.2.length], .arr 9 1 (r.2.1.map aW), .arr 47 2 (r.2.2.1.map aJ), .arr 49 3 (r.2.2.2.1.map aH), .arr 52 4 (r.2.2.2.2.map aG)] (.int .i64 r.1) := by
  refine aAC 1 tok hP Tryz.func32 rfl (by kernel_rfl) [.tmp 4] rfl (by kernel_rfl) (Nat.le_of_ble_eq_true rfl) (Nat.le_of_ble_eq_true rfl) (.l .n (.c .n (.l .n (.l .n (.l .n (.l (.c .n (.l .n (.l .n (.l (.l .n (.c .n (.l (.c .n (.l (.c .n (.l (.c .n .n) .n)) .n)) (.c .n .n)))) .n)))) (.c (.l .n (.l .n (.l (.l (.c .n .n) .n) (.l .n (.l (.c .n (.l (.l .n (.l .n (.c .n (.l .n (.c .n (.l (.c .n .n) (.c .n .n))))))) (.c (.w [2]) .n))) (.l (.c .n .n) (.l (.l (.c .n .n) (.l .n (.c (.w [3]) .n))) (.l .n (.l (.c .n (.c .n (.c .n (.c .n (.l (.l .n (.l .n (.l .n (.l .n (.c .n (.l (.c .n .n) (.c .n .n))))))) (.c (.w [4]) .n)))))) .n))))))))) (.c .n .n)))))))) rfl ?_
  unfold cY.f at H
  refine ⟨oO, rfl, ?_⟩
  refine ⟨oO, rfl, ?_⟩
  refine ⟨oO, rfl, ?_⟩
  refine ⟨oO, rfl, ?_⟩
  refine ⟨oO, rfl, ?_⟩
  refine Nd.mk (by decide) (nd_ H (fun c H => (El.mk (aX _ _ nf_ nf_) (⟨oO, ?_⟩))))
  refine cu 149 [(1, (aM l1)), (2, .bp 5 0), (5, .int .i64 (mpG ([((⟨#[115, 116, 117, 102, 102]⟩ : ByteArray), 2), ((⟨#[102, 111, 101]⟩ : ByteArray), 3), ((⟨#[118, 101, 115, 115, 101, 108]⟩ : ByteArray), 4), ((⟨#[106, 111, 105, 110, 116]⟩ : ByteArray), 3), ((⟨#[118, 97, 108, 118, 101]⟩ : ByteArray), 5)] : List (ByteArray × Int)) (aV ByteArray.empty l1 0))), (6, .bool (mpH ([((⟨#[115, 116, 117, 102, 102]⟩ : ByteArray), 2), ((⟨#[102, 111, 101]⟩ : ByteArray), 3), ((⟨#[118, 101, 115, 115, 101, 108]⟩ : ByteArray), 4), ((⟨#[106, 111, 105, 110, 116]⟩ : ByteArray), 3), ((⟨#[118, 97, 108, 118, 101]⟩ : ByteArray), 5)] : List (ByteArray × Int)) (aV ByteArray.empty l1 0)))] [(0, .box [.own 1 a0_0.length, .own 2 a0_1.length, .own 3 a0_2.length, .own 4 a0_3.length]), (1, .arr 9 1 (a0_0.map aW)), (2, .arr 47 2 (a0_1.map aJ)), (3, .arr 49 3 (a0_2.map aH)), (4, .arr 52 4 (a0_3.map aG)), (5, .box [.bp 0 0])] rfl rfl rfl (dM H (fun c H => ?_) (fun c H => ?_))
  refine iI H (fun c H => ?_) (fun c H => ?_)
  refine Nd.mk (by decide) (nd_ H (fun c H => (jW 237 [(1, (aM l1)), (2, .bp 5 0), (7, .int .i64 0), (40, .sl 1 (l1.length - (1 : Int).toNat) ((l1.drop (1 : Int).toNat).map aW)), (41, .int .i64 (((l1.length - (1 : Int).toNat) : Nat) : Int)), (42, .int .i64 0)] [(0, .box [.own 1 a0_0.length, .own 2 a0_1.length, .own 3 a0_2.length, .own 4 a0_3.length]), (1, .arr 9 1 (a0_0.map aW)), (2, .arr 47 2 (a0_1.map aJ)), (3, .arr 49 3 (a0_2.map aH)), (4, .arr 52 4 (a0_3.map aG)), (5, .box [.bp 0 0])] rfl ⟨.inl rfl, ⟨.inl rfl, ⟨.inl rfl, ⟨aLI rfl lm_ lm_, ⟨.inl rfl, ⟨.inl rfl, trivial⟩⟩⟩⟩⟩⟩ ⟨rfl, ⟨rfl, ⟨rfl, ⟨rfl, ⟨rfl, ⟨rfl, trivial⟩⟩⟩⟩⟩⟩ (cY.l0_lp (a0_0 := a0_0) (a0_1 := a0_1) (a0_2 := a0_2) (a0_3 := a0_3) (l1 := l1) (k := k) H [] (fq rfl rfl fi_ rfl) ?_))))
  intro k x7 x42 hk H; rcases k with _ | k; exact bC H; rw [cY.l0] at H
  refine bM H (fun c H => ?_) (fun c H => ?_)
  refine nd_ H (fun c H => (Nd.mk nf_ (El.mk (aX _ _ nf_ nf_) (Nd.mk (by decide) (Nd.mk nf_ (El.mk (aX _ _ nf_ nf_) (bM H (fun c H => ?_) (fun c H => ?_))))))))
  refine Br.t ft_ (Br.t ft_ (cu 349 [(1, (aM l1)), (2, .bp 5 0), (7, .int .i64 x7), (9, .str (aV ByteArray.empty (l1.drop (1 : Int).toNat) x42)), (40, .sl 1 (l1.length - (1 : Int).toNat) ((l1.drop (1 : Int).toNat).map aW)), (41, .int .i64 (((l1.length - (1 : Int).toNat) : Nat) : Int)), (42, .int .i64 x42), (54, .bool (decide (x42 = 1)))] [(0, .box [.own 1 a0_0.length, .own 2 a0_1.length, .own 3 a0_2.length, .own 4 a0_3.length]), (1, .arr 9 1 (a0_0.map aW)), (2, .arr 47 2 (a0_1.map aJ)), (3, .arr 49 3 (a0_2.map aH)), (4, .arr 52 4 (a0_3.map aG)), (5, .box [.bp 0 0])] rfl rfl rfl (bM H (fun c H => ?_) (fun c H => ?_))))
  revert H; refine aN (fun t9916 A H => (cmk (bZ.ac A) rfl rfl (cu 405 [(1, (aM l1)), (2, .bp 5 0), (10, .int .i64 t9916.1), (11, .bool t9916.2), (40, .sl 1 (l1.length - (1 : Int).toNat) ((l1.drop (1 : Int).toNat).map aW)), (41, .int .i64 (((l1.length - (1 : Int).toNat) : Nat) : Int)), (42, .int .i64 x42)] [(0, .box [.own 1 a0_0.length, .own 2 a0_1.length, .own 3 a0_2.length, .own 4 a0_3.length]), (1, .arr 9 1 (a0_0.map aW)), (2, .arr 47 2 (a0_1.map aJ)), (3, .arr 49 3 (a0_2.map aH)), (4, .arr 52 4 (a0_3.map aG)), (5, .box [.bp 0 0])] rfl rfl rfl (dM H (fun c H => ?_) (fun c H => ?_)))))
  refine Br.f ff_ (Br.f ff_ (bM H (fun c H => ?_) (fun c H => ?_)))
  refine Br.t ft_ (Br.t ft_ (cu 485 [(1, (aM l1)), (2, .bp 5 0), (10, .int .i64 t9916.1), (40, .sl 1 (l1.length - (1 : Int).toNat) ((l1.drop (1 : Int).toNat).map aW)), (41, .int .i64 (((l1.length - (1 : Int).toNat) : Nat) : Int)), (42, .int .i64 x42), (69, .bool true)] [(0, .box [.own 1 a0_0.length, .own 2 a0_1.length, .own 3 a0_2.length, .own 4 a0_3.length]), (1, .arr 9 1 (a0_0.map aW)), (2, .arr 47 2 (a0_1.map aJ)), (3, .arr 49 3 (a0_2.map aH)), (4, .arr 52 4 (a0_3.map aG)), (5, .box [.bp 0 0])] rfl rfl rfl (Br.t rfl (cu 493 [(4, .int .i64 3)] [(0, .box [.own 1 a0_0.length, .own 2 a0_1.length, .own 3 a0_2.length, .own 4 a0_3.length]), (1, .arr 9 1 (a0_0.map aW)), (2, .arr 47 2 (a0_1.map aJ)), (3, .arr 49 3 (a0_2.map aH)), (4, .arr 52 4 (a0_3.map aG))] rfl rfl rfl ?_))))
  cases H
  exact gL [0, 1, 2, 3, 4] [.box [.own 1 a0_0.length, .own 2 a0_1.length, .own 3 a0_2.length, .own 4 a0_3.length], .arr 9 1 (a0_0.map aW), .arr 47 2 (a0_1.map aJ), .arr 49 3 (a0_2.map aH), .arr 52 4 (a0_3.map aG)] rfl ⟨fL rfl ⟨rfl, ⟨rfl, ⟨rfl, ⟨rfl, trivial⟩⟩⟩⟩, ⟨rfl, ⟨rfl, ⟨rfl, ⟨rfl, trivial⟩⟩⟩⟩⟩ rfl rfl
  refine Br.f ff_ (Br.f ff_ (cu 485 [(1, (aM l1)), (2, .bp 5 0), (10, .int .i64 t9916.1), (40, .sl 1 (l1.length - (1 : Int).toNat) ((l1.drop (1 : Int).toNat).map aW)), (41, .int .i64 (((l1.length - (1 : Int).toNat) : Nat) : Int)), (42, .int .i64 x42), (69, .bool (decide (t9916.1 > 1000)))] [(0, .box [.own 1 a0_0.length, .own 2 a0_1.length, .own 3 a0_2.length, .own 4 a0_3.length]), (1, .arr 9 1 (a0_0.map aW)), (2, .arr 47 2 (a0_1.map aJ)), (3, .arr 49 3 (a0_2.map aH)), (4, .arr 52 4 (a0_3.map aG)), (5, .box [.bp 0 0])] rfl rfl rfl (bM H (fun c H => ?_) (fun c H => ?_))))
  refine cu 493 [(4, .int .i64 3)] [(0, .box [.own 1 a0_0.length, .own 2 a0_1.length, .own 3 a0_2.length, .own 4 a0_3.length]), (1, .arr 9 1 (a0_0.map aW)), (2, .arr 47 2 (a0_1.map aJ)), (3, .arr 49 3 (a0_2.map aH)), (4, .arr 52 4 (a0_3.map aG))] rfl rfl rfl ?_
  cases H
  exact gL [0, 1, 2, 3, 4] [.box [.own 1 a0_0.length, .own 2 a0_1.length, .own 3 a0_2.length, .own 4 a0_3.length], .arr 9 1 (a0_0.map aW), .arr 47 2 (a0_1.map aJ), .arr 49 3 (a0_2.map aH), .arr 52 4 (a0_3.map aG)] rfl ⟨fL rfl ⟨rfl, ⟨rfl, ⟨rfl, ⟨rfl, trivial⟩⟩⟩⟩, ⟨rfl, ⟨rfl, ⟨rfl, ⟨rfl, trivial⟩⟩⟩⟩⟩ rfl rfl
  exact ⟨(k, t9916.1, wrap64 (x42 + 1)), [], ⟨H, lt_⟩, lt_, (fq rfl rfl fi_ rfl)⟩
  refine Br.t ft_ (Br.t ft_ (Br.t rfl (Br.t rfl (Br.t rfl (cu 485 [(1, (aM l1)), (2, .bp 5 0), (10, .int .i64 t9916.1), (40, .sl 1 (l1.length - (1 : Int).toNat) ((l1.drop (1 : Int).toNat).map aW)), (41, .int .i64 (((l1.length - (1 : Int).toNat) : Nat) : Int)), (42, .int .i64 x42), (69, .bool true)] [(0, .box [.own 1 a0_0.length, .own 2 a0_1.length, .own 3 a0_2.length, .own 4 a0_3.length]), (1, .arr 9 1 (a0_0.map aW)), (2, .arr 47 2 (a0_1.map aJ)), (3, .arr 49 3 (a0_2.map aH)), (4, .arr 52 4 (a0_3.map aG)), (5, .box [.bp 0 0])] rfl rfl rfl (Br.t rfl (cu 493 [(4, .int .i64 3)] [(0, .box [.own 1 a0_0.length, .own 2 a0_1.length, .own 3 a0_2.length, .own 4 a0_3.length]), (1, .arr 9 1 (a0_0.map aW)), (2, .arr 47 2 (a0_1.map aJ)), (3, .arr 49 3 (a0_2.map aH)), (4, .arr 52 4 (a0_3.map aG))] rfl rfl rfl ?_)))))))
  cases H
  exact gL [0, 1, 2, 3, 4] [.box [.own 1 a0_0.length, .own 2 a0_1.length, .own 3 a0_2.length, .own 4 a0_3.length], .arr 9 1 (a0_0.map aW), .arr 47 2 (a0_1.map aJ), .arr 49 3 (a0_2.map aH), .arr 52 4 (a0_3.map aG)] rfl ⟨fL rfl ⟨rfl, ⟨rfl, ⟨rfl, ⟨rfl, trivial⟩⟩⟩⟩, ⟨rfl, ⟨rfl, ⟨rfl, ⟨rfl, trivial⟩⟩⟩⟩⟩ rfl rfl
  revert H; refine aN (fun t9917 A H => (cmk (bU.ac A) rfl rfl (cu 373 [(1, (aM l1)), (2, .bp 5 0), (7, .int .i64 x7), (40, .sl 1 (l1.length - (1 : Int).toNat) ((l1.drop (1 : Int).toNat).map aW)), (41, .int .i64 (((l1.length - (1 : Int).toNat) : Nat) : Int)), (42, .int .i64 x42), (73, .bool (!t9917))] [(0, .box [.own 1 a0_0.length, .own 2 a0_1.length, .own 3 a0_2.length, .own 4 a0_3.length]), (1, .arr 9 1 (a0_0.map aW)), (2, .arr 47 2 (a0_1.map aJ)), (3, .arr 49 3 (a0_2.map aH)), (4, .arr 52 4 (a0_3.map aG)), (5, .box [.bp 0 0])] rfl rfl rfl (dM H (fun c H => ?_) (fun c H => ?_)))))
  exact ⟨(k, _, wrap64 (x42 + 1)), [], ⟨H, lt_⟩, lt_, (fq rfl rfl fi_ rfl)⟩
  cases H
  exact gL [0, 1, 2, 3, 4] [.box [.own 1 a0_0.length, .own 2 a0_1.length, .own 3 a0_2.length, .own 4 a0_3.length], .arr 9 1 (a0_0.map aW), .arr 47 2 (a0_1.map aJ), .arr 49 3 (a0_2.map aH), .arr 52 4 (a0_3.map aG)] rfl ⟨fL rfl ⟨rfl, ⟨rfl, ⟨rfl, ⟨rfl, trivial⟩⟩⟩⟩, ⟨rfl, ⟨rfl, ⟨rfl, ⟨rfl, trivial⟩⟩⟩⟩⟩ rfl rfl
  refine Br.f ff_ (Br.f ff_ (cu 349 [(1, (aM l1)), (2, .bp 5 0), (7, .int .i64 x7), (9, .str (aV ByteArray.empty (l1.drop (1 : Int).toNat) x42)), (40, .sl 1 (l1.length - (1 : Int).toNat) ((l1.drop (1 : Int).toNat).map aW)), (41, .int .i64 (((l1.length - (1 : Int).toNat) : Nat) : Int)), (42, .int .i64 x42), (54, .bool false)] [(0, .box [.own 1 a0_0.length, .own 2 a0_1.length, .own 3 a0_2.length, .own 4 a0_3.length]), (1, .arr 9 1 (a0_0.map aW)), (2, .arr 47 2 (a0_1.map aJ)), (3, .arr 49 3 (a0_2.map aH)), (4, .arr 52 4 (a0_3.map aG)), (5, .box [.bp 0 0])] rfl rfl rfl (Br.f rfl ?_)))
  revert H; refine aN (fun t9918 A H => (cmk (bU.ac A) rfl rfl (cu 373 [(1, (aM l1)), (2, .bp 5 0), (7, .int .i64 x7), (40, .sl 1 (l1.length - (1 : Int).toNat) ((l1.drop (1 : Int).toNat).map aW)), (41, .int .i64 (((l1.length - (1 : Int).toNat) : Nat) : Int)), (42, .int .i64 x42), (73, .bool (!t9918))] [(0, .box [.own 1 a0_0.length, .own 2 a0_1.length, .own 3 a0_2.length, .own 4 a0_3.length]), (1, .arr 9 1 (a0_0.map aW)), (2, .arr 47 2 (a0_1.map aJ)), (3, .arr 49 3 (a0_2.map aH)), (4, .arr 52 4 (a0_3.map aG)), (5, .box [.bp 0 0])] rfl rfl rfl (dM H (fun c H => ?_) (fun c H => ?_)))))
  exact ⟨(k, _, wrap64 (x42 + 1)), [], ⟨H, lt_⟩, lt_, (fq rfl rfl fi_ rfl)⟩
  cases H
  exact gL [0, 1, 2, 3, 4] [.box [.own 1 a0_0.length, .own 2 a0_1.length, .own 3 a0_2.length, .own 4 a0_3.length], .arr 9 1 (a0_0.map aW), .arr 47 2 (a0_1.map aJ), .arr 49 3 (a0_2.map aH), .arr 52 4 (a0_3.map aG)] rfl ⟨fL rfl ⟨rfl, ⟨rfl, ⟨rfl, ⟨rfl, trivial⟩⟩⟩⟩, ⟨rfl, ⟨rfl, ⟨rfl, ⟨rfl, trivial⟩⟩⟩⟩⟩ rfl rfl
  refine Nd.mk (by decide) (Nd.mk nf_ (El.mk (aX _ _ nf_ nf_) (bM H (fun c H => ?_) (fun c H => ?_))))
  refine Nd.mk (by decide) (nd_ H (fun c H => (El.mk (aX _ _ nf_ nf_) ?_)))
  revert H; refine aN (fun t9940 A H => (eL (fT.ac A) (bT (oA rfl rfl) (bT (gD rfl) (eA))) (Or.inr ⟨rfl, kO⟩) rfl rfl (Nat.le_of_ble_eq_true rfl) (cu 349 [(1, (aM l1)), (2, .bp 5 0), (87, .bool t9940)] [(0, .box [.own 1 a0_0.length, .own 2 a0_1.length, .own 3 a0_2.length, .own 4 a0_3.length]), (1, .arr 9 1 (a0_0.map aW)), (2, .arr 47 2 (a0_1.map aJ)), (3, .arr 49 3 (a0_2.map aH)), (4, .arr 52 4 (a0_3.map aG)), (5, .box [.bp 0 0])] rfl rfl rfl (jF H (fun c H => ?_) (fun c H => ?_)))))
  cases H
  exact gL [0, 1, 2, 3, 4] [.box [.own 1 a0_0.length, .own 2 a0_1.length, .own 3 a0_2.length, .own 4 a0_3.length], .arr 9 1 (a0_0.map aW), .arr 47 2 (a0_1.map aJ), .arr 49 3 (a0_2.map aH), .arr 52 4 (a0_3.map aG)] rfl ⟨fL rfl ⟨rfl, ⟨rfl, ⟨rfl, ⟨rfl, trivial⟩⟩⟩⟩, ⟨rfl, ⟨rfl, ⟨rfl, ⟨rfl, trivial⟩⟩⟩⟩⟩ rfl rfl
  refine bM H (fun c H => ?_) (fun c H => ?_)
  cases H
  exact gL [0, 1, 2, 3, 4] [.box [.own 1 a0_0.length, .own 2 a0_1.length, .own 3 a0_2.length, .own 4 a0_3.length], .arr 9 1 (a0_0.map aW), .arr 47 2 (a0_1.map aJ), .arr 49 3 (a0_2.map aH), .arr 52 4 (a0_3.map aG)] rfl ⟨fL rfl ⟨rfl, ⟨rfl, ⟨rfl, ⟨rfl, trivial⟩⟩⟩⟩, ⟨rfl, ⟨rfl, ⟨rfl, ⟨rfl, trivial⟩⟩⟩⟩⟩ rfl rfl
  refine Nd.mk (by decide) (Nd.mk nf_ (El.mk (aX _ _ nf_ nf_) (Or.inl ?_)))
  revert H; refine aN (fun t9941 A H => (eL (eD.acO A) (bT (oA rfl rfl) (bT (aDW rfl rfl lm_ lm_) (eA))) (Or.inr ⟨rfl, aBR (aFG wQ) (kO)⟩) rfl rfl (Nat.le_of_ble_eq_true rfl) (cu 501 [] [(0, .box [.own 469 t9941.length, .own 2 a0_1.length, .own 3 a0_2.length, .own 4 a0_3.length]), (2, .arr 47 2 (a0_1.map aJ)), (3, .arr 49 3 (a0_2.map aH)), (4, .arr 52 4 (a0_3.map aG)), (469, .arr 9 1 (t9941.map aW))] rfl rfl rfl (cu 509 [(4, .int .i64 0)] [(0, .box [.own 469 t9941.length, .own 2 a0_1.length, .own 3 a0_2.length, .own 4 a0_3.length]), (2, .arr 47 2 (a0_1.map aJ)), (3, .arr 49 3 (a0_2.map aH)), (4, .arr 52 4 (a0_3.map aG)), (469, .arr 9 1 (t9941.map aW))] rfl rfl rfl ?_))))
  cases H
  exact gL [0, 469, 2, 3, 4] [.box [.own 469 t9941.length, .own 2 a0_1.length, .own 3 a0_2.length, .own 4 a0_3.length], .arr 9 1 (t9941.map aW), .arr 47 2 (a0_1.map aJ), .arr 49 3 (a0_2.map aH), .arr 52 4 (a0_3.map aG)] rfl ⟨fL rfl ⟨rfl, ⟨rfl, ⟨rfl, ⟨rfl, trivial⟩⟩⟩⟩, ⟨rfl, ⟨rfl, ⟨rfl, ⟨rfl, trivial⟩⟩⟩⟩⟩ rfl rfl
  refine bM H (fun c H => ?_) (fun c H => ?_)
  refine Nd.mk (by decide) (nd_ H (fun c H => (El.mk (aX _ _ nf_ nf_) (Nd.mk (by decide) (nd_ H (fun c H => (El.mk (aX _ _ nf_ nf_) (Nd.mk (by decide) (Nd.mk nf_ (El.mk (aX _ _ nf_ nf_) (Nd.mk (by decide) (Nd.mk nf_ (El.mk (aX _ _ nf_ nf_) (cu 429 [(2, .bp 5 0), (12, .str (mnS (aV ByteArray.empty l1 1) (aV ByteArray.empty l1 2))), (13, .str (mxS (aV ByteArray.empty l1 1) (aV ByteArray.empty l1 2)))] [(0, .box [.own 1 a0_0.length, .own 2 a0_1.length, .own 3 a0_2.length, .own 4 a0_3.length]), (1, .arr 9 1 (a0_0.map aW)), (2, .arr 47 2 (a0_1.map aJ)), (3, .arr 49 3 (a0_2.map aH)), (4, .arr 52 4 (a0_3.map aG)), (5, .box [.bp 0 0])] rfl rfl rfl (bM H (fun c H => ?_) (fun c H => ?_))))))))))))))))
  cases H
  exact gL [0, 1, 2, 3, 4] [.box [.own 1 a0_0.length, .own 2 a0_1.length, .own 3 a0_2.length, .own 4 a0_3.length], .arr 9 1 (a0_0.map aW), .arr 47 2 (a0_1.map aJ), .arr 49 3 (a0_2.map aH), .arr 52 4 (a0_3.map aG)] rfl ⟨fL rfl ⟨rfl, ⟨rfl, ⟨rfl, ⟨rfl, trivial⟩⟩⟩⟩, ⟨rfl, ⟨rfl, ⟨rfl, ⟨rfl, trivial⟩⟩⟩⟩⟩ rfl rfl
  revert H; refine aN (fun t9942 A H => (eL (bI.acO A) (bT (fF (bD (fY rfl rfl) (bD (fY rfl rfl) (bD (fY rfl rfl) (bD (fY rfl rfl) (fE)))))) (eA)) (Or.inr ⟨rfl, aBR (aFG oQ) (kO)⟩) rfl rfl (Nat.le_of_ble_eq_true rfl) ?_))
  revert H; refine aN (fun t9943 A H => (eL (eH.ac A) (bT (oA rfl rfl) (bT (gD rfl) (bT (gD rfl) (eA)))) (Or.inr ⟨rfl, kO⟩) rfl rfl (Nat.le_of_ble_eq_true rfl) (cu 525 [(2, .bp 5 0), (12, .str (mnS (aV ByteArray.empty l1 1) (aV ByteArray.empty l1 2))), (13, .str (mxS (aV ByteArray.empty l1 1) (aV ByteArray.empty l1 2))), (126, .bool t9943)] [(0, .box [.own 1 a0_0.length, .own 2 a0_1.length, .own 3 a0_2.length, .own 4 a0_3.length]), (1, .arr 9 1 (a0_0.map aW)), (2, .arr 47 2 (a0_1.map aJ)), (3, .arr 49 3 (a0_2.map aH)), (4, .arr 52 4 (a0_3.map aG)), (5, .box [.bp 0 0])] rfl rfl rfl (jF H (fun c H => ?_) (fun c H => ?_)))))
  cases H
  exact gL [0, 1, 2, 3, 4] [.box [.own 1 a0_0.length, .own 2 a0_1.length, .own 3 a0_2.length, .own 4 a0_3.length], .arr 9 1 (a0_0.map aW), .arr 47 2 (a0_1.map aJ), .arr 49 3 (a0_2.map aH), .arr 52 4 (a0_3.map aG)] rfl ⟨fL rfl ⟨rfl, ⟨rfl, ⟨rfl, ⟨rfl, trivial⟩⟩⟩⟩, ⟨rfl, ⟨rfl, ⟨rfl, ⟨rfl, trivial⟩⟩⟩⟩⟩ rfl rfl
  revert H; refine aN (fun t9944 A H => (eL (fT.ac A) (bT (oA rfl rfl) (bT (gD rfl) (eA))) (Or.inr ⟨rfl, kO⟩) rfl rfl (Nat.le_of_ble_eq_true rfl) (dM H (fun c H => ?_) (fun c H => ?_))))
  refine Br.f ff_ (Br.f ff_ (Br.f ff_ (Br.f ff_ (Br.f ff_ ?_))))
  revert H; refine aN (fun t9945 A H => (eL (fT.ac A) (bT (oA rfl rfl) (bT (gD rfl) (eA))) (Or.inr ⟨rfl, kO⟩) rfl rfl (Nat.le_of_ble_eq_true rfl) (Br.f ff_ (Br.f ff_ (cu 661 [(2, .bp 5 0), (12, .str (mnS (aV ByteArray.empty l1 1) (aV ByteArray.empty l1 2))), (13, .str (mxS (aV ByteArray.empty l1 1) (aV ByteArray.empty l1 2))), (134, .bool (!t9945))] [(0, .box [.own 1 a0_0.length, .own 2 a0_1.length, .own 3 a0_2.length, .own 4 a0_3.length]), (1, .arr 9 1 (a0_0.map aW)), (2, .arr 47 2 (a0_1.map aJ)), (3, .arr 49 3 (a0_2.map aH)), (4, .arr 52 4 (a0_3.map aG)), (5, .box [.bp 0 0])] rfl rfl rfl (dM H (fun c H => ?_) (fun c H => ?_)))))))
  refine cu 717 [(2, .bp 5 0), (12, .str (mnS (aV ByteArray.empty l1 1) (aV ByteArray.empty l1 2))), (13, .str (mxS (aV ByteArray.empty l1 1) (aV ByteArray.empty l1 2))), (151, .bool (decide ((a0_1.length : Int) ≥ 12)))] [(0, .box [.own 1 a0_0.length, .own 2 a0_1.length, .own 3 a0_2.length, .own 4 a0_3.length]), (1, .arr 9 1 (a0_0.map aW)), (2, .arr 47 2 (a0_1.map aJ)), (3, .arr 49 3 (a0_2.map aH)), (4, .arr 52 4 (a0_3.map aG)), (5, .box [.bp 0 0])] rfl rfl rfl (bM H (fun c H => ?_) (fun c H => ?_))
  cases H
  exact gL [0, 1, 2, 3, 4] [.box [.own 1 a0_0.length, .own 2 a0_1.length, .own 3 a0_2.length, .own 4 a0_3.length], .arr 9 1 (a0_0.map aW), .arr 47 2 (a0_1.map aJ), .arr 49 3 (a0_2.map aH), .arr 52 4 (a0_3.map aG)] rfl ⟨fL rfl ⟨rfl, ⟨rfl, ⟨rfl, ⟨rfl, trivial⟩⟩⟩⟩, ⟨rfl, ⟨rfl, ⟨rfl, ⟨rfl, trivial⟩⟩⟩⟩⟩ rfl rfl
  refine Or.inl (nd_ H (fun c H => (jW 821 [(2, .bp 5 0)] [(0, .box [.own 1 a0_0.length, .own 789 (a0_1.length + 1), .own 3 a0_2.length, .own 4 a0_3.length]), (1, .arr 9 1 (a0_0.map aW)), (3, .arr 49 3 (a0_2.map aH)), (4, .arr 52 4 (a0_3.map aG)), (5, .box [.bp 0 0]), (789, .arr 47 2 ((a0_1 ++ ([(⟨mnS (aV ByteArray.empty l1 1) (aV ByteArray.empty l1 2), mxS (aV ByteArray.empty l1 1) (aV ByteArray.empty l1 2)⟩ : aC)] : List aC)).map aJ))] rfl ⟨.inl rfl, trivial⟩ ⟨rfl, ⟨rfl, ⟨rfl, ⟨rfl, ⟨rfl, ⟨fm_, trivial⟩⟩⟩⟩⟩⟩ ?_)))
  revert H; refine aN (fun t9946 A H => (nG [789, 5, 0, 1, 3, 4] [.arr 47 2 ((a0_1 ++ ([(⟨mnS (aV ByteArray.empty l1 1) (aV ByteArray.empty l1 2), mxS (aV ByteArray.empty l1 1) (aV ByteArray.empty l1 2)⟩ : aC)] : List aC)).map aJ), .box [.bp 0 0], .box [.own 1 a0_0.length, .own 789 ((a0_1 ++ ([(⟨mnS (aV ByteArray.empty l1 1) (aV ByteArray.empty l1 2), mxS (aV ByteArray.empty l1 1) (aV ByteArray.empty l1 2)⟩ : aC)] : List aC)).length), .own 3 a0_2.length, .own 4 a0_3.length], .arr 9 1 (a0_0.map aW), .arr 49 3 (a0_2.map aH), .arr 52 4 (a0_3.map aG)] [.arr 47 2 (t9946.map aJ), .box [.bp 0 0], .box [.own 1 a0_0.length, .own 789 t9946.length, .own 3 a0_2.length, .own 4 a0_3.length], .arr 9 1 (a0_0.map aW), .arr 49 3 (a0_2.map aH), .arr 52 4 (a0_3.map aG)] (dB.ac (x0 := a0_0) (x1 := a0_2) (x2 := a0_3) A) rfl rfl ⟨rfl, ⟨rfl, ⟨fL rfl ⟨rfl, ⟨aHZ rfl lm_, ⟨rfl, ⟨rfl, trivial⟩⟩⟩⟩, ⟨rfl, ⟨rfl, ⟨rfl, trivial⟩⟩⟩⟩⟩⟩ rfl rfl rfl rfl rfl (gR ⟨aIM rfl lm_, rfl, trivial⟩) rfl rfl (cu 877 [] [(0, .box [.own 1 a0_0.length, .own 789 t9946.length, .own 3 a0_2.length, .own 4 a0_3.length]), (1, .arr 9 1 (a0_0.map aW)), (3, .arr 49 3 (a0_2.map aH)), (4, .arr 52 4 (a0_3.map aG)), (789, .arr 47 2 (t9946.map aJ))] rfl rfl rfl (cu 885 [(4, .int .i64 0)] [(0, .box [.own 1 a0_0.length, .own 789 t9946.length, .own 3 a0_2.length, .own 4 a0_3.length]), (1, .arr 9 1 (a0_0.map aW)), (3, .arr 49 3 (a0_2.map aH)), (4, .arr 52 4 (a0_3.map aG)), (789, .arr 47 2 (t9946.map aJ))] rfl rfl rfl ?_))))
  cases H
  exact gL [0, 1, 789, 3, 4] [.box [.own 1 a0_0.length, .own 789 t9946.length, .own 3 a0_2.length, .own 4 a0_3.length], .arr 9 1 (a0_0.map aW), .arr 47 2 (t9946.map aJ), .arr 49 3 (a0_2.map aH), .arr 52 4 (a0_3.map aG)] rfl ⟨fL rfl ⟨rfl, ⟨rfl, ⟨rfl, ⟨rfl, trivial⟩⟩⟩⟩, ⟨rfl, ⟨rfl, ⟨rfl, ⟨rfl, trivial⟩⟩⟩⟩⟩ rfl rfl
  refine cu 669 [(4, .int .i64 5)] [(0, .box [.own 1 a0_0.length, .own 2 a0_1.length, .own 3 a0_2.length, .own 4 a0_3.length]), (1, .arr 9 1 (a0_0.map aW)), (2, .arr 47 2 (a0_1.map aJ)), (3, .arr 49 3 (a0_2.map aH)), (4, .arr 52 4 (a0_3.map aG))] rfl rfl rfl ?_
  cases H
  exact gL [0, 1, 2, 3, 4] [.box [.own 1 a0_0.length, .own 2 a0_1.length, .own 3 a0_2.length, .own 4 a0_3.length], .arr 9 1 (a0_0.map aW), .arr 47 2 (a0_1.map aJ), .arr 49 3 (a0_2.map aH), .arr 52 4 (a0_3.map aG)] rfl ⟨fL rfl ⟨rfl, ⟨rfl, ⟨rfl, ⟨rfl, trivial⟩⟩⟩⟩, ⟨rfl, ⟨rfl, ⟨rfl, ⟨rfl, trivial⟩⟩⟩⟩⟩ rfl rfl
  refine Br.t ft_ (Br.t ft_ (Br.t ft_ (Br.t ft_ (Br.t ft_ (Br.t ft_ (Br.t ft_ (cu 661 [(2, .bp 5 0), (12, .str (mnS (aV ByteArray.empty l1 1) (aV ByteArray.empty l1 2))), (13, .str (mxS (aV ByteArray.empty l1 1) (aV ByteArray.empty l1 2))), (134, .bool true)] [(0, .box [.own 1 a0_0.length, .own 2 a0_1.length, .own 3 a0_2.length, .own 4 a0_3.length]), (1, .arr 9 1 (a0_0.map aW)), (2, .arr 47 2 (a0_1.map aJ)), (3, .arr 49 3 (a0_2.map aH)), (4, .arr 52 4 (a0_3.map aG)), (5, .box [.bp 0 0])] rfl rfl rfl (Br.t rfl (cu 669 [(4, .int .i64 5)] [(0, .box [.own 1 a0_0.length, .own 2 a0_1.length, .own 3 a0_2.length, .own 4 a0_3.length]), (1, .arr 9 1 (a0_0.map aW)), (2, .arr 47 2 (a0_1.map aJ)), (3, .arr 49 3 (a0_2.map aH)), (4, .arr 52 4 (a0_3.map aG))] rfl rfl rfl ?_)))))))))
  cases H
  exact gL [0, 1, 2, 3, 4] [.box [.own 1 a0_0.length, .own 2 a0_1.length, .own 3 a0_2.length, .own 4 a0_3.length], .arr 9 1 (a0_0.map aW), .arr 47 2 (a0_1.map aJ), .arr 49 3 (a0_2.map aH), .arr 52 4 (a0_3.map aG)] rfl ⟨fL rfl ⟨rfl, ⟨rfl, ⟨rfl, ⟨rfl, trivial⟩⟩⟩⟩, ⟨rfl, ⟨rfl, ⟨rfl, ⟨rfl, trivial⟩⟩⟩⟩⟩ rfl rfl
  refine cu 317 [(1, (aM l1)), (2, .bp 5 0), (7, .int .i64 x7), (77, .str (aV ByteArray.empty l1 0)), (177, .bool (decide ((aV ByteArray.empty l1 0).toList = (⟨#[118, 101, 115, 115, 101, 108]⟩ : ByteArray).toList)))] [(0, .box [.own 1 a0_0.length, .own 2 a0_1.length, .own 3 a0_2.length, .own 4 a0_3.length]), (1, .arr 9 1 (a0_0.map aW)), (2, .arr 47 2 (a0_1.map aJ)), (3, .arr 49 3 (a0_2.map aH)), (4, .arr 52 4 (a0_3.map aG)), (5, .box [.bp 0 0])] rfl rfl rfl (bM H (fun c H => ?_) (fun c H => ?_))
  refine Br.t ft_ (Nd.mk (by decide) (nd_ H (fun c H => (El.mk (aX _ _ nf_ nf_) ?_))))
  revert H; refine aN (fun t9947 A H => (eL (bK.ac A) (bT (fF (bD (fY rfl rfl) (bD (fY rfl rfl) (bD (fY rfl rfl) (bD (fY rfl rfl) (fE)))))) (bT (gD rfl) (eA))) (Or.inr ⟨rfl, kO⟩) rfl rfl (Nat.le_of_ble_eq_true rfl) (cu 421 [(1, (aM l1)), (2, .bp 5 0), (7, .int .i64 x7), (15, .bool t9947.2.2.2)] [(0, .box [.own 1 a0_0.length, .own 2 a0_1.length, .own 3 a0_2.length, .own 4 a0_3.length]), (1, .arr 9 1 (a0_0.map aW)), (2, .arr 47 2 (a0_1.map aJ)), (3, .arr 49 3 (a0_2.map aH)), (4, .arr 52 4 (a0_3.map aG)), (5, .box [.bp 0 0])] rfl rfl rfl (jF H (fun c H => ?_) (fun c H => ?_)))))
  cases H
  exact gL [0, 1, 2, 3, 4] [.box [.own 1 a0_0.length, .own 2 a0_1.length, .own 3 a0_2.length, .own 4 a0_3.length], .arr 9 1 (a0_0.map aW), .arr 47 2 (a0_1.map aJ), .arr 49 3 (a0_2.map aH), .arr 52 4 (a0_3.map aG)] rfl ⟨fL rfl ⟨rfl, ⟨rfl, ⟨rfl, ⟨rfl, trivial⟩⟩⟩⟩, ⟨rfl, ⟨rfl, ⟨rfl, ⟨rfl, trivial⟩⟩⟩⟩⟩ rfl rfl
  refine bM H (fun c H => ?_) (fun c H => ?_)
  cases H
  exact gL [0, 1, 2, 3, 4] [.box [.own 1 a0_0.length, .own 2 a0_1.length, .own 3 a0_2.length, .own 4 a0_3.length], .arr 9 1 (a0_0.map aW), .arr 47 2 (a0_1.map aJ), .arr 49 3 (a0_2.map aH), .arr 52 4 (a0_3.map aG)] rfl ⟨fL rfl ⟨rfl, ⟨rfl, ⟨rfl, ⟨rfl, trivial⟩⟩⟩⟩, ⟨rfl, ⟨rfl, ⟨rfl, ⟨rfl, trivial⟩⟩⟩⟩⟩ rfl rfl
  refine Nd.mk (by decide) (Nd.mk nf_ (El.mk (aX _ _ nf_ nf_) (nd_ H (fun c H => (nd_ H (fun c H => (El.mk (aX _ _ nf_ nf_) (Or.inl (nd_ H (fun c H => (jW 645 [(2, .bp 5 0)] [(0, .box [.own 1 a0_0.length, .own 2 a0_1.length, .own 613 (a0_2.length + 1), .own 4 a0_3.length]), (1, .arr 9 1 (a0_0.map aW)), (2, .arr 47 2 (a0_1.map aJ)), (4, .arr 52 4 (a0_3.map aG)), (5, .box [.bp 0 0]), (613, .arr 49 3 ((a0_2 ++ ([(⟨aV ByteArray.empty l1 1, x7, aV ByteArray.empty l1 (wrap64 ((l1.length : Int) - 1))⟩ : aB)] : List aB)).map aH))] rfl ⟨.inl rfl, trivial⟩ ⟨rfl, ⟨rfl, ⟨rfl, ⟨rfl, ⟨rfl, ⟨fm_, trivial⟩⟩⟩⟩⟩⟩ ?_)))))))))))
  revert H; refine aN (fun t9948 A H => (nG [613, 5, 0, 1, 2, 4] [.arr 49 3 ((a0_2 ++ ([(⟨aV ByteArray.empty l1 1, x7, aV ByteArray.empty l1 (wrap64 ((l1.length : Int) - 1))⟩ : aB)] : List aB)).map aH), .box [.bp 0 0], .box [.own 1 a0_0.length, .own 2 a0_1.length, .own 613 ((a0_2 ++ ([(⟨aV ByteArray.empty l1 1, x7, aV ByteArray.empty l1 (wrap64 ((l1.length : Int) - 1))⟩ : aB)] : List aB)).length), .own 4 a0_3.length], .arr 9 1 (a0_0.map aW), .arr 47 2 (a0_1.map aJ), .arr 52 4 (a0_3.map aG)] [.arr 49 3 (t9948.map aH), .box [.bp 0 0], .box [.own 1 a0_0.length, .own 2 a0_1.length, .own 613 t9948.length, .own 4 a0_3.length], .arr 9 1 (a0_0.map aW), .arr 47 2 (a0_1.map aJ), .arr 52 4 (a0_3.map aG)] (cU.ac (x0 := a0_0) (x1 := a0_1) (x2 := a0_3) A) rfl rfl ⟨rfl, ⟨rfl, ⟨fL rfl ⟨rfl, ⟨rfl, ⟨aHZ rfl lm_, ⟨rfl, trivial⟩⟩⟩⟩, ⟨rfl, ⟨rfl, ⟨rfl, trivial⟩⟩⟩⟩⟩⟩ rfl rfl rfl rfl rfl (gR ⟨aIM rfl lm_, rfl, trivial⟩) rfl rfl (cu 701 [] [(0, .box [.own 1 a0_0.length, .own 2 a0_1.length, .own 613 t9948.length, .own 4 a0_3.length]), (1, .arr 9 1 (a0_0.map aW)), (2, .arr 47 2 (a0_1.map aJ)), (4, .arr 52 4 (a0_3.map aG)), (613, .arr 49 3 (t9948.map aH))] rfl rfl rfl (cu 709 [(4, .int .i64 0)] [(0, .box [.own 1 a0_0.length, .own 2 a0_1.length, .own 613 t9948.length, .own 4 a0_3.length]), (1, .arr 9 1 (a0_0.map aW)), (2, .arr 47 2 (a0_1.map aJ)), (4, .arr 52 4 (a0_3.map aG)), (613, .arr 49 3 (t9948.map aH))] rfl rfl rfl ?_))))
  cases H
  exact gL [0, 1, 2, 613, 4] [.box [.own 1 a0_0.length, .own 2 a0_1.length, .own 613 t9948.length, .own 4 a0_3.length], .arr 9 1 (a0_0.map aW), .arr 47 2 (a0_1.map aJ), .arr 49 3 (t9948.map aH), .arr 52 4 (a0_3.map aG)] rfl ⟨fL rfl ⟨rfl, ⟨rfl, ⟨rfl, ⟨rfl, trivial⟩⟩⟩⟩, ⟨rfl, ⟨rfl, ⟨rfl, ⟨rfl, trivial⟩⟩⟩⟩⟩ rfl rfl
  refine bM H (fun c H => ?_) (fun c H => ?_)
  refine Nd.mk (by decide) (nd_ H (fun c H => (El.mk (aX _ _ nf_ nf_) ?_)))
  revert H; refine aN (fun t9949 A H => (eL (bK.ac A) (bT (fF (bD (fY rfl rfl) (bD (fY rfl rfl) (bD (fY rfl rfl) (bD (fY rfl rfl) (fE)))))) (bT (gD rfl) (eA))) (Or.inr ⟨rfl, kO⟩) rfl rfl (Nat.le_of_ble_eq_true rfl) (cu 437 [(1, (aM l1)), (2, .bp 5 0), (7, .int .i64 x7), (15, .bool t9949.2.2.2)] [(0, .box [.own 1 a0_0.length, .own 2 a0_1.length, .own 3 a0_2.length, .own 4 a0_3.length]), (1, .arr 9 1 (a0_0.map aW)), (2, .arr 47 2 (a0_1.map aJ)), (3, .arr 49 3 (a0_2.map aH)), (4, .arr 52 4 (a0_3.map aG)), (5, .box [.bp 0 0])] rfl rfl rfl (jF H (fun c H => ?_) (fun c H => ?_)))))
  cases H
  exact gL [0, 1, 2, 3, 4] [.box [.own 1 a0_0.length, .own 2 a0_1.length, .own 3 a0_2.length, .own 4 a0_3.length], .arr 9 1 (a0_0.map aW), .arr 47 2 (a0_1.map aJ), .arr 49 3 (a0_2.map aH), .arr 52 4 (a0_3.map aG)] rfl ⟨fL rfl ⟨rfl, ⟨rfl, ⟨rfl, ⟨rfl, trivial⟩⟩⟩⟩, ⟨rfl, ⟨rfl, ⟨rfl, ⟨rfl, trivial⟩⟩⟩⟩⟩ rfl rfl
  refine bM H (fun c H => ?_) (fun c H => ?_)
  cases H
  exact gL [0, 1, 2, 3, 4] [.box [.own 1 a0_0.length, .own 2 a0_1.length, .own 3 a0_2.length, .own 4 a0_3.length], .arr 9 1 (a0_0.map aW), .arr 47 2 (a0_1.map aJ), .arr 49 3 (a0_2.map aH), .arr 52 4 (a0_3.map aG)] rfl ⟨fL rfl ⟨rfl, ⟨rfl, ⟨rfl, ⟨rfl, trivial⟩⟩⟩⟩, ⟨rfl, ⟨rfl, ⟨rfl, ⟨rfl, trivial⟩⟩⟩⟩⟩ rfl rfl
  refine Nd.mk (by decide) (Nd.mk nf_ (El.mk (aX _ _ nf_ nf_) (nd_ H (fun c H => (nd_ H (fun c H => (El.mk (aX _ _ nf_ nf_) (Or.inl (nd_ H (fun c H => (jW 661 [(2, .bp 5 0)] [(0, .box [.own 1 a0_0.length, .own 2 a0_1.length, .own 629 (a0_2.length + 1), .own 4 a0_3.length]), (1, .arr 9 1 (a0_0.map aW)), (2, .arr 47 2 (a0_1.map aJ)), (4, .arr 52 4 (a0_3.map aG)), (5, .box [.bp 0 0]), (629, .arr 49 3 ((a0_2 ++ ([(⟨aV ByteArray.empty l1 1, x7, aV ByteArray.empty l1 (wrap64 ((l1.length : Int) - 1))⟩ : aB)] : List aB)).map aH))] rfl ⟨.inl rfl, trivial⟩ ⟨rfl, ⟨rfl, ⟨rfl, ⟨rfl, ⟨rfl, ⟨fm_, trivial⟩⟩⟩⟩⟩⟩ ?_)))))))))))
  revert H; refine aN (fun t9950 A H => (nG [629, 5, 0, 1, 2, 4] [.arr 49 3 ((a0_2 ++ ([(⟨aV ByteArray.empty l1 1, x7, aV ByteArray.empty l1 (wrap64 ((l1.length : Int) - 1))⟩ : aB)] : List aB)).map aH), .box [.bp 0 0], .box [.own 1 a0_0.length, .own 2 a0_1.length, .own 629 ((a0_2 ++ ([(⟨aV ByteArray.empty l1 1, x7, aV ByteArray.empty l1 (wrap64 ((l1.length : Int) - 1))⟩ : aB)] : List aB)).length), .own 4 a0_3.length], .arr 9 1 (a0_0.map aW), .arr 47 2 (a0_1.map aJ), .arr 52 4 (a0_3.map aG)] [.arr 49 3 (t9950.map aH), .box [.bp 0 0], .box [.own 1 a0_0.length, .own 2 a0_1.length, .own 629 t9950.length, .own 4 a0_3.length], .arr 9 1 (a0_0.map aW), .arr 47 2 (a0_1.map aJ), .arr 52 4 (a0_3.map aG)] (cU.ac (x0 := a0_0) (x1 := a0_1) (x2 := a0_3) A) rfl rfl ⟨rfl, ⟨rfl, ⟨fL rfl ⟨rfl, ⟨rfl, ⟨aHZ rfl lm_, ⟨rfl, trivial⟩⟩⟩⟩, ⟨rfl, ⟨rfl, ⟨rfl, trivial⟩⟩⟩⟩⟩⟩ rfl rfl rfl rfl rfl (gR ⟨aIM rfl lm_, rfl, trivial⟩) rfl rfl (cu 717 [] [(0, .box [.own 1 a0_0.length, .own 2 a0_1.length, .own 629 t9950.length, .own 4 a0_3.length]), (1, .arr 9 1 (a0_0.map aW)), (2, .arr 47 2 (a0_1.map aJ)), (4, .arr 52 4 (a0_3.map aG)), (629, .arr 49 3 (t9950.map aH))] rfl rfl rfl (cu 725 [(4, .int .i64 0)] [(0, .box [.own 1 a0_0.length, .own 2 a0_1.length, .own 629 t9950.length, .own 4 a0_3.length]), (1, .arr 9 1 (a0_0.map aW)), (2, .arr 47 2 (a0_1.map aJ)), (4, .arr 52 4 (a0_3.map aG)), (629, .arr 49 3 (t9950.map aH))] rfl rfl rfl ?_))))
  cases H
  exact gL [0, 1, 2, 629, 4] [.box [.own 1 a0_0.length, .own 2 a0_1.length, .own 629 t9950.length, .own 4 a0_3.length], .arr 9 1 (a0_0.map aW), .arr 47 2 (a0_1.map aJ), .arr 49 3 (t9950.map aH), .arr 52 4 (a0_3.map aG)] rfl ⟨fL rfl ⟨rfl, ⟨rfl, ⟨rfl, ⟨rfl, trivial⟩⟩⟩⟩, ⟨rfl, ⟨rfl, ⟨rfl, ⟨rfl, trivial⟩⟩⟩⟩⟩ rfl rfl
  refine bM H (fun c H => ?_) (fun c H => ?_)
  refine Nd.mk (by decide) (nd_ H (fun c H => (El.mk (aX _ _ nf_ nf_) (Nd.mk (by decide) (nd_ H (fun c H => (El.mk (aX _ _ nf_ nf_) (Nd.mk (by decide) (Nd.mk nf_ (El.mk (aX _ _ nf_ nf_) (Nd.mk (by decide) (Nd.mk nf_ (El.mk (aX _ _ nf_ nf_) (cu 477 [(1, (aM l1)), (2, .bp 5 0), (16, .str (mnS (aV ByteArray.empty l1 2) (aV ByteArray.empty l1 3))), (17, .str (mxS (aV ByteArray.empty l1 2) (aV ByteArray.empty l1 3)))] [(0, .box [.own 1 a0_0.length, .own 2 a0_1.length, .own 3 a0_2.length, .own 4 a0_3.length]), (1, .arr 9 1 (a0_0.map aW)), (2, .arr 47 2 (a0_1.map aJ)), (3, .arr 49 3 (a0_2.map aH)), (4, .arr 52 4 (a0_3.map aG)), (5, .box [.bp 0 0])] rfl rfl rfl ?_))))))))))))))
  revert H; refine aN (fun t9951 A H => (eL (bK.ac A) (bT (fF (bD (fY rfl rfl) (bD (fY rfl rfl) (bD (fY rfl rfl) (bD (fY rfl rfl) (fE)))))) (bT (gD rfl) (eA))) (Or.inr ⟨rfl, kO⟩) rfl rfl (Nat.le_of_ble_eq_true rfl) (cu 565 [(1, (aM l1)), (2, .bp 5 0), (16, .str (mnS (aV ByteArray.empty l1 2) (aV ByteArray.empty l1 3))), (17, .str (mxS (aV ByteArray.empty l1 2) (aV ByteArray.empty l1 3))), (19, .bool t9951.2.2.2)] [(0, .box [.own 1 a0_0.length, .own 2 a0_1.length, .own 3 a0_2.length, .own 4 a0_3.length]), (1, .arr 9 1 (a0_0.map aW)), (2, .arr 47 2 (a0_1.map aJ)), (3, .arr 49 3 (a0_2.map aH)), (4, .arr 52 4 (a0_3.map aG)), (5, .box [.bp 0 0])] rfl rfl rfl ?_)))
  revert H; refine aN (fun t9952 A H => (eL (bK.ac A) (bT (fF (bD (fY rfl rfl) (bD (fY rfl rfl) (bD (fY rfl rfl) (bD (fY rfl rfl) (fE)))))) (bT (gD rfl) (eA))) (Or.inr ⟨rfl, kO⟩) rfl rfl (Nat.le_of_ble_eq_true rfl) (cu 653 [(1, (aM l1)), (2, .bp 5 0), (16, .str (mnS (aV ByteArray.empty l1 2) (aV ByteArray.empty l1 3))), (17, .str (mxS (aV ByteArray.empty l1 2) (aV ByteArray.empty l1 3))), (19, .bool t9951.2.2.2), (21, .bool t9952.2.2.2)] [(0, .box [.own 1 a0_0.length, .own 2 a0_1.length, .own 3 a0_2.length, .own 4 a0_3.length]), (1, .arr 9 1 (a0_0.map aW)), (2, .arr 47 2 (a0_1.map aJ)), (3, .arr 49 3 (a0_2.map aH)), (4, .arr 52 4 (a0_3.map aG)), (5, .box [.bp 0 0])] rfl rfl rfl (Nd.mk (by decide) (nd_ H (fun c H => (El.mk (aX _ _ nf_ nf_) ?_)))))))
  revert H; refine aN (fun t9953 A H => (eL (cM.ac A) (bT (fF (bD (fY rfl rfl) (bD (fY rfl rfl) (bD (fY rfl rfl) (bD (fY rfl rfl) (fE)))))) (bT (gD rfl) (eA))) (Or.inr ⟨rfl, kO⟩) rfl rfl (Nat.le_of_ble_eq_true rfl) (cu 757 [(1, (aM l1)), (2, .bp 5 0), (16, .str (mnS (aV ByteArray.empty l1 2) (aV ByteArray.empty l1 3))), (17, .str (mxS (aV ByteArray.empty l1 2) (aV ByteArray.empty l1 3))), (19, .bool t9951.2.2.2), (21, .bool t9952.2.2.2), (23, .bool t9953.2.2.2.2)] [(0, .box [.own 1 a0_0.length, .own 2 a0_1.length, .own 3 a0_2.length, .own 4 a0_3.length]), (1, .arr 9 1 (a0_0.map aW)), (2, .arr 47 2 (a0_1.map aJ)), (3, .arr 49 3 (a0_2.map aH)), (4, .arr 52 4 (a0_3.map aG)), (5, .box [.bp 0 0])] rfl rfl rfl (bM H (fun c H => ?_) (fun c H => ?_)))))
  cases H
  exact gL [0, 1, 2, 3, 4] [.box [.own 1 a0_0.length, .own 2 a0_1.length, .own 3 a0_2.length, .own 4 a0_3.length], .arr 9 1 (a0_0.map aW), .arr 47 2 (a0_1.map aJ), .arr 49 3 (a0_2.map aH), .arr 52 4 (a0_3.map aG)] rfl ⟨fL rfl ⟨rfl, ⟨rfl, ⟨rfl, ⟨rfl, trivial⟩⟩⟩⟩, ⟨rfl, ⟨rfl, ⟨rfl, ⟨rfl, trivial⟩⟩⟩⟩⟩ rfl rfl
  refine jF H (fun c H => ?_) (fun c H => ?_)
  cases H
  exact gL [0, 1, 2, 3, 4] [.box [.own 1 a0_0.length, .own 2 a0_1.length, .own 3 a0_2.length, .own 4 a0_3.length], .arr 9 1 (a0_0.map aW), .arr 47 2 (a0_1.map aJ), .arr 49 3 (a0_2.map aH), .arr 52 4 (a0_3.map aG)] rfl ⟨fL rfl ⟨rfl, ⟨rfl, ⟨rfl, ⟨rfl, trivial⟩⟩⟩⟩, ⟨rfl, ⟨rfl, ⟨rfl, ⟨rfl, trivial⟩⟩⟩⟩⟩ rfl rfl
  refine dM H (fun c H => ?_) (fun c H => ?_)
  refine Br.f ff_ (Br.f ff_ (cu 861 [(1, (aM l1)), (2, .bp 5 0), (16, .str (mnS (aV ByteArray.empty l1 2) (aV ByteArray.empty l1 3))), (17, .str (mxS (aV ByteArray.empty l1 2) (aV ByteArray.empty l1 3))), (272, .bool (!t9952.2.2.2))] [(0, .box [.own 1 a0_0.length, .own 2 a0_1.length, .own 3 a0_2.length, .own 4 a0_3.length]), (1, .arr 9 1 (a0_0.map aW)), (2, .arr 47 2 (a0_1.map aJ)), (3, .arr 49 3 (a0_2.map aH)), (4, .arr 52 4 (a0_3.map aG)), (5, .box [.bp 0 0])] rfl rfl rfl (dM H (fun c H => ?_) (fun c H => ?_))))
  refine cu 917 [(1, (aM l1)), (2, .bp 5 0), (16, .str (mnS (aV ByteArray.empty l1 2) (aV ByteArray.empty l1 3))), (17, .str (mxS (aV ByteArray.empty l1 2) (aV ByteArray.empty l1 3))), (279, .bool (decide ((a0_3.length : Int) ≥ 18)))] [(0, .box [.own 1 a0_0.length, .own 2 a0_1.length, .own 3 a0_2.length, .own 4 a0_3.length]), (1, .arr 9 1 (a0_0.map aW)), (2, .arr 47 2 (a0_1.map aJ)), (3, .arr 49 3 (a0_2.map aH)), (4, .arr 52 4 (a0_3.map aG)), (5, .box [.bp 0 0])] rfl rfl rfl (bM H (fun c H => ?_) (fun c H => ?_))
  cases H
  exact gL [0, 1, 2, 3, 4] [.box [.own 1 a0_0.length, .own 2 a0_1.length, .own 3 a0_2.length, .own 4 a0_3.length], .arr 9 1 (a0_0.map aW), .arr 47 2 (a0_1.map aJ), .arr 49 3 (a0_2.map aH), .arr 52 4 (a0_3.map aG)] rfl ⟨fL rfl ⟨rfl, ⟨rfl, ⟨rfl, ⟨rfl, trivial⟩⟩⟩⟩, ⟨rfl, ⟨rfl, ⟨rfl, ⟨rfl, trivial⟩⟩⟩⟩⟩ rfl rfl
  refine Nd.mk (by decide) (Nd.mk nf_ (El.mk (aX _ _ nf_ nf_) (Nd.mk (by decide) (nd_ H (fun c H => (El.mk (aX _ _ nf_ nf_) (Or.inl (nd_ H (fun c H => (jW 1069 [(2, .bp 5 0)] [(0, .box [.own 1 a0_0.length, .own 2 a0_1.length, .own 3 a0_2.length, .own 1037 (a0_3.length + 1)]), (1, .arr 9 1 (a0_0.map aW)), (2, .arr 47 2 (a0_1.map aJ)), (3, .arr 49 3 (a0_2.map aH)), (5, .box [.bp 0 0]), (1037, .arr 52 4 ((a0_3 ++ ([(⟨aV ByteArray.empty l1 1, mnS (aV ByteArray.empty l1 2) (aV ByteArray.empty l1 3), mxS (aV ByteArray.empty l1 2) (aV ByteArray.empty l1 3), aV ByteArray.empty l1 4⟩ : aA)] : List aA)).map aG))] rfl ⟨.inl rfl, trivial⟩ ⟨rfl, ⟨rfl, ⟨rfl, ⟨rfl, ⟨rfl, ⟨fm_, trivial⟩⟩⟩⟩⟩⟩ ?_))))))))))
  revert H; refine aN (fun t9954 A H => (nG [1037, 5, 0, 1, 2, 3] [.arr 52 4 ((a0_3 ++ ([(⟨aV ByteArray.empty l1 1, mnS (aV ByteArray.empty l1 2) (aV ByteArray.empty l1 3), mxS (aV ByteArray.empty l1 2) (aV ByteArray.empty l1 3), aV ByteArray.empty l1 4⟩ : aA)] : List aA)).map aG), .box [.bp 0 0], .box [.own 1 a0_0.length, .own 2 a0_1.length, .own 3 a0_2.length, .own 1037 ((a0_3 ++ ([(⟨aV ByteArray.empty l1 1, mnS (aV ByteArray.empty l1 2) (aV ByteArray.empty l1 3), mxS (aV ByteArray.empty l1 2) (aV ByteArray.empty l1 3), aV ByteArray.empty l1 4⟩ : aA)] : List aA)).length)], .arr 9 1 (a0_0.map aW), .arr 47 2 (a0_1.map aJ), .arr 49 3 (a0_2.map aH)] [.arr 52 4 (t9954.map aG), .box [.bp 0 0], .box [.own 1 a0_0.length, .own 2 a0_1.length, .own 3 a0_2.length, .own 1037 t9954.length], .arr 9 1 (a0_0.map aW), .arr 47 2 (a0_1.map aJ), .arr 49 3 (a0_2.map aH)] (dA.ac (x0 := a0_0) (x1 := a0_1) (x2 := a0_2) A) rfl rfl ⟨rfl, ⟨rfl, ⟨fL rfl ⟨rfl, ⟨rfl, ⟨rfl, ⟨aHZ rfl lm_, trivial⟩⟩⟩⟩, ⟨rfl, ⟨rfl, ⟨rfl, trivial⟩⟩⟩⟩⟩⟩ rfl rfl rfl rfl rfl (gR ⟨aIM rfl lm_, rfl, trivial⟩) rfl rfl (cu 1125 [] [(0, .box [.own 1 a0_0.length, .own 2 a0_1.length, .own 3 a0_2.length, .own 1037 t9954.length]), (1, .arr 9 1 (a0_0.map aW)), (2, .arr 47 2 (a0_1.map aJ)), (3, .arr 49 3 (a0_2.map aH)), (1037, .arr 52 4 (t9954.map aG))] rfl rfl rfl (cu 1133 [(4, .int .i64 0)] [(0, .box [.own 1 a0_0.length, .own 2 a0_1.length, .own 3 a0_2.length, .own 1037 t9954.length]), (1, .arr 9 1 (a0_0.map aW)), (2, .arr 47 2 (a0_1.map aJ)), (3, .arr 49 3 (a0_2.map aH)), (1037, .arr 52 4 (t9954.map aG))] rfl rfl rfl ?_))))
  cases H
  exact gL [0, 1, 2, 3, 1037] [.box [.own 1 a0_0.length, .own 2 a0_1.length, .own 3 a0_2.length, .own 1037 t9954.length], .arr 9 1 (a0_0.map aW), .arr 47 2 (a0_1.map aJ), .arr 49 3 (a0_2.map aH), .arr 52 4 (t9954.map aG)] rfl ⟨fL rfl ⟨rfl, ⟨rfl, ⟨rfl, ⟨rfl, trivial⟩⟩⟩⟩, ⟨rfl, ⟨rfl, ⟨rfl, ⟨rfl, trivial⟩⟩⟩⟩⟩ rfl rfl
  refine cu 869 [(4, .int .i64 5)] [(0, .box [.own 1 a0_0.length, .own 2 a0_1.length, .own 3 a0_2.length, .own 4 a0_3.length]), (1, .arr 9 1 (a0_0.map aW)), (2, .arr 47 2 (a0_1.map aJ)), (3, .arr 49 3 (a0_2.map aH)), (4, .arr 52 4 (a0_3.map aG))] rfl rfl rfl ?_
  cases H
  exact gL [0, 1, 2, 3, 4] [.box [.own 1 a0_0.length, .own 2 a0_1.length, .own 3 a0_2.length, .own 4 a0_3.length], .arr 9 1 (a0_0.map aW), .arr 47 2 (a0_1.map aJ), .arr 49 3 (a0_2.map aH), .arr 52 4 (a0_3.map aG)] rfl ⟨fL rfl ⟨rfl, ⟨rfl, ⟨rfl, ⟨rfl, trivial⟩⟩⟩⟩, ⟨rfl, ⟨rfl, ⟨rfl, ⟨rfl, trivial⟩⟩⟩⟩⟩ rfl rfl
  refine Br.t ft_ (Br.t ft_ (cu 861 [(1, (aM l1)), (2, .bp 5 0), (16, .str (mnS (aV ByteArray.empty l1 2) (aV ByteArray.empty l1 3))), (17, .str (mxS (aV ByteArray.empty l1 2) (aV ByteArray.empty l1 3))), (272, .bool true)] [(0, .box [.own 1 a0_0.length, .own 2 a0_1.length, .own 3 a0_2.length, .own 4 a0_3.length]), (1, .arr 9 1 (a0_0.map aW)), (2, .arr 47 2 (a0_1.map aJ)), (3, .arr 49 3 (a0_2.map aH)), (4, .arr 52 4 (a0_3.map aG)), (5, .box [.bp 0 0])] rfl rfl rfl (Br.t rfl (cu 869 [(4, .int .i64 5)] [(0, .box [.own 1 a0_0.length, .own 2 a0_1.length, .own 3 a0_2.length, .own 4 a0_3.length]), (1, .arr 9 1 (a0_0.map aW)), (2, .arr 47 2 (a0_1.map aJ)), (3, .arr 49 3 (a0_2.map aH)), (4, .arr 52 4 (a0_3.map aG))] rfl rfl rfl ?_))))
  cases H
  exact gL [0, 1, 2, 3, 4] [.box [.own 1 a0_0.length, .own 2 a0_1.length, .own 3 a0_2.length, .own 4 a0_3.length], .arr 9 1 (a0_0.map aW), .arr 47 2 (a0_1.map aJ), .arr 49 3 (a0_2.map aH), .arr 52 4 (a0_3.map aG)] rfl ⟨fL rfl ⟨rfl, ⟨rfl, ⟨rfl, ⟨rfl, trivial⟩⟩⟩⟩, ⟨rfl, ⟨rfl, ⟨rfl, ⟨rfl, trivial⟩⟩⟩⟩⟩ rfl rfl
  refine cu 349 [] [(0, .box [.own 1 a0_0.length, .own 2 a0_1.length, .own 3 a0_2.length, .own 4 a0_3.length]), (1, .arr 9 1 (a0_0.map aW)), (2, .arr 47 2 (a0_1.map aJ)), (3, .arr 49 3 (a0_2.map aH)), (4, .arr 52 4 (a0_3.map aG))] rfl rfl rfl (cu 357 [(4, .int .i64 0)] [(0, .box [.own 1 a0_0.length, .own 2 a0_1.length, .own 3 a0_2.length, .own 4 a0_3.length]), (1, .arr 9 1 (a0_0.map aW)), (2, .arr 47 2 (a0_1.map aJ)), (3, .arr 49 3 (a0_2.map aH)), (4, .arr 52 4 (a0_3.map aG))] rfl rfl rfl ?_)
  cases H
  exact gL [0, 1, 2, 3, 4] [.box [.own 1 a0_0.length, .own 2 a0_1.length, .own 3 a0_2.length, .own 4 a0_3.length], .arr 9 1 (a0_0.map aW), .arr 47 2 (a0_1.map aJ), .arr 49 3 (a0_2.map aH), .arr 52 4 (a0_3.map aG)] rfl ⟨fL rfl ⟨rfl, ⟨rfl, ⟨rfl, ⟨rfl, trivial⟩⟩⟩⟩, ⟨rfl, ⟨rfl, ⟨rfl, ⟨rfl, trivial⟩⟩⟩⟩⟩ rfl rfl
  cases H
  exact gL [0, 1, 2, 3, 4] [.box [.own 1 a0_0.length, .own 2 a0_1.length, .own 3 a0_2.length, .own 4 a0_3.length], .arr 9 1 (a0_0.map aW), .arr 47 2 (a0_1.map aJ), .arr 49 3 (a0_2.map aH), .arr 52 4 (a0_3.map aG)] rfl ⟨fL rfl ⟨rfl, ⟨rfl, ⟨rfl, ⟨rfl, trivial⟩⟩⟩⟩, ⟨rfl, ⟨rfl, ⟨rfl, ⟨rfl, trivial⟩⟩⟩⟩⟩ rfl rfl
  cases H
  exact gL [0, 1, 2, 3, 4] [.box [.own 1 a0_0.length, .own 2 a0_1.length, .own 3 a0_2.length, .own 4 a0_3.length], .arr 9 1 (a0_0.map aW), .arr 47 2 (a0_1.map aJ), .arr 49 3 (a0_2.map aH), .arr 52 4 (a0_3.map aG)] rfl ⟨fL rfl ⟨rfl, ⟨rfl, ⟨rfl, ⟨rfl, trivial⟩⟩⟩⟩, ⟨rfl, ⟨rfl, ⟨rfl, ⟨rfl, trivial⟩⟩⟩⟩⟩ rfl rfl
theorem cQ.l0_lp {F : (Exit → St → Prop) → St → Prop} {hv : List Tmp} {Q : Exit → St → Prop} {σ : St} {r : (List ByteArray) × (List aC) × (List aB) × (List aA) × Int × Int} {k : Nat} {t9956 : List ByteArray} {x25 : Int} {x1104000 : List ByteArray} {x1104001 : List aC} {x1104002 : List aB} {x1104003 : List aA} (H : cQ.l0 k x25 x1104000 x1104001 x1104002 x1104003 t9956 = some r) (rn : List (Option Nat)) (h1 : cJ σ σ [104] [(25, .int .i64 x25)] [(104, .box [.own 0 x1104000.length, .own 1 x1104001.length, .own 2 x1104002.length, .own 3 x1104003.length])] [.arr 9 1 (x1104000.map aW), .arr 47 2 (x1104001.map aJ), .arr 49 3 (x1104002.map aH), .arr 52 4 (x1104003.map aG)] rn)
    (h2 : ∀ (k0 : Nat) (x25 : Int) (x1104000 : List ByteArray) (x1104001 : List aC) (x1104002 : List aB) (x1104003 : List aA), k0 < k + 1 → cQ.l0 k0 x25 x1104000 x1104001 x1104002 x1104003 t9956 = some r → dE σ hv [104] [(25, .int .i64 x25)] [(104, .box [.own 0 x1104000.length, .own 1 x1104001.length, .own 2 x1104002.length, .own 3 x1104003.length])] [.arr 9 1 (x1104000.map aW), .arr 47 2 (x1104001.map aJ), .arr 49 3 (x1104002.map aH), .arr 52 4 (x1104003.map aG)] (F (fun e σ' => match e with | .normal => ∃ (y : Nat × Int × (List ByteArray) × (List aC) × (List aB) × (List aA)) (rn : List (Option Nat)), (cQ.l0 y.1 y.2.1 y.2.2.1 y.2.2.2.1 y.2.2.2.2.1 y.2.2.2.2.2 t9956 = some r ∧ y.1 < k + 1) ∧ y.1 < k0 ∧ cJ σ σ' [104] [(25, .int .i64 y.2.1)] [(104, .box [.own 0 y.2.2.1.length, .own 1 y.2.2.2.1.length, .own 2 y.2.2.2.2.1.length, .own 3 y.2.2.2.2.2.length])] [.arr 9 1 (y.2.2.1.map aW), .arr 47 2 (y.2.2.2.1.map aJ), .arr 49 3 (y.2.2.2.2.1.map aH), .arr 52 4 (y.2.2.2.2.2.map aG)] rn | e => Q e σ'))) : Lp F hv Q σ := by
  unfold Lp
  refine ⟨Nat × Int × (List ByteArray) × (List aC) × (List aB) × (List aA), fun x => cQ.l0 x.1 x.2.1 x.2.2.1 x.2.2.2.1 x.2.2.2.2.1 x.2.2.2.2.2 t9956 = some r ∧ x.1 < k + 1, fun x => x.1, [104], fun x => [(25, .int .i64 x.2.1)], fun x => [(104, .box [.own 0 x.2.2.1.length, .own 1 x.2.2.2.1.length, .own 2 x.2.2.2.2.1.length, .own 3 x.2.2.2.2.2.length])], fun x => [.arr 9 1 (x.2.2.1.map aW), .arr 47 2 (x.2.2.2.1.map aJ), .arr 49 3 (x.2.2.2.2.1.map aH), .arr 52 4 (x.2.2.2.2.2.map aG)], ⟨(k, x25, x1104000, x1104001, x1104002, x1104003), rn, ⟨H, Nat.lt_succ_self _⟩, h1⟩, ?_⟩
  rintro ⟨k, x25, x1104000, x1104001, x1104002, x1104003⟩ ⟨H, hk⟩
  exact h2 k x25 x1104000 x1104001 x1104002 x1104003 hk H
theorem cQ.ac [GvOk G] {k : Nat} {a0 : ByteArray} {r : (List ByteArray) × (List aC) × (List aB) × (List aA) × Int × Int} (H : cQ.f k a0 = some r) : cI Tryz.prog G 10 [] [.str a0] [] (.tup [.agg [(aM r.1), (aF r.2.1), (aD r.2.2.1), (aE r.2.2.2.1)], .agg [.int .i64 r.2.2.2.2.1, .int .i64 r.2.2.2.2.2]]) := by
  refine bO tok hP Tryz.func10 rfl (by kernel_rfl) [.cell 2 28, .cell 3 33] rfl (by kernel_rfl) (Nat.le_of_ble_eq_true rfl) (.l .n (.l .n (.l (.c .n (.l (.c .n .n) .n)) (.l .n (.l (.l .n (.l .n (.l .n (.l (.c .n (.l .n (.l .n (.l (.c .n .n) (.l .n (.l (.c .n .n) .n)))))) .n)))) .n))))) rfl ?_
  unfold cQ.f at H
  revert H; refine aN (fun t9956 A H => (cmk (gQ.ac A) rfl rfl (bM H (fun c H => ?_) (fun c H => ?_))))
  refine Br.t ft_ (Br.t ft_ (Br.t ft_ (cu 104 [(2, .bp 0 0), (3, .bp 8 0), (4, (aM t9956)), (20, .bool true)] [(0, .box [.nil, .nil, .nil, .nil]), (8, .box [.int .i64 0, .int .i64 0])] rfl rfl rfl (Br.t rfl (cu 136 [(2, .bp 0 0), (3, .bp 8 0)] [(0, .box [.nil, .nil, .nil, .nil]), (8, .box [.int .i64 0, .int .i64 7])] rfl rfl rfl ?_)))))
  cases H
  exact eY [] (cF (fM (bH (iT) (bH (iT) (bH (iT) (bH (iT) (fN)))))) (cF (rta rfl) (eJ)))
  refine Br.f ff_ (Br.f ff_ (Br.f ff_ (cu 104 [(2, .bp 0 0), (3, .bp 8 0), (4, (aM t9956)), (20, .bool (decide ((t9956.length : Int) > 200)))] [(0, .box [.nil, .nil, .nil, .nil]), (8, .box [.int .i64 0, .int .i64 0])] rfl rfl rfl (bM H (fun c H => ?_) (fun c H => ?_)))))
  refine cu 136 [(2, .bp 0 0), (3, .bp 8 0)] [(0, .box [.nil, .nil, .nil, .nil]), (8, .box [.int .i64 0, .int .i64 7])] rfl rfl rfl ?_
  cases H
  exact eY [] (cF (fM (bH (iT) (bH (iT) (bH (iT) (bH (iT) (fN)))))) (cF (rta rfl) (eJ)))
  refine cQ.l0_lp (t9956 := t9956) (k := k) H [none, none, none, none] (bX ⟨.inl ⟨rfl, rfl⟩, trivial⟩ ⟨rfl, ⟨rfl, ⟨rfl, ⟨rfl, trivial⟩⟩⟩⟩ fi_ ⟨⟨_, rfl⟩, ⟨_, rfl, ⟨⟨rfl, rfl⟩, ⟨⟨rfl, rfl⟩, ⟨⟨rfl, rfl⟩, ⟨⟨rfl, rfl⟩, trivial⟩⟩⟩⟩⟩, trivial⟩ rfl) ?_
  intro k x25 x1104000 x1104001 x1104002 x1104003 hk H; rcases k with _ | k; exact bC H; rw [cQ.l0] at H
  refine bM H (fun c H => ?_) (fun c H => ?_)
  refine nd_ H (fun c H => (Nd.mk nf_ (El.mk (aX _ _ nf_ nf_) (cu 188 [(2, .bp 0 0), (3, .bp 8 0), (5, .bp 104 0), (6, .int .i64 x25), (7, .str (aV ByteArray.empty t9956 x25)), (23, (aM t9956)), (24, .int .i64 (t9956.length : Int)), (25, .int .i64 x25)] [(0, .box [.nil, .nil, .nil, .nil]), (8, .box [.int .i64 0, .int .i64 0]), (104, .box [.own 136 x1104000.length, .own 137 x1104001.length, .own 138 x1104002.length, .own 139 x1104003.length]), (136, .arr 9 1 (x1104000.map aW)), (137, .arr 47 2 (x1104001.map aJ)), (138, .arr 49 3 (x1104002.map aH)), (139, .arr 52 4 (x1104003.map aG))] rfl rfl rfl ?_))))
  revert H; refine aN (fun t9965 A H => (cmk (fD.ac A) rfl rfl (cu 268 [(2, .bp 0 0), (3, .bp 8 0), (5, .bp 104 0), (6, .int .i64 x25), (8, (aM t9965.1)), (10, .int .i64 0), (23, (aM t9956)), (24, .int .i64 (t9956.length : Int)), (25, .int .i64 x25), (36, .bool (!t9965.2))] [(0, .box [.nil, .nil, .nil, .nil]), (8, .box [.int .i64 0, .int .i64 0]), (104, .box [.own 136 x1104000.length, .own 137 x1104001.length, .own 138 x1104002.length, .own 139 x1104003.length]), (136, .arr 9 1 (x1104000.map aW)), (137, .arr 47 2 (x1104001.map aJ)), (138, .arr 49 3 (x1104002.map aH)), (139, .arr 52 4 (x1104003.map aG))] rfl rfl rfl (dM H (fun c H => ?_) (fun c H => ?_)))))
  refine bM H (fun c H => ?_) (fun c H => ?_)
  revert H; refine aN (fun t9966 A H => (nG [104, 136, 137, 138, 139] [.box [.own 136 x1104000.length, .own 137 x1104001.length, .own 138 x1104002.length, .own 139 x1104003.length], .arr 9 1 (x1104000.map aW), .arr 47 2 (x1104001.map aJ), .arr 49 3 (x1104002.map aH), .arr 52 4 (x1104003.map aG)] [.box [.own 300 t9966.2.1.length, .own 301 t9966.2.2.1.length, .own 302 t9966.2.2.2.1.length, .own 303 t9966.2.2.2.2.length], .arr 9 1 (t9966.2.1.map aW), .arr 47 2 (t9966.2.2.1.map aJ), .arr 49 3 (t9966.2.2.2.1.map aH), .arr 52 4 (t9966.2.2.2.2.map aG)] (cY.ac A) rfl rfl ⟨fL rfl ⟨rfl, ⟨rfl, ⟨rfl, ⟨rfl, trivial⟩⟩⟩⟩, ⟨rfl, ⟨rfl, ⟨rfl, ⟨rfl, trivial⟩⟩⟩⟩⟩ rfl rfl rfl rfl rfl rfl rfl rfl (iI H (fun c H => ?_) (fun c H => ?_))))
  exact ⟨(k, wrap64 (x25 + 1), t9966.2.1, t9966.2.2.1, t9966.2.2.2.1, t9966.2.2.2.2), [some 300, some 301, some 302, some 303], ⟨H, lt_⟩, lt_, (bX ⟨.inl ⟨rfl, rfl⟩, trivial⟩ ⟨rfl, ⟨rfl, ⟨rfl, ⟨rfl, trivial⟩⟩⟩⟩ fi_ ⟨⟨_, rfl⟩, ⟨_, rfl, ⟨rfl, ⟨rfl, ⟨rfl, ⟨rfl, trivial⟩⟩⟩⟩⟩, trivial⟩ rfl)⟩
  refine cu 388 [(2, .bp 0 0), (3, .bp 8 0)] [(0, .box [.nil, .nil, .nil, .nil]), (8, .box [.int .i64 (wrap64 (x25 + 1)), .int .i64 t9966.1])] rfl rfl rfl ?_
  cases H
  exact eY [] (cF (fM (bH (iT) (bH (iT) (bH (iT) (bH (iT) (fN)))))) (cF (rta rfl) (eJ)))
  refine Br.f (by decide) (⟨(k, wrap64 (x25 + 1), x1104000, x1104001, x1104002, x1104003), [some 136, some 137, some 138, some 139], ⟨H, lt_⟩, lt_, (bX ⟨.inl ⟨rfl, rfl⟩, trivial⟩ ⟨rfl, ⟨rfl, ⟨rfl, ⟨rfl, trivial⟩⟩⟩⟩ fi_ ⟨⟨_, rfl⟩, ⟨_, rfl, ⟨rfl, ⟨rfl, ⟨rfl, ⟨rfl, trivial⟩⟩⟩⟩⟩, trivial⟩ rfl)⟩)
  refine Br.t (by decide) (cu 348 [(2, .bp 0 0), (3, .bp 8 0)] [(0, .box [.nil, .nil, .nil, .nil]), (8, .box [.int .i64 (wrap64 (x25 + 1)), .int .i64 1])] rfl rfl rfl ?_)
  cases H
  exact eY [] (cF (fM (bH (iT) (bH (iT) (bH (iT) (bH (iT) (fN)))))) (cF (rta rfl) (eJ)))
  cases H
  exact eY [136, 137, 138, 139] (cF (fM (bH (nD rfl rfl) (bH (nD rfl rfl) (bH (nD rfl rfl) (bH (nD rfl rfl) (fN)))))) (cF (rta rfl) (eJ)))
theorem dO.l0_lp {F : (Exit → St → Prop) → St → Prop} {hv : List Tmp} {Q : Exit → St → Prop} {σ : St} {r : Bool} {k : Nat} {l0 : List ByteArray} {l1 : List ByteArray} {x5 : Int} (H : dO.l0 k l0 l1 x5 = some r) (rn : List (Option Nat)) (h1 : cJ σ σ [] [(5, .int .i64 x5)] [] [] rn)
    (h2 : ∀ (k0 : Nat) (x5 : Int), k0 < k + 1 → dO.l0 k0 l0 l1 x5 = some r → dE σ hv [] [(5, .int .i64 x5)] [] [] (F (fun e σ' => match e with | .normal => ∃ (y : Nat × Int) (rn : List (Option Nat)), (dO.l0 y.1 l0 l1 y.2 = some r ∧ y.1 < k + 1) ∧ y.1 < k0 ∧ cJ σ σ' [] [(5, .int .i64 y.2)] [] [] rn | e => Q e σ'))) : Lp F hv Q σ := by
  unfold Lp
  refine ⟨Nat × Int, fun x => dO.l0 x.1 l0 l1 x.2 = some r ∧ x.1 < k + 1, fun x => x.1, [], fun x => [(5, .int .i64 x.2)], fun x => [], fun x => [], ⟨(k, x5), rn, ⟨H, Nat.lt_succ_self _⟩, h1⟩, ?_⟩
  rintro ⟨k, x5⟩ ⟨H, hk⟩
  exact h2 k x5 hk H
theorem dO.ac {k : Nat} {l0 : List ByteArray} {l1 : List ByteArray} {r : Bool} (H : dO.f k l0 l1 = some r) : cI Tryz.prog G 33 [] [(aM l0), (aM l1)] [] (.bool r) := by
  refine bO tok hP Tryz.func33 rfl (by kernel_rfl) [.tmp 4] rfl (by kernel_rfl) (Nat.le_of_ble_eq_true rfl) (.l .n (.l .n (.l (.l .n (.l (.c .n .n) (.l (.l .n (.l (.c .n .n) .n)) .n))) .n))) rfl ?_
  unfold dO.f at H
  refine iI H (fun c H => ?_) (fun c H => ?_)
  refine dO.l0_lp (l0 := l0) (l1 := l1) (k := k) H [] (fq rfl rfl fi_ rfl) ?_
  intro k x5 hk H; rcases k with _ | k; exact bC H; rw [dO.l0] at H
  refine cu 88 [(0, (aM l0)), (1, (aM l1)), (5, .int .i64 x5), (14, .bool (decide (x5 < (l0.length : Int))))] [] rfl rfl rfl (bM H (fun c H => ?_) (fun c H => ?_))
  refine nd_ H (fun c H => (Nd.mk nf_ (El.mk (aX _ _ nf_ nf_) (Nd.mk nf_ (nd_ H (fun c H => (El.mk (aX _ _ nf_ nf_) (iI H (fun c H => ?_) (fun c H => ?_)))))))))
  exact ⟨(k, wrap64 (x5 + 1)), [], ⟨H, lt_⟩, lt_, (fq rfl rfl fi_ rfl)⟩
  refine cu 168 [(4, .bool false)] [] rfl rfl rfl ?_
  cases H
  exact rz rfl
  cases H
  exact rz rfl
  cases H
  exact rz rfl
theorem bE.l2_lp {F : (Exit → St → Prop) → St → Prop} {hv : List Tmp} {Q : Exit → St → Prop} {σ : St} {r : Bool} {k : Nat} {a0_3 : List aA} {a1_3 : List aA} {x7 : Int} (H : bE.l2 k a0_3 a1_3 x7 = some r) (rn : List (Option Nat)) (h1 : cJ σ σ [] [(7, .int .i64 x7)] [] [] rn)
    (h2 : ∀ (k0 : Nat) (x7 : Int), k0 < k + 1 → bE.l2 k0 a0_3 a1_3 x7 = some r → dE σ hv [] [(7, .int .i64 x7)] [] [] (F (fun e σ' => match e with | .normal => ∃ (y : Nat × Int) (rn : List (Option Nat)), (bE.l2 y.1 a0_3 a1_3 y.2 = some r ∧ y.1 < k + 1) ∧ y.1 < k0 ∧ cJ σ σ' [] [(7, .int .i64 y.2)] [] [] rn | e => Q e σ'))) : Lp F hv Q σ := by
  unfold Lp
  refine ⟨Nat × Int, fun x => bE.l2 x.1 a0_3 a1_3 x.2 = some r ∧ x.1 < k + 1, fun x => x.1, [], fun x => [(7, .int .i64 x.2)], fun x => [], fun x => [], ⟨(k, x7), rn, ⟨H, Nat.lt_succ_self _⟩, h1⟩, ?_⟩
  rintro ⟨k, x7⟩ ⟨H, hk⟩
  exact h2 k x7 hk H
theorem bE.l1_lp {F : (Exit → St → Prop) → St → Prop} {hv : List Tmp} {Q : Exit → St → Prop} {σ : St} {r : Bool} {k : Nat} {a0_2 : List aB} {a0_3 : List aA} {a1_2 : List aB} {a1_3 : List aA} {x6 : Int} (H : bE.l1 k a0_2 a0_3 a1_2 a1_3 x6 = some r) (rn : List (Option Nat)) (h1 : cJ σ σ [] [(6, .int .i64 x6)] [] [] rn)
    (h2 : ∀ (k0 : Nat) (x6 : Int), k0 < k + 1 → bE.l1 k0 a0_2 a0_3 a1_2 a1_3 x6 = some r → dE σ hv [] [(6, .int .i64 x6)] [] [] (F (fun e σ' => match e with | .normal => ∃ (y : Nat × Int) (rn : List (Option Nat)), (bE.l1 y.1 a0_2 a0_3 a1_2 a1_3 y.2 = some r ∧ y.1 < k + 1) ∧ y.1 < k0 ∧ cJ σ σ' [] [(6, .int .i64 y.2)] [] [] rn | e => Q e σ'))) : Lp F hv Q σ := by
  unfold Lp
  refine ⟨Nat × Int, fun x => bE.l1 x.1 a0_2 a0_3 a1_2 a1_3 x.2 = some r ∧ x.1 < k + 1, fun x => x.1, [], fun x => [(6, .int .i64 x.2)], fun x => [], fun x => [], ⟨(k, x6), rn, ⟨H, Nat.lt_succ_self _⟩, h1⟩, ?_⟩
  rintro ⟨k, x6⟩ ⟨H, hk⟩
  exact h2 k x6 hk H
theorem bE.l0_lp {F : (Exit → St → Prop) → St → Prop} {hv : List Tmp} {Q : Exit → St → Prop} {σ : St} {r : Bool} {k : Nat} {a0_1 : List aC} {a0_2 : List aB} {a0_3 : List aA} {a1_1 : List aC} {a1_2 : List aB} {a1_3 : List aA} {x5 : Int} (H : bE.l0 k a0_1 a0_2 a0_3 a1_1 a1_2 a1_3 x5 = some r) (rn : List (Option Nat)) (h1 : cJ σ σ [] [(5, .int .i64 x5)] [] [] rn)
    (h2 : ∀ (k0 : Nat) (x5 : Int), k0 < k + 1 → bE.l0 k0 a0_1 a0_2 a0_3 a1_1 a1_2 a1_3 x5 = some r → dE σ hv [] [(5, .int .i64 x5)] [] [] (F (fun e σ' => match e with | .normal => ∃ (y : Nat × Int) (rn : List (Option Nat)), (bE.l0 y.1 a0_1 a0_2 a0_3 a1_1 a1_2 a1_3 y.2 = some r ∧ y.1 < k + 1) ∧ y.1 < k0 ∧ cJ σ σ' [] [(5, .int .i64 y.2)] [] [] rn | e => Q e σ'))) : Lp F hv Q σ := by
  unfold Lp
  refine ⟨Nat × Int, fun x => bE.l0 x.1 a0_1 a0_2 a0_3 a1_1 a1_2 a1_3 x.2 = some r ∧ x.1 < k + 1, fun x => x.1, [], fun x => [(5, .int .i64 x.2)], fun x => [], fun x => [], ⟨(k, x5), rn, ⟨H, Nat.lt_succ_self _⟩, h1⟩, ?_⟩
  rintro ⟨k, x5⟩ ⟨H, hk⟩
  exact h2 k x5 hk H
theorem bE.ac {k : Nat} {a0_0 : List ByteArray} {a0_1 : List aC} {a0_2 : List aB} {a0_3 : List aA} {a1_0 : List ByteArray} {a1_1 : List aC} {a1_2 : List aB} {a1_3 : List aA} {r : Bool} (H : bE.f k a0_0 a0_1 a0_2 a0_3 a1_0 a1_1 a1_2 a1_3 = some r) : cI Tryz.prog G 11 [] [.agg [(aM a0_0), (aF a0_1), (aD a0_2), (aE a0_3)], .agg [(aM a1_0), (aF a1_1), (aD a1_2), (aE a1_3)]] [] (.bool r) := by
  refine bO tok hP Tryz.func11 rfl (by kernel_rfl) [.tmp 4] rfl (by kernel_rfl) (Nat.le_of_ble_eq_true rfl) (.l .n (.l (.c .n (.l (.c .n .n) .n)) (.l (.c .n (.l .n (.l (.c .n .n) .n))) (.l (.l .n (.l (.c .n .n) (.l (.c .n .n) .n))) (.l (.l .n (.l .n (.l (.c .n .n) .n))) .n))))) rfl ?_
  unfold bE.f at H
  revert H; refine aN (fun t10031 A H => (cmk (dO.ac A) rfl rfl (dM H (fun c H => ?_) (fun c H => ?_))))
  refine Br.f ff_ (Br.f ff_ (Br.f ff_ (Br.f ff_ (Br.f ff_ (Br.f ff_ (Br.f ff_ (iI H (fun c H => ?_) (fun c H => ?_))))))))
  refine Br.f ff_ (Br.f ff_ (Br.f ff_ (Br.f ff_ (Br.f ff_ (Br.f ff_ (Br.f ff_ (iI H (fun c H => ?_) (fun c H => ?_))))))))
  refine Br.f ff_ (Br.f ff_ (Br.f ff_ (Br.f ff_ (Br.f ff_ (Br.f ff_ (Br.f ff_ (cu 288 [(2, .bp 0 0), (3, .bp 8 0), (40, .bool (!(decide ((a0_3.length : Int) = (a1_3.length : Int)))))] [(0, .box [(aM a0_0), (aF a0_1), (aD a0_2), (aE a0_3)]), (8, .box [(aM a1_0), (aF a1_1), (aD a1_2), (aE a1_3)])] rfl rfl rfl (iI H (fun c H => ?_) (fun c H => ?_)))))))))
  refine cu 296 [(2, .bp 0 0), (3, .bp 8 0), (5, .int .i64 0)] [(0, .box [(aM a0_0), (aF a0_1), (aD a0_2), (aE a0_3)]), (8, .box [(aM a1_0), (aF a1_1), (aD a1_2), (aE a1_3)])] rfl rfl rfl (bE.l0_lp (a0_1 := a0_1) (a0_2 := a0_2) (a0_3 := a0_3) (a1_1 := a1_1) (a1_2 := a1_2) (a1_3 := a1_3) (k := k) H [] (fq rfl rfl fi_ rfl) ?_)
  intro k x5 hk H; rcases k with _ | k; exact bC H; rw [bE.l0] at H
  refine bM H (fun c H => ?_) (fun c H => ?_)
  refine nd_ H (fun c H => (Nd.mk nf_ (El.mk (bP _ _ nf_ nf_) (Nd.mk nf_ (nd_ H (fun c H => (El.mk (bP _ _ nf_ nf_) (cu 424 [(2, .bp 0 0), (3, .bp 8 0), (5, .int .i64 x5), (58, .bool (!(decide (((aO a0_1 x5).f0).toList = ((aO a1_1 x5).f0).toList) && (decide (((aO a0_1 x5).f1).toList = ((aO a1_1 x5).f1).toList) && true))))] [(0, .box [(aM a0_0), (aF a0_1), (aD a0_2), (aE a0_3)]), (8, .box [(aM a1_0), (aF a1_1), (aD a1_2), (aE a1_3)])] rfl rfl rfl (dM H (fun c H => ?_) (fun c H => ?_))))))))))
  exact ⟨(k, wrap64 (x5 + 1)), [], ⟨H, lt_⟩, lt_, (fq rfl rfl fi_ rfl)⟩
  cases H
  exact rz rfl
  refine bE.l1_lp (a0_2 := a0_2) (a0_3 := a0_3) (a1_2 := a1_2) (a1_3 := a1_3) (k := k) H [] (fq rfl rfl fi_ rfl) ?_
  intro k x6 hk H; rcases k with _ | k; exact bC H; rw [bE.l1] at H
  refine cu 384 [(2, .bp 0 0), (3, .bp 8 0), (6, .int .i64 x6), (63, .bool (decide (x6 < (a0_2.length : Int))))] [(0, .box [(aM a0_0), (aF a0_1), (aD a0_2), (aE a0_3)]), (8, .box [(aM a1_0), (aF a1_1), (aD a1_2), (aE a1_3)])] rfl rfl rfl (bM H (fun c H => ?_) (fun c H => ?_))
  refine nd_ H (fun c H => (Nd.mk nf_ (El.mk (bJ _ _ nf_ nf_) (Nd.mk nf_ (nd_ H (fun c H => (El.mk (bJ _ _ nf_ nf_) (cu 472 [(2, .bp 0 0), (3, .bp 8 0), (6, .int .i64 x6), (76, .bool (!(decide (((aK a0_2 x6).f0).toList = ((aK a1_2 x6).f0).toList) && (decide (((aK a0_2 x6).f1) = ((aK a1_2 x6).f1)) && (decide (((aK a0_2 x6).f2).toList = ((aK a1_2 x6).f2).toList) && true)))))] [(0, .box [(aM a0_0), (aF a0_1), (aD a0_2), (aE a0_3)]), (8, .box [(aM a1_0), (aF a1_1), (aD a1_2), (aE a1_3)])] rfl rfl rfl (dM H (fun c H => ?_) (fun c H => ?_))))))))))
  exact ⟨(k, wrap64 (x6 + 1)), [], ⟨H, lt_⟩, lt_, (fq rfl rfl fi_ rfl)⟩
  cases H
  exact rz rfl
  refine bE.l2_lp (a0_3 := a0_3) (a1_3 := a1_3) (k := k) H [] (fq rfl rfl fi_ rfl) ?_
  intro k x7 hk H; rcases k with _ | k; exact bC H; rw [bE.l2] at H
  refine bM H (fun c H => ?_) (fun c H => ?_)
  refine nd_ H (fun c H => (Nd.mk nf_ (El.mk (bQ _ _ nf_ nf_) (Nd.mk nf_ (nd_ H (fun c H => (El.mk (bQ _ _ nf_ nf_) (cu 520 [(2, .bp 0 0), (3, .bp 8 0), (7, .int .i64 x7), (94, .bool (!(decide (((aI a0_3 x7).f0).toList = ((aI a1_3 x7).f0).toList) && (decide (((aI a0_3 x7).f1).toList = ((aI a1_3 x7).f1).toList) && (decide (((aI a0_3 x7).f2).toList = ((aI a1_3 x7).f2).toList) && (decide (((aI a0_3 x7).f3).toList = ((aI a1_3 x7).f3).toList) && true))))))] [(0, .box [(aM a0_0), (aF a0_1), (aD a0_2), (aE a0_3)]), (8, .box [(aM a1_0), (aF a1_1), (aD a1_2), (aE a1_3)])] rfl rfl rfl (dM H (fun c H => ?_) (fun c H => ?_))))))))))
  exact ⟨(k, wrap64 (x7 + 1)), [], ⟨H, lt_⟩, lt_, (fq rfl rfl fi_ rfl)⟩
  cases H
  exact rz rfl
  cases H
  exact rz rfl
  refine cu 296 [(4, .bool false)] [] rfl rfl rfl ?_
  cases H
  exact rz rfl
  refine Br.t ft_ (Br.t ft_ (Br.t ft_ (Br.t ft_ (Br.t ft_ (Br.t ft_ (Br.t ft_ (cu 288 [(2, .bp 0 0), (3, .bp 8 0), (40, .bool true)] [(0, .box [(aM a0_0), (aF a0_1), (aD a0_2), (aE a0_3)]), (8, .box [(aM a1_0), (aF a1_1), (aD a1_2), (aE a1_3)])] rfl rfl rfl (Br.t rfl (cu 296 [(4, .bool false)] [] rfl rfl rfl ?_)))))))))
  cases H
  exact rz rfl
  refine Br.t ft_ (Br.t ft_ (Br.t ft_ (Br.t ft_ (Br.t ft_ (Br.t ft_ (Br.t ft_ (Br.t rfl (Br.t rfl (Br.t rfl (Br.t rfl (Br.t rfl (Br.t rfl (Br.t rfl (Br.t rfl (cu 288 [(2, .bp 0 0), (3, .bp 8 0), (40, .bool true)] [(0, .box [(aM a0_0), (aF a0_1), (aD a0_2), (aE a0_3)]), (8, .box [(aM a1_0), (aF a1_1), (aD a1_2), (aE a1_3)])] rfl rfl rfl (Br.t rfl (cu 296 [(4, .bool false)] [] rfl rfl rfl ?_)))))))))))))))))
  cases H
  exact rz rfl
  refine Br.t ft_ (Br.t ft_ (Br.t ft_ (Br.t ft_ (Br.t ft_ (Br.t ft_ (Br.t ft_ (Br.t rfl (Br.t rfl (Br.t rfl (Br.t rfl (Br.t rfl (Br.t rfl (Br.t rfl (Br.t rfl (Br.t rfl (Br.t rfl (Br.t rfl (Br.t rfl (Br.t rfl (Br.t rfl (Br.t rfl (Br.t rfl (cu 288 [(2, .bp 0 0), (3, .bp 8 0), (40, .bool true)] [(0, .box [(aM a0_0), (aF a0_1), (aD a0_2), (aE a0_3)]), (8, .box [(aM a1_0), (aF a1_1), (aD a1_2), (aE a1_3)])] rfl rfl rfl ?_)))))))))))))))))))))))
  refine Br.t rfl (cu 296 [(4, .bool false)] [] rfl rfl rfl ?_)
  cases H
  exact rz rfl
theorem cL.j0_sq {F : (Exit → St → Prop) → St → Prop} {hv : List Tmp} {K : St → Prop} {Q : Exit → St → Prop} {σ : St} {r : (List ByteArray) × (List aC) × (List aB) × (List aA) × ByteArray × ByteArray} {KK : Nat} {t10096 : (List ByteArray) × (List aC) × (List aB) × (List aA) × (List Int) × Int}
    (h1 : F (fun e σ' => match e with | .normal => ∃ (y : Nat × (List Int) × Int) (rn : List (Option Nat)), (cL.j0 y.1 y.2.1 y.2.2 t10096 = some r ∧ y.1 < KK) ∧ cJ σ σ' [32] [] [(32, .box [(bV y.2.1), .int .i64 y.2.2])] [] rn | e => Q e σ') σ)
    (h2 : ∀ (k : Nat) (x1032000 : List Int) (x1032001 : Int), k < KK → cL.j0 k x1032000 x1032001 t10096 = some r → dE σ hv [32] [] [(32, .box [(bV x1032000), .int .i64 x1032001])] [] K) : Sq F hv K Q σ := by
  unfold Sq
  refine ⟨Nat × (List Int) × Int, fun x => cL.j0 x.1 x.2.1 x.2.2 t10096 = some r ∧ x.1 < KK, [32], fun x => [], fun x => [(32, .box [(bV x.2.1), .int .i64 x.2.2])], fun x => [], h1, ?_⟩
  rintro ⟨k, x1032000, x1032001⟩ ⟨H, hk⟩
  exact h2 k x1032000 x1032001 hk H
theorem cL.ac {k : Nat} {l0 : List Int} {r : (List ByteArray) × (List aC) × (List aB) × (List aA) × ByteArray × ByteArray} (H : cL.f k l0 = some r) : cI Tryz.prog G 12 [] [(bV l0)] [] (.tup [.agg [(aM r.1), (aF r.2.1), (aD r.2.2.1), (aE r.2.2.2.1)], .str r.2.2.2.2.1, .str r.2.2.2.2.2]) := by
  refine bO tok hP Tryz.func12 rfl (by kernel_rfl) [.cell 2 28, .tmp 3, .tmp 4] rfl (by kernel_rfl) (Nat.le_of_ble_eq_true rfl) (.l .n (.l .n (.l .n (.j (.c .n (.l (.c .n (.l (.l .n (.l (.c .n .n) .n)) (.c .n .n))) .n)) (.c .n .n))))) rfl ?_
  unfold cL.f at H
  revert H; refine aN (fun t10094 A H => (cmk (gN.ac A) rfl rfl ?_))
  revert H; refine aN (fun t10096 A H => (bW [32] (hZ.ac A) ⟨rfl, trivial⟩ rfl rfl rfl rfl rfl rfl rfl rfl (cL.j0_sq (t10096 := t10096) (KK := k + 1) (r := r) ?_ ?_)))
  refine bM H (fun c H => ?_) (fun c H => ?_)
  refine Br.t ft_ ?_
  revert H; refine aN (fun t10115 A H => (bW [32] (aS.ac A) ⟨rfl, trivial⟩ rfl rfl rfl rfl rfl rfl rfl rfl (Br.t ft_ (Br.t ft_ (cu 152 [(2, .bp 0 0), (5, .bp 32 0), (6, .bp 64 0), (20, .bool (decide (t10115.1 = 0)))] [(0, .box [.nil, .nil, .nil, .nil]), (32, .box [(bV t10115.2.1), .int .i64 t10115.2.2]), (64, .box [(aM t10096.1), (aF t10096.2.1), (aD t10096.2.2.1), (aE t10096.2.2.2.1)])] rfl rfl rfl (bM H (fun c H => ?_) (fun c H => ?_)))))))
  revert H; refine aN (fun t10116 A H => (bW [32] (aS.ac A) ⟨rfl, trivial⟩ rfl rfl rfl rfl rfl rfl rfl rfl (nd_ H (fun c H => (nd_ H (fun c H => (El.mk (bP _ _ nf_ nf_) (cu 240 [(2, .bp 0 0), (5, .bp 32 0), (6, .bp 64 0), (7, .bp 224 0)] [(0, .box [.nil, .nil, .nil, .nil]), (32, .box [(bV t10116.2.1), .int .i64 t10116.2.2]), (64, .box [(aM t10096.1), (aF t10096.2.1), (aD t10096.2.2.1), (aE t10096.2.2.2.1)]), (224, .box [.str ((aO t10096.2.1 t10116.1).f0), .str ((aO t10096.2.1 t10116.1).f1)])] rfl rfl rfl ?_))))))))
  revert H; refine aN (fun t10117 A H => (bW [32] (aS.ac A) ⟨rfl, trivial⟩ rfl rfl rfl rfl rfl rfl rfl rfl (bM H (fun c H => ?_) (fun c H => ?_))))
  refine cu 328 [(2, .bp 0 0), (3, .str ((aO t10096.2.1 t10116.1).f1)), (4, .str ((aO t10096.2.1 t10116.1).f0))] [(0, .box [(aM t10096.1), (aF t10096.2.1), (aD t10096.2.2.1), (aE t10096.2.2.2.1)])] rfl rfl rfl ?_
  cases H
  exact rts rfl
  refine cu 328 [(2, .bp 0 0), (3, .str ((aO t10096.2.1 t10116.1).f0)), (4, .str ((aO t10096.2.1 t10116.1).f1))] [(0, .box [(aM t10096.1), (aF t10096.2.1), (aD t10096.2.2.1), (aE t10096.2.2.2.1)])] rfl rfl rfl ?_
  cases H
  exact rts rfl
  exact ⟨(k, t10115.2.1, t10115.2.2), [], ⟨H, lt_⟩, (bX trivial trivial fi_ ⟨⟨_, rfl⟩, ⟨_, rfl, ⟨.inl ⟨rfl, rfl⟩, ⟨.inl ⟨rfl, rfl⟩, trivial⟩⟩⟩, trivial⟩ rfl)⟩
  refine Br.f ff_ (Br.f ff_ (Br.f ff_ (cu 152 [(2, .bp 0 0), (5, .bp 32 0), (6, .bp 64 0), (20, .bool false)] [(0, .box [.nil, .nil, .nil, .nil]), (32, .box [(bV t10096.2.2.2.2.1), .int .i64 t10096.2.2.2.2.2]), (64, .box [(aM t10096.1), (aF t10096.2.1), (aD t10096.2.2.1), (aE t10096.2.2.2.1)])] rfl rfl rfl (Br.f rfl (⟨(k, t10096.2.2.2.2.1, t10096.2.2.2.2.2), [], ⟨H, lt_⟩, (bX trivial trivial fi_ ⟨⟨_, rfl⟩, ⟨_, rfl, ⟨.inl ⟨rfl, rfl⟩, ⟨.inl ⟨rfl, rfl⟩, trivial⟩⟩⟩, trivial⟩ rfl)⟩)))))
  intro k x1032000 x1032001 hk H; rcases k with _ | k; exact bC H; rw [cL.j0] at H
  refine Or.inr (Or.inl ?_)
  revert H; refine aN (fun t10113 A H => (bW [32] (bA.ac A) ⟨rfl, trivial⟩ rfl rfl rfl rfl rfl (gR ⟨rfl, ⟨kU rfl lm_ lm_, trivial⟩⟩) rfl rfl (Or.inr (Or.inl ?_))))
  revert H; refine aN (fun t10114 A H => (bW [32] (bA.ac A) ⟨rfl, trivial⟩ rfl rfl rfl rfl rfl (gR ⟨rfl, ⟨kU rfl lm_ lm_, trivial⟩⟩) rfl rfl (cu 160 [(2, .bp 0 0), (3, .str t10113.1), (4, .str t10114.1)] [(0, .box [(aM t10096.1), (aF t10096.2.1), (aD t10096.2.2.1), (aE t10096.2.2.2.1)])] rfl rfl rfl ?_)))
  cases H
  exact rts rfl
theorem eB.ac {k : Nat} {a0_0 : List ByteArray} {a0_1 : List aC} {a0_2 : List aB} {a0_3 : List aA} {a1 : ByteArray} {a2 : ByteArray} {r : Bool} (H : eB.f k a0_0 a0_1 a0_2 a0_3 a1 a2 = some r) : cI Tryz.prog G 13 [] [.agg [(aM a0_0), (aF a0_1), (aD a0_2), (aE a0_3)], .str a1, .str a2] [] (.bool r) := by
  refine bO tok hP Tryz.func13 rfl (by kernel_rfl) [.tmp 6] rfl (by kernel_rfl) (Nat.le_of_ble_eq_true rfl) (.l .n (.c .n .n)) rfl ?_
  unfold eB.f at H
  revert H; refine aN (fun t10157 A H => (cmk (aP.ac A) rfl rfl (jF H (fun c H => ?_) (fun c H => ?_))))
  refine Br.t ft_ ?_
  revert H; refine aN (fun t10158 A H => (cmk (bI.ac A) rfl rfl (Br.t ft_ (Br.t ft_ (Br.t ft_ ?_)))))
  revert H; refine aN (fun t10159 A H => (cmk (eH.ac A) rfl rfl (Br.t ft_ (cu 96 [(6, .bool t10159)] [] rfl rfl rfl ?_))))
  cases H
  exact rz rfl
  refine Br.f ff_ (Br.f ff_ (Br.f ff_ (Br.f ff_ (Br.f ff_ (cu 96 [(6, .bool false)] [] rfl rfl rfl ?_)))))
  cases H
  exact rz rfl
theorem gI.ac {k : Nat} {a0_0 : List ByteArray} {a0_1 : List aC} {a0_2 : List aB} {a0_3 : List aA} {a1 : ByteArray} {a2 : ByteArray} {r : Bool} (H : gI.f k a0_0 a0_1 a0_2 a0_3 a1 a2 = some r) : cI Tryz.prog G 14 [] [.agg [(aM a0_0), (aF a0_1), (aD a0_2), (aE a0_3)], .str a1, .str a2] [] (.bool r) := by
  refine bO tok hP Tryz.func14 rfl (by kernel_rfl) [.tmp 6] rfl (by kernel_rfl) (Nat.le_of_ble_eq_true rfl) (.l .n (.c .n .n)) rfl ?_
  unfold gI.f at H
  revert H; refine aN (fun t10199 A H => (cmk (dY.ac A) rfl rfl (jF H (fun c H => ?_) (fun c H => ?_))))
  refine Br.t ft_ (Br.t ft_ (Br.t ft_ ?_))
  revert H; refine aN (fun t10200 A H => (cmk (cN.ac A) rfl rfl (Br.t ft_ (cu 88 [(6, .bool t10200)] [] rfl rfl rfl ?_))))
  cases H
  exact rz rfl
  refine Br.f ff_ (Br.f ff_ (Br.f ff_ (Br.f ff_ (cu 88 [(6, .bool false)] [] rfl rfl rfl ?_))))
  cases H
  exact rz rfl
theorem cX.j0_sq {F : (Exit → St → Prop) → St → Prop} {hv : List Tmp} {K : St → Prop} {Q : Exit → St → Prop} {σ : St} {r : Bool} {KK : Nat} {l1 : List Int}
    (h1 : F (fun e σ' => match e with | .normal => ∃ (y : Nat) (rn : List (Option Nat)), (cX.j0 y l1 = some r ∧ y < KK) ∧ cJ σ σ' [88, 256, 264] [] [] [] rn | e => Q e σ') σ)
    (h2 : ∀ (k : Nat), k < KK → cX.j0 k l1 = some r → dE σ hv [88, 256, 264] [] [] [] K) : Sq F hv K Q σ := by
  unfold Sq
  refine ⟨Nat, fun x => cX.j0 x l1 = some r ∧ x < KK, [88, 256, 264], fun x => [], fun x => [], fun x => [], h1, ?_⟩
  rintro k ⟨H, hk⟩
  exact h2 k hk H
theorem cX.ac [GvOk G] {k : Nat} {l0 : List Int} {l1 : List Int} {r : Bool} (H : cX.f k l0 l1 = some r) : cI Tryz.prog G 3 [] [(bV l0), (bV l1)] [] (.bool r) := by
  refine bO tok hP Tryz.func3 rfl (by kernel_rfl) [.tmp 4] rfl (by kernel_rfl) (Nat.le_of_ble_eq_true rfl) (.l .n (.l (.l .n (.l (.c .n .n) .n)) (.c .n (.l .n (.l (.c .n (.l (.c .n .n) .n)) (.c .n (.j (.c .n (.l (.c .n .n) .n)) (.c .n (.c .n .n))))))))) rfl ?_
  unfold cX.f at H
  refine bM H (fun c H => ?_) (fun c H => ?_)
  refine Br.t ft_ (Br.t ft_ (Br.t ft_ (Br.t rfl (cu 80 [(4, .bool true)] [] rfl rfl rfl ?_))))
  cases H
  exact rz rfl
  refine Br.f ff_ (Br.f ff_ (Br.f ff_ (bM H (fun c H => ?_) (fun c H => ?_))))
  refine cu 80 [(4, .bool true)] [] rfl rfl rfl ?_
  cases H
  exact rz rfl
  revert H; refine aN (fun t10202 A H => (cmk (eO.ac A) rfl rfl (cu 104 [(1, (bV l1)), (5, .bp 88 0)] [(88, .box [(aM t10202.1), (aF t10202.2.1), (aD t10202.2.2.1), (aE t10202.2.2.2)])] rfl rfl rfl ?_)))
  revert H; refine aN (fun t10204 A H => (cmk (aR.ac A) rfl rfl ?_))
  revert H; refine aN (fun t10239 A H => (cmk (aQ.ac A) rfl rfl (iI H (fun c H => ?_) (fun c H => ?_))))
  refine Br.f ff_ ?_
  revert H; refine aN (fun t10240 A H => (cmk (aP.ac A) rfl rfl (Br.f ff_ (Br.f ff_ ?_))))
  revert H; refine aN (fun t10241 A H => (cmk (dY.ac A) rfl rfl (Br.f ff_ (Br.f ff_ (cu 216 [(1, (bV l1)), (5, .bp 88 0), (6, .str t10204), (34, .bool (t10240 != t10241))] [(88, .box [(aM t10202.1), (aF t10202.2.1), (aD t10202.2.2.1), (aE t10202.2.2.2)])] rfl rfl rfl (jF H (fun c H => ?_) (fun c H => ?_)))))))
  refine cu 224 [(4, .bool false)] [] rfl rfl rfl ?_
  cases H
  exact rz rfl
  revert H; refine aN (fun t10242 A H => (cmk (cQ.ac A) rfl rfl (cu 288 [(1, (bV l1)), (5, .bp 88 0), (7, .bp 256 0), (8, .bp 264 0)] [(88, .box [(aM t10202.1), (aF t10202.2.1), (aD t10202.2.2.1), (aE t10202.2.2.2)]), (256, .box [(aM t10242.1), (aF t10242.2.1), (aD t10242.2.2.1), (aE t10242.2.2.2.1)]), (264, .box [.int .i64 t10242.2.2.2.2.1, .int .i64 t10242.2.2.2.2.2])] rfl rfl rfl (cX.j0_sq (l1 := l1) (KK := k + 1) (r := r) ?_ ?_))))
  revert H; refine aN (fun t10251 A H => (cmk (dY.ac A) rfl rfl (jF H (fun c H => ?_) (fun c H => ?_))))
  refine Br.t ft_ (Br.t ft_ (Br.t ft_ (iI H (fun c H => ?_) (fun c H => ?_))))
  refine Br.f ff_ (Br.f ff_ ?_)
  revert H; refine aN (fun t10252 A H => (cmk (bE.ac A) rfl rfl (Br.f ff_ (Br.t ft_ (Br.f ff_ (Br.t ft_ (cu 392 [(1, (bV l1)), (52, .bool (!t10252))] [] rfl rfl rfl (dM H (fun c H => ?_) (fun c H => ?_)))))))))
  exact ⟨k, [], ⟨H, lt_⟩, (bX trivial trivial fi_ trivial rfl)⟩
  refine cu 400 [(4, .bool false)] [] rfl rfl rfl ?_
  cases H
  exact rz rfl
  refine Br.t ft_ (Br.t ft_ (Br.t ft_ (Br.t ft_ (Br.t ft_ (Br.t ft_ (cu 392 [(1, (bV l1)), (52, .bool true)] [] rfl rfl rfl (Br.t rfl (cu 400 [(4, .bool false)] [] rfl rfl rfl ?_))))))))
  cases H
  exact rz rfl
  refine Br.f ff_ (Br.f ff_ (Br.f ff_ (Br.f ff_ (Br.f ff_ (cu 392 [(1, (bV l1)), (52, .bool false)] [] rfl rfl rfl (Br.f rfl (⟨k, [], ⟨H, lt_⟩, (bX trivial trivial fi_ trivial rfl)⟩)))))))
  intro k hk H; rcases k with _ | k; exact bC H; rw [cX.j0] at H
  revert H; refine aN (fun t10245 A H => (cmk (cL.ac A) rfl rfl (cu 368 [(9, .bp 336 0), (10, .str t10245.2.2.2.2.1), (11, .str t10245.2.2.2.2.2)] [(336, .box [(aM t10245.1), (aF t10245.2.1), (aD t10245.2.2.1), (aE t10245.2.2.2.1)])] rfl rfl rfl ?_)))
  revert H; refine aN (fun t10246 A H => (cmk (eB.ac A) rfl rfl ?_))
  revert H; refine aN (fun t10247 A H => (cmk (gI.ac A) rfl rfl (jF H (fun c H => ?_) (fun c H => ?_))))
  refine Br.t ft_ (Br.t ft_ (Br.t ft_ ?_))
  revert H; refine aN (fun t10248 A H => (cmk (eB.ac A) rfl rfl (Br.t ft_ (Br.t ft_ (Br.t ft_ (Br.t ft_ ?_))))))
  revert H; refine aN (fun t10249 A H => (cmk (eB.ac A) rfl rfl (Br.t ft_ (Br.t ft_ (jF H (fun c H => ?_) (fun c H => ?_))))))
  refine Br.t ft_ (Br.t ft_ (Br.t ft_ ?_))
  revert H; refine aN (fun t10250 A H => (cmk (eB.ac A) rfl rfl (Br.t ft_ (Br.t ft_ (cu 592 [(4, .bool (!t10250))] [] rfl rfl rfl ?_)))))
  cases H
  exact rz rfl
  refine Br.f ff_ (Br.f ff_ (Br.f ff_ (Br.f ff_ (Br.f ff_ (cu 592 [(4, .bool false)] [] rfl rfl rfl ?_)))))
  cases H
  exact rz rfl
  refine Br.f ff_ (Br.f ff_ (Br.f ff_ (Br.f ff_ (Br.f ff_ (Br.f ff_ (Br.f ff_ (Br.f ff_ (Br.f ff_ (Br.f rfl (Br.f rfl (Br.f rfl (Br.f rfl (Br.f rfl (Br.f rfl (cu 592 [(4, .bool false)] [] rfl rfl rfl ?_)))))))))))))))
  cases H
  exact rz rfl
  refine Br.t ft_ (Br.t ft_ (Br.t ft_ (Br.t ft_ (Br.t ft_ (cu 216 [(1, (bV l1)), (5, .bp 88 0), (6, .str t10204), (34, .bool true)] [(88, .box [(aM t10202.1), (aF t10202.2.1), (aD t10202.2.2.1), (aE t10202.2.2.2)])] rfl rfl rfl (Br.t rfl (cu 224 [(4, .bool false)] [] rfl rfl rfl ?_)))))))
  cases H
  exact rz rfl

end Go.Proofs.YtnobkcplpbkigaaGreatDoor.VP

