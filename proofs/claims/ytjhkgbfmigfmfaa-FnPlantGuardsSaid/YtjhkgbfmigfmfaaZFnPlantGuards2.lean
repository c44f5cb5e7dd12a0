import Derived.Test.YtjhkgbfmigfmfaaZFnPlantGuards1
import Derived.Shelf.Lay
import Derived.Shelf.Sort.AssemblyIn
import Derived.Ground.SoProg
import Derived.Test.YtjhkgbfmigfmfaaProg
import Derived.KernelRfl
set_option linter.unusedVariables false
set_option linter.unusedSimpArgs false
namespace Go.Proofs.Ytjhkgbfmigfmfaa.GV
open Go Go.Aw Go.RowKit Go.Proofs
set_option maxRecDepth 100000
set_option maxHeartbeats 40000000
variable {G : Nat → Option Obj}
def tab : List (TypeId × TI) := [(2, ⟨1, 8, false, 0, 0, [], [.int .i64 0], some .i64, false, false, false, [], [0], []⟩),
  (3, ⟨1, 8, false, 0, 0, [], [.int .i64 0], some .i64, false, false, false, [], [0], []⟩),
  (4, ⟨1, 1, false, 0, 0, [], [.bool false], none, false, false, true, [], [0], []⟩),
  (5, ⟨1, 1, false, 0, 0, [], [.int .u8 0], some .u8, false, false, false, [], [0], []⟩),
  (6, ⟨1, 1, false, 0, 0, [], [.int .u8 0], some .u8, false, false, false, [], [0], []⟩),
  (7, ⟨4, 24, true, 0, 0, [(0, 2), (1, 3), (2, 4), (3, 6)], [.int .i64 0, .int .i64 0, .bool false, .int .u8 0], none, false, false, false, [(0, 1), (1, 1), (2, 1), (3, 1)], [0, 0, 0, 0], []⟩),
  (8, ⟨4, 24, true, 0, 0, [(0, 2), (1, 3), (2, 4), (3, 6)], [.int .i64 0, .int .i64 0, .bool false, .int .u8 0], none, false, false, false, [(0, 1), (1, 1), (2, 1), (3, 1)], [0, 0, 0, 0], []⟩),
  (9, ⟨1, 16, false, 0, 0, [], [.str ⟨#[]⟩], none, true, false, false, [], [0], []⟩),
  (10, ⟨1, 16, false, 0, 0, [], [.str ⟨#[]⟩], none, true, false, false, [], [0], []⟩),
  (11, ⟨1, 16, false, 0, 0, [], [.str ⟨#[]⟩], none, true, false, false, [], [0], []⟩),
  (12, ⟨1, 8, false, 0, 0, [], [.int .u64 0], some .u64, false, false, false, [], [0], []⟩),
  (13, ⟨2, 24, true, 0, 0, [(0, 9), (1, 12)], [.str ⟨#[]⟩, .int .u64 0], none, false, false, false, [(0, 1), (1, 1)], [0, 0], []⟩),
  (14, ⟨2, 24, true, 0, 0, [(0, 9), (1, 12)], [.str ⟨#[]⟩, .int .u64 0], none, false, false, false, [(0, 1), (1, 1)], [0, 0], []⟩),
  (21, ⟨1, 4, false, 0, 0, [], [.int .i32 0], some .i32, false, false, false, [], [0], []⟩),
  (22, ⟨1, 24, false, 5, 0, [], [.nil], none, false, true, false, [], [1], []⟩),
  (23, ⟨1, 24, false, 9, 0, [], [.nil], none, false, true, false, [], [1], []⟩),
  (24, ⟨1, 24, false, 66, 0, [], [.nil], none, false, true, false, [], [2], []⟩),
  (25, ⟨1, 24, false, 68, 0, [], [.nil], none, false, true, false, [], [3], []⟩),
  (26, ⟨1, 24, false, 53, 0, [], [.nil], none, false, true, false, [], [4], []⟩),
  (27, ⟨4, 96, true, 0, 0, [(0, 23), (1, 24), (2, 25), (3, 26)], [.nil, .nil, .nil, .nil], none, false, false, false, [(0, 1), (1, 1), (2, 1), (3, 1)], [1, 2, 3, 4], []⟩),
  (28, ⟨4, 96, true, 0, 0, [(0, 23), (1, 24), (2, 25), (3, 26)], [.nil, .nil, .nil, .nil], none, false, false, false, [(0, 1), (1, 1), (2, 1), (3, 1)], [1, 2, 3, 4], []⟩),
  (29, ⟨2, 48, true, 0, 0, [(0, 23), (1, 23)], [.nil, .nil], none, false, false, false, [(0, 1), (1, 1)], [1, 1], []⟩),
  (30, ⟨2, 48, true, 0, 0, [(0, 23), (1, 23)], [.nil, .nil], none, false, false, false, [(0, 1), (1, 1)], [1, 1], []⟩),
  (52, ⟨4, 64, true, 0, 0, [(0, 9), (1, 9), (2, 9), (3, 9)], [.str ⟨#[]⟩, .str ⟨#[]⟩, .str ⟨#[]⟩, .str ⟨#[]⟩], none, false, false, false, [(0, 1), (1, 1), (2, 1), (3, 1)], [0, 0, 0, 0], []⟩),
  (53, ⟨4, 64, true, 0, 0, [(0, 9), (1, 9), (2, 9), (3, 9)], [.str ⟨#[]⟩, .str ⟨#[]⟩, .str ⟨#[]⟩, .str ⟨#[]⟩], none, false, false, false, [(0, 1), (1, 1), (2, 1), (3, 1)], [0, 0, 0, 0], [2, 2, 2, 2]⟩),
  (54, ⟨2, 32, true, 0, 0, [(0, 22), (1, 3)], [.nil, .int .i64 0], none, false, false, false, [(0, 1), (1, 1)], [1, 0], []⟩),
  (55, ⟨2, 32, true, 0, 0, [(0, 22), (1, 3)], [.nil, .int .i64 0], none, false, false, false, [(0, 1), (1, 1)], [1, 0], []⟩),
  (57, ⟨1, 24, false, 30, 0, [], [.nil], none, false, true, false, [], [2], []⟩),
  (63, ⟨1, 24, false, 81, 0, [], [.nil], none, false, true, false, [], [2], []⟩),
  (65, ⟨2, 32, true, 0, 0, [(0, 9), (1, 9)], [.str ⟨#[]⟩, .str ⟨#[]⟩], none, false, false, false, [(0, 1), (1, 1)], [0, 0], []⟩),
  (66, ⟨2, 32, true, 0, 0, [(0, 9), (1, 9)], [.str ⟨#[]⟩, .str ⟨#[]⟩], none, false, false, false, [(0, 1), (1, 1)], [0, 0], [2, 2]⟩),
  (67, ⟨3, 40, true, 0, 0, [(0, 9), (1, 3), (2, 9)], [.str ⟨#[]⟩, .int .i64 0, .str ⟨#[]⟩], none, false, false, false, [(0, 1), (1, 1), (2, 1)], [0, 0, 0], []⟩),
  (68, ⟨3, 40, true, 0, 0, [(0, 9), (1, 3), (2, 9)], [.str ⟨#[]⟩, .int .i64 0, .str ⟨#[]⟩], none, false, false, false, [(0, 1), (1, 1), (2, 1)], [0, 0, 0], [2, 1, 2]⟩),
  (79, ⟨1, 24, false, 3, 0, [], [.nil], none, false, true, false, [], [1], []⟩),
  (81, ⟨2, 32, true, 9, 2, [], [.str ⟨#[]⟩, .str ⟨#[]⟩], none, false, false, false, [(0, 1), (1, 1)], [0, 0], [2, 2]⟩),
  (90, ⟨1, 8, false, 0, 0, [], [.int .u64 0], some .u64, false, false, false, [], [0], []⟩),
  (92, ⟨1, 8, false, 0, 0, [], [.int .i64 0], some .i64, false, false, false, [], [0], []⟩),
  (101, ⟨1, 4, false, 0, 0, [], [.int .u32 0], some .u32, false, false, false, [], [0], []⟩),
  (103, ⟨1, 8, false, 0, 0, [], [.int .u64 0], some .u64, false, false, false, [], [0], []⟩),
  (107, ⟨1, 8, false, 0, 0, [], [.int .u64 0], some .u64, false, false, false, [], [0], []⟩),
  (123, ⟨1, 1, false, 0, 0, [], [.int .u8 0], some .u8, false, false, false, [], [0], []⟩),
  (124, ⟨1, 1, false, 0, 0, [], [.int .u8 0], some .u8, false, false, false, [], [0], []⟩),
  (127, ⟨1, 4, false, 0, 0, [], [.int .i32 0], some .i32, false, false, false, [], [0], []⟩),
  (128, ⟨1, 4, false, 0, 0, [], [.int .i32 0], some .i32, false, false, false, [], [0], []⟩)]
theorem tok : TOk Try.prog (lk tab) := aHI tab (by kernel_rfl)
theorem hP : Try.prog.follows .mixedOrders = true := by kernel_rfl
def bB (x : ByteArray) : List V := [.str x]
def aG (l : List ByteArray) : V := .sl 1 l.length (l.map bB)
theorem jZ (x : ByteArray) : (bB x).all V.bare = true := rfl
theorem aP (l : List ByteArray) (i : Int) (h0 : 0 ≤ i) (h1 : i < (l.length : Int)) : (l.map bB)[i.toNat]? = some (bB (bE ByteArray.empty l i)) := by
  have : i.toNat < l.length := by omega
  simp [bE, this]
def uE (x : Int) : List V := [.int .u8 x]
def bP (l : List Int) : V := .sl 1 l.length (l.map uE)
theorem qE (l : List Int) (i : Int) (h0 : 0 ≤ i) (h1 : i < (l.length : Int)) : (l.map uE)[i.toNat]? = some (uE (rd l i)) := by
  have : i.toNat < l.length := by omega
  simp [rd, this]
def aV (x : aF) : List V := [.str x.f0, .str x.f1]
def aE (l : List aF) : V := .sl 2 l.length (l.map aV)
theorem dO (l : List aF) (i : Int) (h0 : 0 ≤ i) (h1 : i < (l.length : Int)) : (l.map aV)[i.toNat]? = some (aV (bV l i)) := by
  have : i.toNat < l.length := by omega
  simp [bV, this]
def aS (x : aB) : List V := [.str x.f0, .int .i64 x.f1, .str x.f2]
def aD (l : List aB) : V := .sl 3 l.length (l.map aS)
theorem bL (l : List aB) (i : Int) (h0 : 0 ≤ i) (h1 : i < (l.length : Int)) : (l.map aS)[i.toNat]? = some (aS (aO l i)) := by
  have : i.toNat < l.length := by omega
  simp [aO, this]
def aR (x : aA) : List V := [.str x.f0, .str x.f1, .str x.f2, .str x.f3]
def aC (l : List aA) : V := .sl 4 l.length (l.map aR)
theorem aZ (l : List aA) (i : Int) (h0 : 0 ≤ i) (h1 : i < (l.length : Int)) : (l.map aR)[i.toNat]? = some (aR (aH l i)) := by
  have : i.toNat < l.length := by omega
  simp [aH, this]
def yC (x : Int) : List V := [.int .i64 x]
theorem xY (l : List Int) (i : Int) (h0 : 0 ≤ i) (h1 : i < (l.length : Int)) : (l.map yC)[i.toNat]? = some (yC (rd l i)) := by
  have : i.toNat < l.length := by omega
  simp [rd, this]
def aL (x : aI) : List V := [(aG x.f0), (aG x.f1)]
theorem bU (l : List aI) (i : Int) (h0 : 0 ≤ i) (h1 : i < (l.length : Int)) : (l.map aL)[i.toNat]? = some (aL (aM l i)) := by
  have : i.toNat < l.length := by omega
  simp [aM, this]
def gN (x : dE) : List V := [.str x.f0, .str x.f1]
def eB (l : List dE) : V := .sl 2 l.length (l.map gN)
theorem iS (l : List dE) (i : Int) (h0 : 0 ≤ i) (h1 : i < (l.length : Int)) : (l.map gN)[i.toNat]? = some (gN (dK l i)) := by
  have : i.toNat < l.length := by omega
  simp [dK, this]
attribute [local irreducible] kW Lp Sq Cut mV cM

theorem jF.ac {l0 : List Int} {r : (List Int) × Int} (H : jF.f l0 = some r) : cK Try.prog G 13 [] [(bP l0)] [.box [(bP r.1), .int .i64 r.2]] (.bp 0 0) := by
  refine bN tok hP Try.func13 rfl (by kernel_rfl) [.tmp 2] rfl (by kernel_rfl) (Nat.le_of_ble_eq_true rfl) (.l .n (.l .n (.c .n .n))) rfl ?_
  unfold jF.f at H
  refine bT H (fun c H => ?_) (fun c H => ?_)
  refine Nd.mk (by decide) (nd_ H (fun c H => (iQ 88 [(2, .bp 72 0)] [(72, .box [.sl 1 ((2000 : Int).toNat) ((l0.take (2000 : Int).toNat).map uE), .int .i64 0])] rfl ⟨.inl rfl, trivial⟩ ⟨zY rfl ⟨kF rfl lm_ lm_, ⟨rfl, trivial⟩⟩, trivial⟩ ?_)))
  cases H
  exact eT [some 72] [] ((rfl)) ⟨zY rfl ⟨kF rfl lm_ lm_, ⟨rfl, trivial⟩⟩, trivial⟩ rfl
  refine cu 64 [(2, .bp 48 0)] [(48, .box [(bP l0), .int .i64 0])] rfl rfl rfl ?_
  cases H
  exact eT [some 48] [] ((rfl)) ⟨rfl, trivial⟩ rfl
theorem aN.ac {a0_0 : List Int} {a0_1 : Int} {a1 : Int} {r : Int × (List Int) × Int} (H : aN.f a0_0 a0_1 a1 = some r) : cK Try.prog G 17 [.box [(bP a0_0), .int .i64 a0_1]] [.bp 0 0, .int .i64 a1] [.box [(bP r.2.1), .int .i64 r.2.2]] (.int .i64 r.1) := by
  refine bN tok hP Try.func17 rfl (by kernel_rfl) [.tmp 4] rfl (by kernel_rfl) (Nat.le_of_ble_eq_true rfl) (.l .n (.l .n (.l (.c .n (.l (.c .n .n) .n)) (.l .n (.l (.c .n (.l (.c .n .n) .n)) (.c .n .n)))))) rfl ?_
  unfold aN.f at H
  refine bT H (fun c H => ?_) (fun c H => ?_)
  refine Br.t ft_ (Br.t ft_ (Br.t ft_ (Br.t ft_ (Br.t ft_ (Br.t ft_ (cu 161 [(0, .bp 0 0), (1, .int .i64 a1), (24, .bool true)] [(0, .box [(bP a0_0), .int .i64 (wrap64 (a0_1 + 1))])] rfl rfl rfl (Br.t rfl (cu 169 [(4, .int .i64 0)] [(0, .box [(bP a0_0), .int .i64 (wrap64 (a0_1 + 1))])] rfl rfl rfl ?_))))))))
  cases H
  exact eT [some 0] [] ((gX rfl)) ⟨rfl, trivial⟩ rfl
  refine Br.f ff_ (Br.f ff_ (Br.f ff_ (Br.f ff_ (Br.f ff_ (Br.f ff_ (cu 161 [(0, .bp 0 0), (1, .int .i64 a1), (24, .bool (decide ((a0_0.length : Int) = 0)))] [(0, .box [(bP a0_0), .int .i64 (wrap64 (a0_1 + 1))])] rfl rfl rfl (bT H (fun c H => ?_) (fun c H => ?_))))))))
  refine cu 169 [(4, .int .i64 0)] [(0, .box [(bP a0_0), .int .i64 (wrap64 (a0_1 + 1))])] rfl rfl rfl ?_
  cases H
  exact eT [some 0] [] ((gX rfl)) ⟨rfl, trivial⟩ rfl
  refine cu 265 [(0, .bp 0 0), (1, .int .i64 a1), (5, .int .i64 (wrap64 ((wrap64 (a0_1 + 1)) - 1))), (36, .bool (decide ((wrap64 ((wrap64 (a0_1 + 1)) - 1)) < (a0_0.length : Int))))] [(0, .box [(bP a0_0), .int .i64 (wrap64 (a0_1 + 1))])] rfl rfl rfl (bT H (fun c H => ?_) (fun c H => ?_))
  refine nd_ H (fun c H => (Nd.mk nf_ (El.mk (qE _ _ nf_ nf_) (nd_ H (fun c H => (cu 353 [(4, .int .i64 (Int.tmod (wrap64 (rd a0_0 (wrap64 ((wrap64 (a0_1 + 1)) - 1)))) a1))] [(0, .box [(bP a0_0), .int .i64 (wrap64 (a0_1 + 1))])] rfl rfl rfl ?_))))))
  cases H
  exact eT [some 0] [] ((gX rfl)) ⟨rfl, trivial⟩ rfl
  refine nd_ H (fun c H => (nd_ H (fun c H => (nd_ H (fun c H => (El.mk (qE _ _ nf_ nf_) (Nd.mk nf_ (nd_ H (fun c H => (nd_ H (fun c H => (El.mk (qE _ _ nf_ nf_) (Nd.mk nf_ (cu 633 [(1, .int .i64 a1), (6, .int .i64 (wrap64 ((wrap64 ((wrap64 ((wrap64 ((wrap64 (rd a0_0 (Int.tmod (wrap64 ((wrap64 (a0_1 + 1)) - 1)) (a0_0.length : Int)))) * 131)) + (wrap64 ((wrap64 (rd a0_0 (Int.tmod (wrap64 ((wrap64 ((wrap64 ((wrap64 (a0_1 + 1)) - 1)) * 7)) + 3)) (a0_0.length : Int)))) * 1117)))) + (wrap64 ((wrap64 ((wrap64 (a0_1 + 1)) - 1)) * 29)))) + (wrap64 ((wrap64 (Int.tdiv (wrap64 ((wrap64 (a0_1 + 1)) - 1)) (a0_0.length : Int))) * 53)))))] [(0, .box [(bP a0_0), .int .i64 (wrap64 (a0_1 + 1))])] rfl rfl rfl (Nd.mk (by decide) (nd_ H (fun c H => ?_)))))))))))))))))
  cases H
  exact eT [some 0] [] ((gX rfl)) ⟨rfl, trivial⟩ rfl
theorem bF.ac {a0_0 : List Int} {a0_1 : Int} {l1 : List ByteArray} {r : ByteArray × (List Int) × Int} (H : bF.f a0_0 a0_1 l1 = some r) : cK Try.prog G 37 [.box [(bP a0_0), .int .i64 a0_1]] [.bp 0 0, (aG l1)] [.box [(bP r.2.1), .int .i64 r.2.2]] (.str r.1) := by
  refine bN tok hP Try.func37 rfl (by kernel_rfl) [.tmp 4] rfl (by kernel_rfl) (Nat.le_of_ble_eq_true rfl) .n rfl ?_
  unfold bF.f at H
  revert H; refine aK (fun t22 A H => (bQ [0] (aN.ac A) ⟨rfl, trivial⟩ rfl rfl rfl rfl rfl rfl rfl rfl (nd_ H (fun c H => (nd_ H (fun c H => (El.mk (aP _ _ nf_ nf_) ?_)))))))
  cases H
  exact eT [some 0] [] ((gX rfl)) ⟨rfl, trivial⟩ rfl
theorem gF.ac {a0 : Int} {a1 : Int} {a2 : Int} {r : Bool} (H : gF.f a0 a1 a2 = some r) : cK Try.prog G 60 [] [.int .i64 a0, .int .i64 a1, .int .i64 a2] [] (.bool r) := by
  refine bN tok hP Try.func60 rfl (by kernel_rfl) [.tmp 6] rfl (by kernel_rfl) (Nat.le_of_ble_eq_true rfl) (.l .n (.c .n .n)) rfl ?_
  unfold gF.f at H
  refine bT H (fun c H => ?_) (fun c H => ?_)
  refine Br.t ft_ (Br.t ft_ (Br.t ft_ (cu 80 [(6, .bool (decide (a0 ≤ a2)))] [] rfl rfl rfl ?_)))
  cases H
  exact rz rfl
  refine Br.f ff_ (Br.f ff_ (Br.f ff_ (cu 80 [(6, .bool false)] [] rfl rfl rfl ?_)))
  cases H
  exact rz rfl
theorem aX.l0_lp {F : (Exit → St → Prop) → St → Prop} {hv : List Tmp} {Q : Exit → St → Prop} {σ : St} {r : Bool} {k : Nat} {a0 : ByteArray} {x3 : Int} (H : aX.l0 k a0 x3 = some r) (rn : List (Option Nat)) (h1 : cM σ σ [] [(3, .int .i64 x3)] [] [] rn)
    (h2 : ∀ (k0 : Nat) (x3 : Int), k0 < k + 1 → aX.l0 k0 a0 x3 = some r → dF σ hv [] [(3, .int .i64 x3)] [] [] (F (fun e σ' => match e with | .normal => ∃ (y : Nat × Int) (rn : List (Option Nat)), (aX.l0 y.1 a0 y.2 = some r ∧ y.1 < k + 1) ∧ y.1 < k0 ∧ cM σ σ' [] [(3, .int .i64 y.2)] [] [] rn | e => Q e σ'))) : Lp F hv Q σ := by
  unfold Lp
  refine ⟨Nat × Int, fun x => aX.l0 x.1 a0 x.2 = some r ∧ x.1 < k + 1, fun x => x.1, [], fun x => [(3, .int .i64 x.2)], fun x => [], fun x => [], ⟨(k, x3), rn, ⟨H, Nat.lt_succ_self _⟩, h1⟩, ?_⟩
  rintro ⟨k, x3⟩ ⟨H, hk⟩
  exact h2 k x3 hk H
theorem aX.ac {k : Nat} {a0 : ByteArray} {r : Bool} (H : aX.f k a0 = some r) : cK Try.prog G 58 [] [.str a0] [] (.bool r) := by
  refine bN tok hP Try.func58 rfl (by kernel_rfl) [.tmp 2] rfl (by kernel_rfl) (Nat.le_of_ble_eq_true rfl) (.l .n (.l .n (.l (.l .n (.l (.c .n .n) (.l (.l .n (.c .n .n)) .n))) .n))) rfl ?_
  unfold aX.f at H
  revert H; refine aK (fun t165 A H => (cmk (gF.ac A) rfl rfl (dY H (fun c H => ?_) (fun c H => ?_))))
  refine aX.l0_lp (a0 := a0) (k := k) H [] (fq rfl rfl fi_ rfl) ?_
  intro k x3 hk H; rcases k with _ | k; exact bD H; rw [aX.l0] at H
  refine cu 80 [(0, .str a0), (3, .int .i64 x3), (12, .bool (decide (x3 < (a0.size : Int))))] [] rfl rfl rfl (bT H (fun c H => ?_) (fun c H => ?_))
  refine nd_ H (fun c H => (Nd.mk nf_ (bT H (fun c H => ?_) (fun c H => ?_))))
  refine Br.t ft_ (Br.t ft_ (bT H (fun c H => ?_) (fun c H => ?_)))
  refine Br.t ft_ (Br.t ft_ (Br.t ft_ (Br.t ft_ (Br.t rfl (Br.t rfl (Br.t rfl (cu 264 [(0, .str a0), (3, .int .i64 x3), (36, .bool (!true))] [] rfl rfl rfl (Br.f rfl (⟨(k, wrap64 (x3 + 1)), [], ⟨H, lt_⟩, lt_, (fq rfl rfl fi_ rfl)⟩)))))))))
  refine Br.f ff_ (Br.f ff_ (bT H (fun c H => ?_) (fun c H => ?_)))
  refine Br.t ft_ (Br.f ff_ (Br.t ft_ (Br.f ff_ (bT H (fun c H => ?_) (fun c H => ?_)))))
  refine Br.t ft_ (Br.t ft_ (cu 264 [(0, .str a0), (3, .int .i64 x3), (36, .bool (!true))] [] rfl rfl rfl (Br.f rfl (⟨(k, wrap64 (x3 + 1)), [], ⟨H, lt_⟩, lt_, (fq rfl rfl fi_ rfl)⟩))))
  refine Br.f ff_ (Br.f ff_ (cu 264 [(0, .str a0), (3, .int .i64 x3), (36, .bool (!(decide ((bt a0 x3) = 45))))] [] rfl rfl rfl (iW H (fun c H => ?_) (fun c H => ?_))))
  exact ⟨(k, wrap64 (x3 + 1)), [], ⟨H, lt_⟩, lt_, (fq rfl rfl fi_ rfl)⟩
  cases H
  exact rz rfl
  refine Br.f ff_ (Br.f ff_ (Br.f ff_ (Br.f ff_ (Br.f rfl (Br.f rfl (Br.f rfl (cu 264 [(0, .str a0), (3, .int .i64 x3), (36, .bool (!(decide ((bt a0 x3) = 45))))] [] rfl rfl rfl (iW H (fun c H => ?_) (fun c H => ?_)))))))))
  exact ⟨(k, wrap64 (x3 + 1)), [], ⟨H, lt_⟩, lt_, (fq rfl rfl fi_ rfl)⟩
  cases H
  exact rz rfl
  refine Br.f ff_ (Br.f ff_ (Br.f rfl (Br.f rfl (Br.f rfl (bT H (fun c H => ?_) (fun c H => ?_))))))
  refine Br.t ft_ (Br.f rfl (Br.t ft_ (Br.f rfl (bT H (fun c H => ?_) (fun c H => ?_)))))
  refine Br.t ft_ (Br.t ft_ (cu 264 [(0, .str a0), (3, .int .i64 x3), (36, .bool (!true))] [] rfl rfl rfl (Br.f rfl (⟨(k, wrap64 (x3 + 1)), [], ⟨H, lt_⟩, lt_, (fq rfl rfl fi_ rfl)⟩))))
  refine Br.f ff_ (Br.f ff_ (cu 264 [(0, .str a0), (3, .int .i64 x3), (36, .bool (!(decide ((bt a0 x3) = 45))))] [] rfl rfl rfl (iW H (fun c H => ?_) (fun c H => ?_))))
  exact ⟨(k, wrap64 (x3 + 1)), [], ⟨H, lt_⟩, lt_, (fq rfl rfl fi_ rfl)⟩
  cases H
  exact rz rfl
  refine Br.f ff_ (Br.f rfl (Br.f ff_ (Br.f rfl (Br.f rfl (Br.f rfl (Br.f rfl (cu 264 [(0, .str a0), (3, .int .i64 x3), (36, .bool (!(decide ((bt a0 x3) = 45))))] [] rfl rfl rfl (iW H (fun c H => ?_) (fun c H => ?_)))))))))
  exact ⟨(k, wrap64 (x3 + 1)), [], ⟨H, lt_⟩, lt_, (fq rfl rfl fi_ rfl)⟩
  cases H
  exact rz rfl
  cases H
  exact rz rfl
  cases H
  exact rz rfl
theorem cG.l0_lp {F : (Exit → St → Prop) → St → Prop} {hv : List Tmp} {Q : Exit → St → Prop} {σ : St} {r : Bool} {k : Nat} {l0 : List ByteArray} {a1 : ByteArray} {x5 : Int} (H : cG.l0 k l0 a1 x5 = some r) (rn : List (Option Nat)) (h1 : cM σ σ [] [(5, .int .i64 x5)] [] [] rn)
    (h2 : ∀ (k0 : Nat) (x5 : Int), k0 < k + 1 → cG.l0 k0 l0 a1 x5 = some r → dF σ hv [] [(5, .int .i64 x5)] [] [] (F (fun e σ' => match e with | .normal => ∃ (y : Nat × Int) (rn : List (Option Nat)), (cG.l0 y.1 l0 a1 y.2 = some r ∧ y.1 < k + 1) ∧ y.1 < k0 ∧ cM σ σ' [] [(5, .int .i64 y.2)] [] [] rn | e => Q e σ'))) : Lp F hv Q σ := by
  unfold Lp
  refine ⟨Nat × Int, fun x => cG.l0 x.1 l0 a1 x.2 = some r ∧ x.1 < k + 1, fun x => x.1, [], fun x => [(5, .int .i64 x.2)], fun x => [], fun x => [], ⟨(k, x5), rn, ⟨H, Nat.lt_succ_self _⟩, h1⟩, ?_⟩
  rintro ⟨k, x5⟩ ⟨H, hk⟩
  exact h2 k x5 hk H
theorem cG.ac {k : Nat} {l0 : List ByteArray} {a1 : ByteArray} {r : Bool} (H : cG.f k l0 a1 = some r) : cK Try.prog G 18 [] [(aG l0), .str a1] [] (.bool r) := by
  refine bN tok hP Try.func18 rfl (by kernel_rfl) [.tmp 4] rfl (by kernel_rfl) (Nat.le_of_ble_eq_true rfl) (.l .n (.l (.l .n (.l .n (.l (.c .n .n) .n))) .n)) rfl ?_
  unfold cG.f at H
  refine cG.l0_lp (l0 := l0) (a1 := a1) (k := k) H [] (fq rfl rfl fi_ rfl) ?_
  intro k x5 hk H; rcases k with _ | k; exact bD H; rw [cG.l0] at H
  refine bT H (fun c H => ?_) (fun c H => ?_)
  refine nd_ H (fun c H => (Nd.mk nf_ (El.mk (aP _ _ nf_ nf_) (cu 96 [(0, (aG l0)), (1, .str a1), (5, .int .i64 x5), (17, .bool (decide ((bE ByteArray.empty l0 x5).toList = a1.toList)))] [] rfl rfl rfl (bT H (fun c H => ?_) (fun c H => ?_))))))
  cases H
  exact rz rfl
  exact ⟨(k, wrap64 (x5 + 1)), [], ⟨H, lt_⟩, lt_, (fq rfl rfl fi_ rfl)⟩
  cases H
  exact rz rfl
theorem eH.l0_lp {F : (Exit → St → Prop) → St → Prop} {hv : List Tmp} {Q : Exit → St → Prop} {σ : St} {r : (List ByteArray) × (List aF) × (List aB) × (List aA) × Int} {k : Nat} {a0_0 : List ByteArray} {a0_1 : List aF} {a0_2 : List aB} {a0_3 : List aA} {l1 : List ByteArray} {x6 : Int} (H : eH.l0 k a0_0 a0_1 a0_2 a0_3 l1 x6 = some r) (rn : List (Option Nat)) (h1 : cM σ σ [] [(6, .int .i64 x6)] [] [] rn)
    (h2 : ∀ (k0 : Nat) (x6 : Int), k0 < k + 1 → eH.l0 k0 a0_0 a0_1 a0_2 a0_3 l1 x6 = some r → dF σ hv [] [(6, .int .i64 x6)] [] [] (F (fun e σ' => match e with | .normal => ∃ (y : Nat × Int) (rn : List (Option Nat)), (eH.l0 y.1 a0_0 a0_1 a0_2 a0_3 l1 y.2 = some r ∧ y.1 < k + 1) ∧ y.1 < k0 ∧ cM σ σ' [] [(6, .int .i64 y.2)] [] [] rn | e => Q e σ'))) : Lp F hv Q σ := by
  unfold Lp
  refine ⟨Nat × Int, fun x => eH.l0 x.1 a0_0 a0_1 a0_2 a0_3 l1 x.2 = some r ∧ x.1 < k + 1, fun x => x.1, [], fun x => [(6, .int .i64 x.2)], fun x => [], fun x => [], ⟨(k, x6), rn, ⟨H, Nat.lt_succ_self _⟩, h1⟩, ?_⟩
  rintro ⟨k, x6⟩ ⟨H, hk⟩
  exact h2 k x6 hk H
theorem eH.ac {k : Nat} {a0_0 : List ByteArray} {a0_1 : List aF} {a0_2 : List aB} {a0_3 : List aA} {l1 : List ByteArray} {r : (List ByteArray) × (List aF) × (List aB) × (List aA) × Int} (H : eH.f k a0_0 a0_1 a0_2 a0_3 l1 = some r) : cK Try.prog G 68 [] [.agg [(aG a0_0), (aE a0_1), (aD a0_2), (aC a0_3)], (aG l1)] [] (.tup [.agg [(aG r.1), (aE r.2.1), (aD r.2.2.1), (aC r.2.2.2.1)], .int .i64 r.2.2.2.2]) := by
  refine bN tok hP Try.func68 rfl (by kernel_rfl) [.cell 4 28, .tmp 5] rfl (by kernel_rfl) (Nat.le_of_ble_eq_true rfl) (.l .n (.l (.c .n (.l (.c .n .n) .n)) (.l (.c .n .n) (.l .n (.l .n (.l (.l (.c .n .n) .n) (.c .n .n))))))) rfl ?_
  unfold eH.f at H
  refine iW H (fun c H => ?_) (fun c H => ?_)
  refine Br.f ff_ (Nd.mk (by decide) (nd_ H (fun c H => (El.mk (aP _ _ nf_ nf_) (Br.f ff_ (Br.f ff_ ?_))))))
  revert H; refine aK (fun t201 A H => (cmk (aX.ac A) rfl rfl (Br.f ff_ (Br.f ff_ (cu 104 [(1, (aG l1)), (2, .bp 0 0), (4, .bp 8 0), (16, .bool (!t201))] [(0, .box [(aG a0_0), (aE a0_1), (aD a0_2), (aC a0_3)]), (8, .box [.nil, .nil, .nil, .nil])] rfl rfl rfl (dY H (fun c H => ?_) (fun c H => ?_)))))))
  refine Nd.mk (by decide) (Nd.mk nf_ (El.mk (aP _ _ nf_ nf_) ?_))
  revert H; refine aK (fun t202 A H => (cmk (cG.ac A) rfl rfl (cu 152 [(1, (aG l1)), (2, .bp 0 0), (4, .bp 8 0), (23, .bool t202)] [(0, .box [(aG a0_0), (aE a0_1), (aD a0_2), (aC a0_3)]), (8, .box [.nil, .nil, .nil, .nil])] rfl rfl rfl (iI H (fun c H => ?_) (fun c H => ?_)))))
  cases H
  exact rts rfl
  refine bT H (fun c H => ?_) (fun c H => ?_)
  cases H
  exact rts rfl
  refine eH.l0_lp (a0_0 := a0_0) (a0_1 := a0_1) (a0_2 := a0_2) (a0_3 := a0_3) (l1 := l1) (k := k) H [] (fq rfl rfl fi_ rfl) ?_
  intro k x6 hk H; rcases k with _ | k; exact bD H; rw [eH.l0] at H
  refine bT H (fun c H => ?_) (fun c H => ?_)
  refine Br.t ft_ (Br.t ft_ (Br.t ft_ (nd_ H (fun c H => (Nd.mk nf_ (El.mk (aP _ _ nf_ nf_) (Br.t ft_ (Br.t ft_ (Br.t ft_ (Nd.mk (by decide) (Nd.mk nf_ (El.mk (aP _ _ nf_ nf_) (Br.t ft_ (Br.t ft_ (Br.t ft_ (cu 320 [(1, (aG l1)), (2, .bp 0 0), (4, .bp 8 0), (6, .int .i64 x6), (45, .bool (Op.bytesLess (bE ByteArray.empty a0_0 x6).toList (bE ByteArray.empty l1 1).toList))] [(0, .box [(aG a0_0), (aE a0_1), (aD a0_2), (aC a0_3)]), (8, .box [.nil, .nil, .nil, .nil])] rfl rfl rfl (iI H (fun c H => ?_) (fun c H => ?_))))))))))))))))))
  exact ⟨(k, wrap64 (x6 + 1)), [], ⟨H, lt_⟩, lt_, (fq rfl rfl fi_ rfl)⟩
  refine Or.inl (Nd.mk nf_ (nd_ H (fun c H => (nd_ H (fun c H => (Nd.mk (by decide) (Nd.mk nf_ (El.mk (aP _ _ nf_ nf_) (Or.inl (nd_ H (fun c H => (Nd.mk nf_ (Nd.mk nf_ (nd_ H (fun c H => (iQ 464 [(2, .bp 0 0), (4, .bp 8 0)] [(0, .box [.own 440 (0 + (x6).toNat + 1 + (a0_0.length - (x6).toNat)), (aE a0_1), (aD a0_2), (aC a0_3)]), (8, .box [.nil, .nil, .nil, .nil]), (440, .arr 9 1 ((((([] : List ByteArray) ++ (a0_0.take (x6).toNat)) ++ ([bE ByteArray.empty l1 1] : List ByteArray)) ++ (a0_0.drop (x6).toNat)).map bB))] rfl ⟨.inl rfl, ⟨.inl rfl, trivial⟩⟩ ⟨rfl, ⟨rfl, ⟨fm_, trivial⟩⟩⟩ ?_))))))))))))))))
  cases H
  exact iG [440] (dL (gW (cC (jH rfl lm_ lm_ rfl) (cC (fW rfl) (cC (fW rfl) (cC (fW rfl) (hQ)))))) (dL (gX rfl) (gJ)))
  refine Br.f ff_ (Br.f ff_ (Br.f ff_ (Br.f ff_ (Br.f ff_ (Br.f ff_ (Br.f ff_ (Br.f ff_ (Br.f ff_ (cu 320 [(1, (aG l1)), (2, .bp 0 0), (4, .bp 8 0), (6, .int .i64 x6), (45, .bool false)] [(0, .box [(aG a0_0), (aE a0_1), (aD a0_2), (aC a0_3)]), (8, .box [.nil, .nil, .nil, .nil])] rfl rfl rfl (Br.f rfl (Or.inl (nd_ H (fun c H => (nd_ H (fun c H => (nd_ H (fun c H => (Nd.mk (by decide) (Nd.mk nf_ (El.mk (aP _ _ nf_ nf_) (Or.inl (nd_ H (fun c H => (Nd.mk nf_ (Nd.mk nf_ (nd_ H (fun c H => (iQ 464 [(2, .bp 0 0), (4, .bp 8 0)] [(0, .box [.own 440 (0 + (x6).toNat + 1 + (a0_0.length - (x6).toNat)), (aE a0_1), (aD a0_2), (aC a0_3)]), (8, .box [.nil, .nil, .nil, .nil]), (440, .arr 9 1 ((((([] : List ByteArray) ++ (a0_0.take (x6).toNat)) ++ ([bE ByteArray.empty l1 1] : List ByteArray)) ++ (a0_0.drop (x6).toNat)).map bB))] rfl ⟨.inl rfl, ⟨.inl rfl, trivial⟩⟩ ⟨rfl, ⟨rfl, ⟨fm_, trivial⟩⟩⟩ ?_))))))))))))))))))))))))))))
  cases H
  exact iG [440] (dL (gW (cC (jH rfl lm_ lm_ rfl) (cC (fW rfl) (cC (fW rfl) (cC (fW rfl) (hQ)))))) (dL (gX rfl) (gJ)))
  refine cu 128 [(4, .bp 8 0), (5, .int .i64 3)] [(8, .box [(aG a0_0), (aE a0_1), (aD a0_2), (aC a0_3)])] rfl rfl rfl ?_
  cases H
  exact rts rfl
  refine Br.t ft_ (Br.t ft_ (Br.t ft_ (Br.t ft_ (Br.t ft_ (cu 104 [(1, (aG l1)), (2, .bp 0 0), (4, .bp 8 0), (16, .bool true)] [(0, .box [(aG a0_0), (aE a0_1), (aD a0_2), (aC a0_3)]), (8, .box [.nil, .nil, .nil, .nil])] rfl rfl rfl (Br.t rfl (cu 128 [(4, .bp 8 0), (5, .int .i64 3)] [(8, .box [(aG a0_0), (aE a0_1), (aD a0_2), (aC a0_3)])] rfl rfl rfl ?_)))))))
  cases H
  exact rts rfl
theorem eJ.l0_lp {F : (Exit → St → Prop) → St → Prop} {hv : List Tmp} {Q : Exit → St → Prop} {σ : St} {r : Bool} {k : Nat} {a0_1 : List aF} {a1 : ByteArray} {a2 : ByteArray} {x7 : Int} (H : eJ.l0 k a0_1 a1 a2 x7 = some r) (rn : List (Option Nat)) (h1 : cM σ σ [] [(7, .int .i64 x7)] [] [] rn)
    (h2 : ∀ (k0 : Nat) (x7 : Int), k0 < k + 1 → eJ.l0 k0 a0_1 a1 a2 x7 = some r → dF σ hv [] [(7, .int .i64 x7)] [] [] (F (fun e σ' => match e with | .normal => ∃ (y : Nat × Int) (rn : List (Option Nat)), (eJ.l0 y.1 a0_1 a1 a2 y.2 = some r ∧ y.1 < k + 1) ∧ y.1 < k0 ∧ cM σ σ' [] [(7, .int .i64 y.2)] [] [] rn | e => Q e σ'))) : Lp F hv Q σ := by
  unfold Lp
  refine ⟨Nat × Int, fun x => eJ.l0 x.1 a0_1 a1 a2 x.2 = some r ∧ x.1 < k + 1, fun x => x.1, [], fun x => [(7, .int .i64 x.2)], fun x => [], fun x => [], ⟨(k, x7), rn, ⟨H, Nat.lt_succ_self _⟩, h1⟩, ?_⟩
  rintro ⟨k, x7⟩ ⟨H, hk⟩
  exact h2 k x7 hk H
theorem eJ.ac {k : Nat} {a0_0 : List ByteArray} {a0_1 : List aF} {a0_2 : List aB} {a0_3 : List aA} {a1 : ByteArray} {a2 : ByteArray} {r : Bool} (H : eJ.f k a0_0 a0_1 a0_2 a0_3 a1 a2 = some r) : cK Try.prog G 84 [] [.agg [(aG a0_0), (aE a0_1), (aD a0_2), (aC a0_3)], .str a1, .str a2] [] (.bool r) := by
  refine bN tok hP Try.func84 rfl (by kernel_rfl) [.tmp 6] rfl (by kernel_rfl) (Nat.le_of_ble_eq_true rfl) (.l .n (.l (.l .n (.l .n (.l (.c .n (.l (.c .n .n) .n)) .n))) .n)) rfl ?_
  unfold eJ.f at H
  refine eJ.l0_lp (a0_1 := a0_1) (a1 := a1) (a2 := a2) (k := k) H [] (fq rfl rfl fi_ rfl) ?_
  intro k x7 hk H; rcases k with _ | k; exact bD H; rw [eJ.l0] at H
  refine bT H (fun c H => ?_) (fun c H => ?_)
  refine nd_ H (fun c H => (Nd.mk nf_ (El.mk (dO _ _ nf_ nf_) (bT H (fun c H => ?_) (fun c H => ?_)))))
  refine Br.t ft_ (Br.t ft_ (Br.t ft_ (Nd.mk nf_ (Nd.mk nf_ (El.mk (dO _ _ nf_ nf_) (Br.t ft_ (Br.t ft_ (Br.t ft_ (Br.t ft_ (Br.t ft_ (bT H (fun c H => ?_) (fun c H => ?_))))))))))))
  refine Br.t ft_ (Br.t ft_ (Br.t ft_ (Br.t ft_ (Br.t ft_ (Br.t ft_ (Br.t ft_ (Br.t ft_ (Br.t ft_ (Br.t ft_ (cu 368 [(1, .str a1), (2, .str a2), (3, .bp 0 0), (7, .int .i64 x7), (52, .bool true)] [(0, .box [(aG a0_0), (aE a0_1), (aD a0_2), (aC a0_3)])] rfl rfl rfl (Br.t rfl (cu 376 [(6, .bool true)] [] rfl rfl rfl ?_))))))))))))
  cases H
  exact rz rfl
  refine Br.f ff_ (Br.f ff_ (Br.f ff_ (Nd.mk nf_ (Nd.mk nf_ (El.mk (dO _ _ nf_ nf_) (Br.f ff_ (Br.f ff_ (Br.f ff_ (Br.f ff_ (Br.f ff_ (bT H (fun c H => ?_) (fun c H => ?_))))))))))))
  refine Br.t ft_ (Br.t ft_ (Br.t ft_ (Nd.mk nf_ (Nd.mk nf_ (El.mk (dO _ _ nf_ nf_) (Br.t ft_ (Br.t ft_ (Br.t ft_ (Br.t ft_ (Br.f ff_ (Br.t ft_ (Br.f ff_ (cu 368 [(1, .str a1), (2, .str a2), (3, .bp 0 0), (7, .int .i64 x7), (52, .bool (decide (((bV a0_1 x7).f1).toList = a1.toList)))] [(0, .box [(aG a0_0), (aE a0_1), (aD a0_2), (aC a0_3)])] rfl rfl rfl (bT H (fun c H => ?_) (fun c H => ?_)))))))))))))))
  refine cu 376 [(6, .bool true)] [] rfl rfl rfl ?_
  cases H
  exact rz rfl
  exact ⟨(k, wrap64 (x7 + 1)), [], ⟨H, lt_⟩, lt_, (fq rfl rfl fi_ rfl)⟩
  refine Br.f ff_ (Br.f ff_ (Br.f ff_ (Br.f ff_ (Br.f ff_ (Br.f ff_ (Br.f ff_ (Br.f ff_ (Br.f ff_ (Br.f ff_ (cu 368 [(1, .str a1), (2, .str a2), (3, .bp 0 0), (7, .int .i64 x7), (52, .bool false)] [(0, .box [(aG a0_0), (aE a0_1), (aD a0_2), (aC a0_3)])] rfl rfl rfl (Br.f rfl (⟨(k, wrap64 (x7 + 1)), [], ⟨H, lt_⟩, lt_, (fq rfl rfl fi_ rfl)⟩))))))))))))
  refine Br.f ff_ (Br.f ff_ (Br.f ff_ (Br.f ff_ (Br.f ff_ (Br.f ff_ (Br.f ff_ (Br.f ff_ (Br.f rfl (Br.f rfl (Br.f rfl (Br.f rfl (Nd.mk nf_ (Nd.mk nf_ (El.mk (dO _ _ nf_ nf_) (Br.f rfl (Br.f rfl (Br.f rfl (Br.f rfl (Br.f rfl (bT H (fun c H => ?_) (fun c H => ?_)))))))))))))))))))))
  refine Br.t ft_ (Br.t ft_ (Br.t ft_ (Nd.mk nf_ (Nd.mk nf_ (El.mk (dO _ _ nf_ nf_) (Br.t ft_ (Br.t ft_ (Br.t ft_ (Br.t ft_ (Br.f rfl (Br.t ft_ (Br.f rfl (cu 368 [(1, .str a1), (2, .str a2), (3, .bp 0 0), (7, .int .i64 x7), (52, .bool (decide (((bV a0_1 x7).f1).toList = a1.toList)))] [(0, .box [(aG a0_0), (aE a0_1), (aD a0_2), (aC a0_3)])] rfl rfl rfl (bT H (fun c H => ?_) (fun c H => ?_)))))))))))))))
  refine cu 376 [(6, .bool true)] [] rfl rfl rfl ?_
  cases H
  exact rz rfl
  exact ⟨(k, wrap64 (x7 + 1)), [], ⟨H, lt_⟩, lt_, (fq rfl rfl fi_ rfl)⟩
  refine Br.f ff_ (Br.f ff_ (Br.f ff_ (Br.f ff_ (Br.f ff_ (Br.f ff_ (Br.f ff_ (Br.f rfl (Br.f ff_ (Br.f rfl (cu 368 [(1, .str a1), (2, .str a2), (3, .bp 0 0), (7, .int .i64 x7), (52, .bool false)] [(0, .box [(aG a0_0), (aE a0_1), (aD a0_2), (aC a0_3)])] rfl rfl rfl (Br.f rfl (⟨(k, wrap64 (x7 + 1)), [], ⟨H, lt_⟩, lt_, (fq rfl rfl fi_ rfl)⟩))))))))))))
  cases H
  exact rz rfl
theorem fU.ac {a0_0 : ByteArray} {a0_1 : ByteArray} {a1_0 : ByteArray} {a1_1 : ByteArray} {r : Bool} (H : fU.f a0_0 a0_1 a1_0 a1_1 = some r) : cK Try.prog G 59 [] [.agg [.str a0_0, .str a0_1], .agg [.str a1_0, .str a1_1]] [] (.bool r) := by
  refine bN tok hP Try.func59 rfl (by kernel_rfl) [.tmp 4] rfl (by kernel_rfl) (Nat.le_of_ble_eq_true rfl) (.l .n (.c .n .n)) rfl ?_
  unfold fU.f at H
  refine iI H (fun c H => ?_) (fun c H => ?_)
  refine Br.t ft_ (Br.t ft_ (Br.t ft_ (Br.t ft_ (Br.t ft_ (Br.t ft_ (Br.t ft_ (cu 184 [(4, .bool true)] [] rfl rfl rfl ?_)))))))
  cases H
  exact rz rfl
  refine Br.f ff_ (Br.f ff_ (Br.f ff_ (Br.f ff_ (Br.f ff_ (bT H (fun c H => ?_) (fun c H => ?_))))))
  refine Br.t ft_ (Br.t ft_ (Br.t ft_ (Br.t ft_ (Br.f ff_ (Br.t ft_ (Br.f ff_ (cu 184 [(4, .bool (Op.bytesLess a0_1.toList a1_1.toList))] [] rfl rfl rfl ?_)))))))
  cases H
  exact rz rfl
  refine Br.f ff_ (Br.f ff_ (Br.f ff_ (Br.f ff_ (Br.f ff_ (Br.f ff_ (Br.f ff_ (cu 184 [(4, .bool false)] [] rfl rfl rfl ?_)))))))
  cases H
  exact rz rfl
theorem dB.l0_lp {F : (Exit → St → Prop) → St → Prop} {hv : List Tmp} {Q : Exit → St → Prop} {σ : St} {r : (List ByteArray) × (List aF) × (List aB) × (List aA) × Int} {k : Nat} {a0_0 : List ByteArray} {a0_1 : List aF} {a0_2 : List aB} {a0_3 : List aA} {l1 : List ByteArray} {x7 : Int} (H : dB.l0 k a0_0 a0_1 a0_2 a0_3 l1 x7 = some r) (rn : List (Option Nat)) (h1 : cM σ σ [] [(7, .int .i64 x7)] [] [] rn)
    (h2 : ∀ (k0 : Nat) (x7 : Int), k0 < k + 1 → dB.l0 k0 a0_0 a0_1 a0_2 a0_3 l1 x7 = some r → dF σ hv [] [(7, .int .i64 x7)] [] [] (F (fun e σ' => match e with | .normal => ∃ (y : Nat × Int) (rn : List (Option Nat)), (dB.l0 y.1 a0_0 a0_1 a0_2 a0_3 l1 y.2 = some r ∧ y.1 < k + 1) ∧ y.1 < k0 ∧ cM σ σ' [] [(7, .int .i64 y.2)] [] [] rn | e => Q e σ'))) : Lp F hv Q σ := by
  unfold Lp
  refine ⟨Nat × Int, fun x => dB.l0 x.1 a0_0 a0_1 a0_2 a0_3 l1 x.2 = some r ∧ x.1 < k + 1, fun x => x.1, [], fun x => [(7, .int .i64 x.2)], fun x => [], fun x => [], ⟨(k, x7), rn, ⟨H, Nat.lt_succ_self _⟩, h1⟩, ?_⟩
  rintro ⟨k, x7⟩ ⟨H, hk⟩
  exact h2 k x7 hk H
theorem dB.l1_lp {F : (Exit → St → Prop) → St → Prop} {hv : List Tmp} {Q : Exit → St → Prop} {σ : St} {r : (List ByteArray) × (List aF) × (List aB) × (List aA) × Int} {k : Nat} {a0_0 : List ByteArray} {a0_1 : List aF} {a0_2 : List aB} {a0_3 : List aA} {l1 : List ByteArray} {x7_1 : Int} (H : dB.l1 k a0_0 a0_1 a0_2 a0_3 l1 x7_1 = some r) (rn : List (Option Nat)) (h1 : cM σ σ [] [(7, .int .i64 x7_1)] [] [] rn)
    (h2 : ∀ (k0 : Nat) (x7_1 : Int), k0 < k + 1 → dB.l1 k0 a0_0 a0_1 a0_2 a0_3 l1 x7_1 = some r → dF σ hv [] [(7, .int .i64 x7_1)] [] [] (F (fun e σ' => match e with | .normal => ∃ (y : Nat × Int) (rn : List (Option Nat)), (dB.l1 y.1 a0_0 a0_1 a0_2 a0_3 l1 y.2 = some r ∧ y.1 < k + 1) ∧ y.1 < k0 ∧ cM σ σ' [] [(7, .int .i64 y.2)] [] [] rn | e => Q e σ'))) : Lp F hv Q σ := by
  unfold Lp
  refine ⟨Nat × Int, fun x => dB.l1 x.1 a0_0 a0_1 a0_2 a0_3 l1 x.2 = some r ∧ x.1 < k + 1, fun x => x.1, [], fun x => [(7, .int .i64 x.2)], fun x => [], fun x => [], ⟨(k, x7_1), rn, ⟨H, Nat.lt_succ_self _⟩, h1⟩, ?_⟩
  rintro ⟨k, x7_1⟩ ⟨H, hk⟩
  exact h2 k x7_1 hk H
theorem dB.ac {k : Nat} {a0_0 : List ByteArray} {a0_1 : List aF} {a0_2 : List aB} {a0_3 : List aA} {l1 : List ByteArray} {r : (List ByteArray) × (List aF) × (List aB) × (List aA) × Int} (H : dB.f k a0_0 a0_1 a0_2 a0_3 l1 = some r) : cK Try.prog G 69 [] [.agg [(aG a0_0), (aE a0_1), (aD a0_2), (aC a0_3)], (aG l1)] [] (.tup [.agg [(aG r.1), (aE r.2.1), (aD r.2.2.1), (aC r.2.2.2.1)], .int .i64 r.2.2.2.2]) := by
  refine bN tok hP Try.func69 rfl (by kernel_rfl) [.cell 4 28, .tmp 5] rfl (by kernel_rfl) (Nat.le_of_ble_eq_true rfl) (.l .n (.l (.c .n (.l (.c .n .n) .n)) (.l (.c .n .n) (.l (.c .n (.l (.c .n .n) .n)) (.l (.c .n .n) (.l .n (.l (.c .n .n) (.l .n (.l (.l (.c .n .n) .n) (.c .n .n)))))))))) rfl ?_
  unfold dB.f at H
  refine iW H (fun c H => ?_) (fun c H => ?_)
  refine Br.f ff_ (Nd.mk (by decide) (nd_ H (fun c H => (El.mk (aP _ _ nf_ nf_) (Br.f ff_ (Br.f ff_ ?_))))))
  revert H; refine aK (fun t329 A H => (cmk (aX.ac A) rfl rfl (Br.f ff_ (Br.f ff_ (dY H (fun c H => ?_) (fun c H => ?_))))))
  refine Br.f ff_ (Nd.mk (by decide) (nd_ H (fun c H => (El.mk (aP _ _ nf_ nf_) (Br.f ff_ (Br.f ff_ ?_))))))
  revert H; refine aK (fun t330 A H => (cmk (aX.ac A) rfl rfl (Br.f ff_ (Br.f ff_ (dY H (fun c H => ?_) (fun c H => ?_))))))
  refine Br.f ff_ (Nd.mk (by decide) (Nd.mk nf_ (El.mk (aP _ _ nf_ nf_) (Br.f ff_ (Br.f ff_ (Br.f ff_ (Nd.mk (by decide) (Nd.mk nf_ (El.mk (aP _ _ nf_ nf_) (Br.f ff_ (Br.f ff_ (Br.f ff_ (cu 232 [(1, (aG l1)), (2, .bp 0 0), (4, .bp 8 0), (33, .bool (decide ((bE ByteArray.empty l1 1).toList = (bE ByteArray.empty l1 2).toList)))] [(0, .box [(aG a0_0), (aE a0_1), (aD a0_2), (aC a0_3)]), (8, .box [.nil, .nil, .nil, .nil])] rfl rfl rfl (bT H (fun c H => ?_) (fun c H => ?_)))))))))))))))
  refine cu 256 [(4, .bp 8 0), (5, .int .i64 3)] [(8, .box [(aG a0_0), (aE a0_1), (aD a0_2), (aC a0_3)])] rfl rfl rfl ?_
  cases H
  exact rts rfl
  refine Nd.mk (by decide) (Nd.mk nf_ (El.mk (aP _ _ nf_ nf_) (Nd.mk (by decide) (Nd.mk nf_ (El.mk (aP _ _ nf_ nf_) ?_)))))
  revert H; refine aK (fun t331 A H => (cmk (eJ.ac A) rfl rfl (cu 296 [(1, (aG l1)), (2, .bp 0 0), (4, .bp 8 0), (42, .bool t331)] [(0, .box [(aG a0_0), (aE a0_1), (aD a0_2), (aC a0_3)]), (8, .box [.nil, .nil, .nil, .nil])] rfl rfl rfl (iI H (fun c H => ?_) (fun c H => ?_)))))
  cases H
  exact rts rfl
  refine Nd.mk (by decide) (Nd.mk nf_ (El.mk (aP _ _ nf_ nf_) ?_))
  revert H; refine aK (fun t332 A H => (cmk (cG.ac A) rfl rfl (dY H (fun c H => ?_) (fun c H => ?_))))
  refine Br.f ff_ (Br.f ff_ (Br.f ff_ (Nd.mk (by decide) (Nd.mk nf_ (El.mk (aP _ _ nf_ nf_) (Br.f ff_ (Br.f ff_ ?_)))))))
  revert H; refine aK (fun t333 A H => (cmk (cG.ac A) rfl rfl (Br.f ff_ (Br.f ff_ (cu 424 [(1, (aG l1)), (2, .bp 0 0), (4, .bp 8 0), (59, .bool (!t333))] [(0, .box [(aG a0_0), (aE a0_1), (aD a0_2), (aC a0_3)]), (8, .box [.nil, .nil, .nil, .nil])] rfl rfl rfl (dY H (fun c H => ?_) (fun c H => ?_)))))))
  refine cu 456 [(1, (aG l1)), (2, .bp 0 0), (4, .bp 8 0), (64, .bool (decide ((a0_1.length : Int) ≥ 12)))] [(0, .box [(aG a0_0), (aE a0_1), (aD a0_2), (aC a0_3)]), (8, .box [.nil, .nil, .nil, .nil])] rfl rfl rfl (bT H (fun c H => ?_) (fun c H => ?_))
  cases H
  exact rts rfl
  refine Nd.mk (by decide) (Nd.mk nf_ (El.mk (aP _ _ nf_ nf_) (Nd.mk (by decide) (Nd.mk nf_ (El.mk (aP _ _ nf_ nf_) (cu 568 [(1, (aG l1)), (2, .bp 0 0), (4, .bp 8 0), (6, .bp 512 0), (77, .bool (Op.bytesLess (bE ByteArray.empty l1 2).toList (bE ByteArray.empty l1 1).toList))] [(0, .box [(aG a0_0), (aE a0_1), (aD a0_2), (aC a0_3)]), (8, .box [.nil, .nil, .nil, .nil]), (512, .box [.str (bE ByteArray.empty l1 1), .str (bE ByteArray.empty l1 2)])] rfl rfl rfl (iI H (fun c H => ?_) (fun c H => ?_))))))))
  refine Nd.mk (by decide) (Nd.mk nf_ (El.mk (aP _ _ nf_ nf_) (Nd.mk (by decide) (Nd.mk nf_ (El.mk (aP _ _ nf_ nf_) (dB.l0_lp (a0_0 := a0_0) (a0_1 := a0_1) (a0_2 := a0_2) (a0_3 := a0_3) (l1 := l1) (k := k) H [] (fq rfl rfl fi_ rfl) ?_))))))
  intro k x7 hk H; rcases k with _ | k; exact bD H; rw [dB.l0] at H
  refine bT H (fun c H => ?_) (fun c H => ?_)
  refine Br.t ft_ (Br.t ft_ (Br.t ft_ (nd_ H (fun c H => (Nd.mk nf_ (El.mk (dO _ _ nf_ nf_) (Br.t ft_ (Br.t ft_ (Br.t ft_ ?_)))))))))
  revert H; refine aK (fun t334 A H => (cmk (fU.ac A) rfl rfl (Br.t ft_ (cu 752 [(2, .bp 0 0), (4, .bp 8 0), (6, .bp 512 0), (7, .int .i64 x7), (98, .bool t334)] [(0, .box [(aG a0_0), (aE a0_1), (aD a0_2), (aC a0_3)]), (8, .box [.nil, .nil, .nil, .nil]), (512, .box [.str (bE ByteArray.empty l1 2), .str (bE ByteArray.empty l1 1)])] rfl rfl rfl (iI H (fun c H => ?_) (fun c H => ?_))))))
  exact ⟨(k, wrap64 (x7 + 1)), [], ⟨H, lt_⟩, lt_, (fq rfl rfl fi_ rfl)⟩
  refine Or.inl (Nd.mk nf_ (nd_ H (fun c H => (nd_ H (fun c H => (Or.inl (nd_ H (fun c H => (Nd.mk nf_ (Nd.mk nf_ (nd_ H (fun c H => (iQ 880 [(2, .bp 0 0), (4, .bp 8 0)] [(0, .box [(aG a0_0), .own 856 (0 + (x7).toNat + 1 + (a0_1.length - (x7).toNat)), (aD a0_2), (aC a0_3)]), (8, .box [.nil, .nil, .nil, .nil]), (856, .arr 66 2 ((((([] : List aF) ++ (a0_1.take (x7).toNat)) ++ ([(⟨bE ByteArray.empty l1 2, bE ByteArray.empty l1 1⟩ : aF)] : List aF)) ++ (a0_1.drop (x7).toNat)).map aV))] rfl ⟨.inl rfl, ⟨.inl rfl, trivial⟩⟩ ⟨rfl, ⟨rfl, ⟨fm_, trivial⟩⟩⟩ ?_)))))))))))))
  cases H
  exact iG [856] (dL (gW (cC (fW rfl) (cC (jH rfl lm_ lm_ rfl) (cC (fW rfl) (cC (fW rfl) (hQ)))))) (dL (gX rfl) (gJ)))
  refine Br.f ff_ (Br.f ff_ (Br.f ff_ (Br.f ff_ (Br.f ff_ (Br.f ff_ (Br.f ff_ (cu 752 [(2, .bp 0 0), (4, .bp 8 0), (6, .bp 512 0), (7, .int .i64 x7), (98, .bool false)] [(0, .box [(aG a0_0), (aE a0_1), (aD a0_2), (aC a0_3)]), (8, .box [.nil, .nil, .nil, .nil]), (512, .box [.str (bE ByteArray.empty l1 2), .str (bE ByteArray.empty l1 1)])] rfl rfl rfl (Br.f rfl (Or.inl (nd_ H (fun c H => (nd_ H (fun c H => (nd_ H (fun c H => (Or.inl (nd_ H (fun c H => (Nd.mk nf_ (Nd.mk nf_ (nd_ H (fun c H => (iQ 880 [(2, .bp 0 0), (4, .bp 8 0)] [(0, .box [(aG a0_0), .own 856 (0 + (x7).toNat + 1 + (a0_1.length - (x7).toNat)), (aD a0_2), (aC a0_3)]), (8, .box [.nil, .nil, .nil, .nil]), (856, .arr 66 2 ((((([] : List aF) ++ (a0_1.take (x7).toNat)) ++ ([(⟨bE ByteArray.empty l1 2, bE ByteArray.empty l1 1⟩ : aF)] : List aF)) ++ (a0_1.drop (x7).toNat)).map aV))] rfl ⟨.inl rfl, ⟨.inl rfl, trivial⟩⟩ ⟨rfl, ⟨rfl, ⟨fm_, trivial⟩⟩⟩ ?_)))))))))))))))))))))))
  cases H
  exact iG [856] (dL (gW (cC (fW rfl) (cC (jH rfl lm_ lm_ rfl) (cC (fW rfl) (cC (fW rfl) (hQ)))))) (dL (gX rfl) (gJ)))
  refine dB.l1_lp (a0_0 := a0_0) (a0_1 := a0_1) (a0_2 := a0_2) (a0_3 := a0_3) (l1 := l1) (k := k) H [] (fq rfl rfl fi_ rfl) ?_
  intro k x7_1 hk H; rcases k with _ | k; exact bD H; rw [dB.l1] at H
  refine bT H (fun c H => ?_) (fun c H => ?_)
  refine Br.t ft_ (Br.t ft_ (Br.t ft_ (nd_ H (fun c H => (Nd.mk nf_ (El.mk (dO _ _ nf_ nf_) (Br.t ft_ (Br.t ft_ (Br.t ft_ ?_)))))))))
  revert H; refine aK (fun t335 A H => (cmk (fU.ac A) rfl rfl (Br.t ft_ (cu 688 [(2, .bp 0 0), (4, .bp 8 0), (6, .bp 512 0), (7, .int .i64 x7_1), (98, .bool t335)] [(0, .box [(aG a0_0), (aE a0_1), (aD a0_2), (aC a0_3)]), (8, .box [.nil, .nil, .nil, .nil]), (512, .box [.str (bE ByteArray.empty l1 1), .str (bE ByteArray.empty l1 2)])] rfl rfl rfl (iI H (fun c H => ?_) (fun c H => ?_))))))
  exact ⟨(k, wrap64 (x7_1 + 1)), [], ⟨H, lt_⟩, lt_, (fq rfl rfl fi_ rfl)⟩
  refine Or.inl (Nd.mk nf_ (nd_ H (fun c H => (nd_ H (fun c H => (Or.inl (nd_ H (fun c H => (Nd.mk nf_ (Nd.mk nf_ (nd_ H (fun c H => (iQ 816 [(2, .bp 0 0), (4, .bp 8 0)] [(0, .box [(aG a0_0), .own 792 (0 + (x7_1).toNat + 1 + (a0_1.length - (x7_1).toNat)), (aD a0_2), (aC a0_3)]), (8, .box [.nil, .nil, .nil, .nil]), (792, .arr 66 2 ((((([] : List aF) ++ (a0_1.take (x7_1).toNat)) ++ ([(⟨bE ByteArray.empty l1 1, bE ByteArray.empty l1 2⟩ : aF)] : List aF)) ++ (a0_1.drop (x7_1).toNat)).map aV))] rfl ⟨.inl rfl, ⟨.inl rfl, trivial⟩⟩ ⟨rfl, ⟨rfl, ⟨fm_, trivial⟩⟩⟩ ?_)))))))))))))
  cases H
  exact iG [792] (dL (gW (cC (fW rfl) (cC (jH rfl lm_ lm_ rfl) (cC (fW rfl) (cC (fW rfl) (hQ)))))) (dL (gX rfl) (gJ)))
  refine Br.f ff_ (Br.f ff_ (Br.f ff_ (Br.f ff_ (Br.f ff_ (Br.f ff_ (Br.f ff_ (cu 688 [(2, .bp 0 0), (4, .bp 8 0), (6, .bp 512 0), (7, .int .i64 x7_1), (98, .bool false)] [(0, .box [(aG a0_0), (aE a0_1), (aD a0_2), (aC a0_3)]), (8, .box [.nil, .nil, .nil, .nil]), (512, .box [.str (bE ByteArray.empty l1 1), .str (bE ByteArray.empty l1 2)])] rfl rfl rfl (Br.f rfl (Or.inl (nd_ H (fun c H => (nd_ H (fun c H => (nd_ H (fun c H => (Or.inl (nd_ H (fun c H => (Nd.mk nf_ (Nd.mk nf_ (nd_ H (fun c H => (iQ 816 [(2, .bp 0 0), (4, .bp 8 0)] [(0, .box [(aG a0_0), .own 792 (0 + (x7_1).toNat + 1 + (a0_1.length - (x7_1).toNat)), (aD a0_2), (aC a0_3)]), (8, .box [.nil, .nil, .nil, .nil]), (792, .arr 66 2 ((((([] : List aF) ++ (a0_1.take (x7_1).toNat)) ++ ([(⟨bE ByteArray.empty l1 1, bE ByteArray.empty l1 2⟩ : aF)] : List aF)) ++ (a0_1.drop (x7_1).toNat)).map aV))] rfl ⟨.inl rfl, ⟨.inl rfl, trivial⟩⟩ ⟨rfl, ⟨rfl, ⟨fm_, trivial⟩⟩⟩ ?_)))))))))))))))))))))))
  cases H
  exact iG [792] (dL (gW (cC (fW rfl) (cC (jH rfl lm_ lm_ rfl) (cC (fW rfl) (cC (fW rfl) (hQ)))))) (dL (gX rfl) (gJ)))
  refine cu 448 [(4, .bp 8 0), (5, .int .i64 5)] [(8, .box [(aG a0_0), (aE a0_1), (aD a0_2), (aC a0_3)])] rfl rfl rfl ?_
  cases H
  exact rts rfl
  refine Br.t ft_ (Br.t ft_ (Br.t ft_ (Br.t ft_ (Br.t ft_ (Br.t ft_ (Br.t ft_ (cu 424 [(1, (aG l1)), (2, .bp 0 0), (4, .bp 8 0), (59, .bool true)] [(0, .box [(aG a0_0), (aE a0_1), (aD a0_2), (aC a0_3)]), (8, .box [.nil, .nil, .nil, .nil])] rfl rfl rfl (Br.t rfl (cu 448 [(4, .bp 8 0), (5, .int .i64 5)] [(8, .box [(aG a0_0), (aE a0_1), (aD a0_2), (aC a0_3)])] rfl rfl rfl ?_)))))))))
  cases H
  exact rts rfl
  refine Br.t ft_ (Br.t ft_ (Br.t ft_ (Br.t ft_ (Br.t ft_ (Br.t ft_ (Br.t ft_ (cu 232 [(1, (aG l1)), (2, .bp 0 0), (4, .bp 8 0), (33, .bool true)] [(0, .box [(aG a0_0), (aE a0_1), (aD a0_2), (aC a0_3)]), (8, .box [.nil, .nil, .nil, .nil])] rfl rfl rfl (Br.t rfl (cu 256 [(4, .bp 8 0), (5, .int .i64 3)] [(8, .box [(aG a0_0), (aE a0_1), (aD a0_2), (aC a0_3)])] rfl rfl rfl ?_)))))))))
  cases H
  exact rts rfl
  refine Br.t ft_ (Br.t ft_ (Br.t ft_ (Br.t ft_ (Br.t ft_ (Br.t rfl (Br.t rfl (Br.t rfl (Br.t rfl (Br.t rfl (Br.t rfl (Br.t rfl (Br.t rfl (cu 232 [(1, (aG l1)), (2, .bp 0 0), (4, .bp 8 0), (33, .bool true)] [(0, .box [(aG a0_0), (aE a0_1), (aD a0_2), (aC a0_3)]), (8, .box [.nil, .nil, .nil, .nil])] rfl rfl rfl (Br.t rfl (cu 256 [(4, .bp 8 0), (5, .int .i64 3)] [(8, .box [(aG a0_0), (aE a0_1), (aD a0_2), (aC a0_3)])] rfl rfl rfl ?_)))))))))))))))
  cases H
  exact rts rfl
  refine Br.t ft_ (Br.t ft_ (Br.t ft_ (Br.t ft_ (Br.t ft_ (Br.t rfl (Br.t rfl (Br.t rfl (Br.t rfl (Br.t rfl (Br.t rfl (Br.t rfl (Br.t rfl (Br.t rfl (Br.t rfl (Br.t rfl (Br.t rfl (Br.t rfl (Br.t rfl (cu 232 [(1, (aG l1)), (2, .bp 0 0), (4, .bp 8 0), (33, .bool true)] [(0, .box [(aG a0_0), (aE a0_1), (aD a0_2), (aC a0_3)]), (8, .box [.nil, .nil, .nil, .nil])] rfl rfl rfl (Br.t rfl (cu 256 [(4, .bp 8 0), (5, .int .i64 3)] [(8, .box [(aG a0_0), (aE a0_1), (aD a0_2), (aC a0_3)])] rfl rfl rfl ?_)))))))))))))))))))))
  cases H
  exact rts rfl
theorem cA.l0_lp {F : (Exit → St → Prop) → St → Prop} {hv : List Tmp} {Q : Exit → St → Prop} {σ : St} {r : Int} {k : Nat} {a0 : ByteArray} {x3 : Int} {x4 : Int} (H : cA.l0 k a0 x3 x4 = some r) (rn : List (Option Nat)) (h1 : cM σ σ [] [(3, .int .i64 x3), (4, .int .i64 x4)] [] [] rn)
    (h2 : ∀ (k0 : Nat) (x3 : Int) (x4 : Int), k0 < k + 1 → cA.l0 k0 a0 x3 x4 = some r → dF σ hv [] [(3, .int .i64 x3), (4, .int .i64 x4)] [] [] (F (fun e σ' => match e with | .normal => ∃ (y : Nat × Int × Int) (rn : List (Option Nat)), (cA.l0 y.1 a0 y.2.1 y.2.2 = some r ∧ y.1 < k + 1) ∧ y.1 < k0 ∧ cM σ σ' [] [(3, .int .i64 y.2.1), (4, .int .i64 y.2.2)] [] [] rn | e => Q e σ'))) : Lp F hv Q σ := by
  unfold Lp
  refine ⟨Nat × Int × Int, fun x => cA.l0 x.1 a0 x.2.1 x.2.2 = some r ∧ x.1 < k + 1, fun x => x.1, [], fun x => [(3, .int .i64 x.2.1), (4, .int .i64 x.2.2)], fun x => [], fun x => [], ⟨(k, x3, x4), rn, ⟨H, Nat.lt_succ_self _⟩, h1⟩, ?_⟩
  rintro ⟨k, x3, x4⟩ ⟨H, hk⟩
  exact h2 k x3 x4 hk H
theorem cA.l1_lp {F : (Exit → St → Prop) → St → Prop} {hv : List Tmp} {Q : Exit → St → Prop} {σ : St} {r : Int} {k : Nat} {a0 : ByteArray} {x3_1 : Int} {x4_1 : Int} (H : cA.l1 k a0 x3_1 x4_1 = some r) (rn : List (Option Nat)) (h1 : cM σ σ [] [(3, .int .i64 x3_1), (4, .int .i64 x4_1)] [] [] rn)
    (h2 : ∀ (k0 : Nat) (x3_1 : Int) (x4_1 : Int), k0 < k + 1 → cA.l1 k0 a0 x3_1 x4_1 = some r → dF σ hv [] [(3, .int .i64 x3_1), (4, .int .i64 x4_1)] [] [] (F (fun e σ' => match e with | .normal => ∃ (y : Nat × Int × Int) (rn : List (Option Nat)), (cA.l1 y.1 a0 y.2.1 y.2.2 = some r ∧ y.1 < k + 1) ∧ y.1 < k0 ∧ cM σ σ' [] [(3, .int .i64 y.2.1), (4, .int .i64 y.2.2)] [] [] rn | e => Q e σ'))) : Lp F hv Q σ := by
  unfold Lp
  refine ⟨Nat × Int × Int, fun x => cA.l1 x.1 a0 x.2.1 x.2.2 = some r ∧ x.1 < k + 1, fun x => x.1, [], fun x => [(3, .int .i64 x.2.1), (4, .int .i64 x.2.2)], fun x => [], fun x => [], ⟨(k, x3_1, x4_1), rn, ⟨H, Nat.lt_succ_self _⟩, h1⟩, ?_⟩
  rintro ⟨k, x3_1, x4_1⟩ ⟨H, hk⟩
  exact h2 k x3_1 x4_1 hk H
theorem cA.ac {k : Nat} {a0 : ByteArray} {r : Int} (H : cA.f k a0 = some r) : cK Try.prog G 85 [] [.str a0] [] (.int .i64 r) := by
  refine bN tok hP Try.func85 rfl (by kernel_rfl) [.tmp 2] rfl (by kernel_rfl) (Nat.le_of_ble_eq_true rfl) (.l .n (.l (.c .n (.l (.c .n .n) .n)) (.c .n (.l (.l .n (.l .n (.l (.l (.c .n (.l (.c .n .n) .n)) .n) .n))) .n)))) rfl ?_
  unfold cA.f at H
  revert H; refine aK (fun t403 A H => (cmk (gF.ac A) rfl rfl (dY H (fun c H => ?_) (fun c H => ?_))))
  refine Br.f ff_ (Br.f ff_ (Br.f ff_ (bT H (fun c H => ?_) (fun c H => ?_))))
  refine Br.t ft_ (Nd.mk (by decide) (nd_ H (fun c H => (Br.t ft_ (Br.f ff_ (Br.t ft_ (Br.f ff_ (cu 120 [(0, .str a0), (18, .bool (decide ((bt a0 0) = 48)))] [] rfl rfl rfl (bT H (fun c H => ?_) (fun c H => ?_))))))))))
  refine cu 128 [(2, .int .i64 (-1))] [] rfl rfl rfl ?_
  cases H
  exact rz rfl
  refine cu 128 [(0, .str a0), (3, .int .i64 0)] [] rfl rfl rfl (cA.l0_lp (a0 := a0) (k := k) H [] (fq rfl rfl fi_ rfl) ?_)
  intro k x3 x4 hk H; rcases k with _ | k; exact bD H; rw [cA.l0] at H
  refine bT H (fun c H => ?_) (fun c H => ?_)
  refine nd_ H (fun c H => (Nd.mk nf_ (bT H (fun c H => ?_) (fun c H => ?_))))
  refine Br.t ft_ (Br.t ft_ (Br.t ft_ (Br.t ft_ (cu 248 [(0, .str a0), (3, .int .i64 x3), (4, .int .i64 x4), (34, .bool true)] [] rfl rfl rfl (Br.t rfl (cu 256 [(2, .int .i64 (-1))] [] rfl rfl rfl ?_))))))
  cases H
  exact rz rfl
  refine Br.f ff_ (Br.f ff_ (Nd.mk nf_ (Nd.mk nf_ (Br.f ff_ (Br.f ff_ (cu 248 [(0, .str a0), (3, .int .i64 x3), (4, .int .i64 x4), (34, .bool (decide ((bt a0 x4) > 57)))] [] rfl rfl rfl (bT H (fun c H => ?_) (fun c H => ?_))))))))
  refine cu 256 [(2, .int .i64 (-1))] [] rfl rfl rfl ?_
  cases H
  exact rz rfl
  refine Nd.mk nf_ (Nd.mk nf_ (⟨(k, wrap64 ((wrap64 ((wrap64 (x3 * 10)) + (wrap64 (bt a0 x4)))) - 48), wrap64 (x4 + 1)), [], ⟨H, lt_⟩, lt_, (fq rfl rfl fi_ rfl)⟩))
  cases H
  exact rz rfl
  refine Br.f ff_ (Br.f ff_ (Br.f ff_ (Br.f ff_ (Br.f ff_ (cu 120 [(0, .str a0), (18, .bool false)] [] rfl rfl rfl (Br.f rfl (cu 128 [(0, .str a0), (3, .int .i64 0)] [] rfl rfl rfl (cA.l1_lp (a0 := a0) (k := k) H [] (fq rfl rfl fi_ rfl) ?_))))))))
  intro k x3_1 x4_1 hk H; rcases k with _ | k; exact bD H; rw [cA.l1] at H
  refine bT H (fun c H => ?_) (fun c H => ?_)
  refine nd_ H (fun c H => (Nd.mk nf_ (bT H (fun c H => ?_) (fun c H => ?_))))
  refine Br.t ft_ (Br.t ft_ (Br.t ft_ (Br.t ft_ (cu 248 [(0, .str a0), (3, .int .i64 x3_1), (4, .int .i64 x4_1), (34, .bool true)] [] rfl rfl rfl (Br.t rfl (cu 256 [(2, .int .i64 (-1))] [] rfl rfl rfl ?_))))))
  cases H
  exact rz rfl
  refine Br.f ff_ (Br.f ff_ (Nd.mk nf_ (Nd.mk nf_ (Br.f ff_ (Br.f ff_ (cu 248 [(0, .str a0), (3, .int .i64 x3_1), (4, .int .i64 x4_1), (34, .bool (decide ((bt a0 x4_1) > 57)))] [] rfl rfl rfl (bT H (fun c H => ?_) (fun c H => ?_))))))))
  refine cu 256 [(2, .int .i64 (-1))] [] rfl rfl rfl ?_
  cases H
  exact rz rfl
  refine Nd.mk nf_ (Nd.mk nf_ (⟨(k, wrap64 ((wrap64 ((wrap64 (x3_1 * 10)) + (wrap64 (bt a0 x4_1)))) - 48), wrap64 (x4_1 + 1)), [], ⟨H, lt_⟩, lt_, (fq rfl rfl fi_ rfl)⟩))
  cases H
  exact rz rfl
  refine Br.t ft_ (Br.t ft_ (Br.t ft_ (Br.t ft_ (Br.t ft_ (cu 120 [(0, .str a0), (18, .bool true)] [] rfl rfl rfl (Br.t rfl (cu 128 [(2, .int .i64 (-1))] [] rfl rfl rfl ?_)))))))
  cases H
  exact rz rfl
theorem cO.l0_lp {F : (Exit → St → Prop) → St → Prop} {hv : List Tmp} {Q : Exit → St → Prop} {σ : St} {r : Int} {k : Nat} {a0_2 : List aB} {a1 : ByteArray} {x5 : Int} (H : cO.l0 k a0_2 a1 x5 = some r) (rn : List (Option Nat)) (h1 : cM σ σ [] [(5, .int .i64 x5)] [] [] rn)
    (h2 : ∀ (k0 : Nat) (x5 : Int), k0 < k + 1 → cO.l0 k0 a0_2 a1 x5 = some r → dF σ hv [] [(5, .int .i64 x5)] [] [] (F (fun e σ' => match e with | .normal => ∃ (y : Nat × Int) (rn : List (Option Nat)), (cO.l0 y.1 a0_2 a1 y.2 = some r ∧ y.1 < k + 1) ∧ y.1 < k0 ∧ cM σ σ' [] [(5, .int .i64 y.2)] [] [] rn | e => Q e σ'))) : Lp F hv Q σ := by
  unfold Lp
  refine ⟨Nat × Int, fun x => cO.l0 x.1 a0_2 a1 x.2 = some r ∧ x.1 < k + 1, fun x => x.1, [], fun x => [(5, .int .i64 x.2)], fun x => [], fun x => [], ⟨(k, x5), rn, ⟨H, Nat.lt_succ_self _⟩, h1⟩, ?_⟩
  rintro ⟨k, x5⟩ ⟨H, hk⟩
  exact h2 k x5 hk H
theorem cO.ac {k : Nat} {a0_0 : List ByteArray} {a0_1 : List aF} {a0_2 : List aB} {a0_3 : List aA} {a1 : ByteArray} {r : Int} (H : cO.f k a0_0 a0_1 a0_2 a0_3 a1 = some r) : cK Try.prog G 61 [] [.agg [(aG a0_0), (aE a0_1), (aD a0_2), (aC a0_3)], .str a1] [] (.int .i64 r) := by
  refine bN tok hP Try.func61 rfl (by kernel_rfl) [.tmp 4] rfl (by kernel_rfl) (Nat.le_of_ble_eq_true rfl) (.l .n (.l (.l .n (.l .n (.l (.c .n .n) .n))) .n)) rfl ?_
  unfold cO.f at H
  refine cO.l0_lp (a0_2 := a0_2) (a1 := a1) (k := k) H [] (fq rfl rfl fi_ rfl) ?_
  intro k x5 hk H; rcases k with _ | k; exact bD H; rw [cO.l0] at H
  refine bT H (fun c H => ?_) (fun c H => ?_)
  refine nd_ H (fun c H => (Nd.mk nf_ (El.mk (bL _ _ nf_ nf_) (cu 128 [(1, .str a1), (2, .bp 0 0), (5, .int .i64 x5), (20, .bool (decide (((aO a0_2 x5).f0).toList = a1.toList)))] [(0, .box [(aG a0_0), (aE a0_1), (aD a0_2), (aC a0_3)])] rfl rfl rfl (bT H (fun c H => ?_) (fun c H => ?_))))))
  cases H
  exact rz rfl
  exact ⟨(k, wrap64 (x5 + 1)), [], ⟨H, lt_⟩, lt_, (fq rfl rfl fi_ rfl)⟩
  cases H
  exact rz rfl
theorem cU.l0_lp {F : (Exit → St → Prop) → St → Prop} {hv : List Tmp} {Q : Exit → St → Prop} {σ : St} {r : (List ByteArray) × (List aF) × (List aB) × (List aA) × Int} {k : Nat} {a0_0 : List ByteArray} {a0_1 : List aF} {a0_2 : List aB} {a0_3 : List aA} {a1_0 : ByteArray} {a1_1 : Int} {a1_2 : ByteArray} {x6 : Int} (H : cU.l0 k a0_0 a0_1 a0_2 a0_3 a1_0 a1_1 a1_2 x6 = some r) (rn : List (Option Nat)) (h1 : cM σ σ [] [(6, .int .i64 x6)] [] [] rn)
    (h2 : ∀ (k0 : Nat) (x6 : Int), k0 < k + 1 → cU.l0 k0 a0_0 a0_1 a0_2 a0_3 a1_0 a1_1 a1_2 x6 = some r → dF σ hv [] [(6, .int .i64 x6)] [] [] (F (fun e σ' => match e with | .normal => ∃ (y : Nat × Int) (rn : List (Option Nat)), (cU.l0 y.1 a0_0 a0_1 a0_2 a0_3 a1_0 a1_1 a1_2 y.2 = some r ∧ y.1 < k + 1) ∧ y.1 < k0 ∧ cM σ σ' [] [(6, .int .i64 y.2)] [] [] rn | e => Q e σ'))) : Lp F hv Q σ := by
  unfold Lp
  refine ⟨Nat × Int, fun x => cU.l0 x.1 a0_0 a0_1 a0_2 a0_3 a1_0 a1_1 a1_2 x.2 = some r ∧ x.1 < k + 1, fun x => x.1, [], fun x => [(6, .int .i64 x.2)], fun x => [], fun x => [], ⟨(k, x6), rn, ⟨H, Nat.lt_succ_self _⟩, h1⟩, ?_⟩
  rintro ⟨k, x6⟩ ⟨H, hk⟩
  exact h2 k x6 hk H
theorem cU.ac {k : Nat} {a0_0 : List ByteArray} {a0_1 : List aF} {a0_2 : List aB} {a0_3 : List aA} {a1_0 : ByteArray} {a1_1 : Int} {a1_2 : ByteArray} {r : (List ByteArray) × (List aF) × (List aB) × (List aA) × Int} (H : cU.f k a0_0 a0_1 a0_2 a0_3 a1_0 a1_1 a1_2 = some r) : cK Try.prog G 86 [] [.agg [(aG a0_0), (aE a0_1), (aD a0_2), (aC a0_3)], .agg [.str a1_0, .int .i64 a1_1, .str a1_2]] [] (.tup [.agg [(aG r.1), (aE r.2.1), (aD r.2.2.1), (aC r.2.2.2.1)], .int .i64 r.2.2.2.2]) := by
  refine bN tok hP Try.func86 rfl (by kernel_rfl) [.cell 4 28, .tmp 5] rfl (by kernel_rfl) (Nat.le_of_ble_eq_true rfl) (.l .n (.l (.l .n (.l (.c .n .n) .n)) (.l (.c .n .n) (.l .n (.l (.l (.c .n .n) .n) (.c .n .n)))))) rfl ?_
  unfold cU.f at H
  revert H; refine aK (fun t488 A H => (cmk (cO.ac A) rfl rfl (bT H (fun c H => ?_) (fun c H => ?_))))
  refine cu 96 [(4, .bp 16 0), (5, .int .i64 4)] [(16, .box [(aG a0_0), (aE a0_1), (aD a0_2), (aC a0_3)])] rfl rfl rfl ?_
  cases H
  exact rts rfl
  refine cu 104 [(2, .bp 0 0), (3, .bp 8 0), (4, .bp 16 0), (16, .bool (decide ((a0_2.length : Int) ≥ 14)))] [(0, .box [(aG a0_0), (aE a0_1), (aD a0_2), (aC a0_3)]), (8, .box [.str a1_0, .int .i64 a1_1, .str a1_2]), (16, .box [.nil, .nil, .nil, .nil])] rfl rfl rfl (bT H (fun c H => ?_) (fun c H => ?_))
  cases H
  exact rts rfl
  refine cU.l0_lp (a0_0 := a0_0) (a0_1 := a0_1) (a0_2 := a0_2) (a0_3 := a0_3) (a1_0 := a1_0) (a1_1 := a1_1) (a1_2 := a1_2) (k := k) H [] (fq rfl rfl fi_ rfl) ?_
  intro k x6 hk H; rcases k with _ | k; exact bD H; rw [cU.l0] at H
  refine bT H (fun c H => ?_) (fun c H => ?_)
  refine Br.t ft_ (Br.t ft_ (Br.t ft_ (nd_ H (fun c H => (Nd.mk nf_ (El.mk (bL _ _ nf_ nf_) (Br.t ft_ (Br.t ft_ (Br.t ft_ (Br.t ft_ (Br.t ft_ (Br.t ft_ (cu 240 [(2, .bp 0 0), (3, .bp 8 0), (4, .bp 16 0), (6, .int .i64 x6), (33, .bool (Op.bytesLess ((aO a0_2 x6).f0).toList a1_0.toList))] [(0, .box [(aG a0_0), (aE a0_1), (aD a0_2), (aC a0_3)]), (8, .box [.str a1_0, .int .i64 a1_1, .str a1_2]), (16, .box [.nil, .nil, .nil, .nil])] rfl rfl rfl (iI H (fun c H => ?_) (fun c H => ?_)))))))))))))))
  exact ⟨(k, wrap64 (x6 + 1)), [], ⟨H, lt_⟩, lt_, (fq rfl rfl fi_ rfl)⟩
  refine Or.inl (Nd.mk nf_ (nd_ H (fun c H => (nd_ H (fun c H => (Or.inl (nd_ H (fun c H => (Nd.mk nf_ (Nd.mk nf_ (nd_ H (fun c H => (iQ 368 [(2, .bp 0 0), (4, .bp 16 0)] [(0, .box [(aG a0_0), (aE a0_1), .own 344 (0 + (x6).toNat + 1 + (a0_2.length - (x6).toNat)), (aC a0_3)]), (16, .box [.nil, .nil, .nil, .nil]), (344, .arr 68 3 ((((([] : List aB) ++ (a0_2.take (x6).toNat)) ++ ([(⟨a1_0, a1_1, a1_2⟩ : aB)] : List aB)) ++ (a0_2.drop (x6).toNat)).map aS))] rfl ⟨.inl rfl, ⟨.inl rfl, trivial⟩⟩ ⟨rfl, ⟨rfl, ⟨fm_, trivial⟩⟩⟩ ?_)))))))))))))
  cases H
  exact iG [344] (dL (gW (cC (fW rfl) (cC (fW rfl) (cC (jH rfl lm_ lm_ rfl) (cC (fW rfl) (hQ)))))) (dL (gX rfl) (gJ)))
  refine Br.f ff_ (Br.f ff_ (Br.f ff_ (Br.f ff_ (Br.f ff_ (Br.f ff_ (Br.f ff_ (Br.f ff_ (Br.f ff_ (cu 240 [(2, .bp 0 0), (3, .bp 8 0), (4, .bp 16 0), (6, .int .i64 x6), (33, .bool false)] [(0, .box [(aG a0_0), (aE a0_1), (aD a0_2), (aC a0_3)]), (8, .box [.str a1_0, .int .i64 a1_1, .str a1_2]), (16, .box [.nil, .nil, .nil, .nil])] rfl rfl rfl (Br.f rfl (Or.inl (nd_ H (fun c H => (nd_ H (fun c H => (nd_ H (fun c H => (Or.inl (nd_ H (fun c H => (Nd.mk nf_ (Nd.mk nf_ (nd_ H (fun c H => (iQ 368 [(2, .bp 0 0), (4, .bp 16 0)] [(0, .box [(aG a0_0), (aE a0_1), .own 344 (0 + (x6).toNat + 1 + (a0_2.length - (x6).toNat)), (aC a0_3)]), (16, .box [.nil, .nil, .nil, .nil]), (344, .arr 68 3 ((((([] : List aB) ++ (a0_2.take (x6).toNat)) ++ ([(⟨a1_0, a1_1, a1_2⟩ : aB)] : List aB)) ++ (a0_2.drop (x6).toNat)).map aS))] rfl ⟨.inl rfl, ⟨.inl rfl, trivial⟩⟩ ⟨rfl, ⟨rfl, ⟨fm_, trivial⟩⟩⟩ ?_)))))))))))))))))))))))))
  cases H
  exact iG [344] (dL (gW (cC (fW rfl) (cC (fW rfl) (cC (jH rfl lm_ lm_ rfl) (cC (fW rfl) (hQ)))))) (dL (gX rfl) (gJ)))
theorem iK.ac {k : Nat} {a0_0 : List ByteArray} {a0_1 : List aF} {a0_2 : List aB} {a0_3 : List aA} {l1 : List ByteArray} {r : (List ByteArray) × (List aF) × (List aB) × (List aA) × Int} (H : iK.f k a0_0 a0_1 a0_2 a0_3 l1 = some r) : cK Try.prog G 70 [] [.agg [(aG a0_0), (aE a0_1), (aD a0_2), (aC a0_3)], (aG l1)] [] (.tup [.agg [(aG r.1), (aE r.2.1), (aD r.2.2.1), (aC r.2.2.2.1)], .int .i64 r.2.2.2.2]) := by
  refine bN tok hP Try.func70 rfl (by kernel_rfl) [.cell 4 28, .tmp 5] rfl (by kernel_rfl) (Nat.le_of_ble_eq_true rfl) (.l .n (.l (.c .n (.l (.c .n .n) .n)) (.c .n .n))) rfl ?_
  unfold iK.f at H
  refine iW H (fun c H => ?_) (fun c H => ?_)
  refine Br.f ff_ (Nd.mk (by decide) (nd_ H (fun c H => (El.mk (aP _ _ nf_ nf_) (Br.f ff_ (Br.f ff_ ?_))))))
  revert H; refine aK (fun t501 A H => (cmk (aX.ac A) rfl rfl (Br.f ff_ (Br.f ff_ (dY H (fun c H => ?_) (fun c H => ?_))))))
  refine Br.f ff_ (Nd.mk (by decide) (nd_ H (fun c H => (El.mk (aP _ _ nf_ nf_) (Br.f ff_ (Br.f ff_ ?_))))))
  revert H; refine aK (fun t502 A H => (cmk (cA.ac A) rfl rfl (Br.f ff_ ?_)))
  revert H; refine aK (fun t503 A H => (cmk (gF.ac A) rfl rfl (Br.f ff_ (Br.f ff_ (dY H (fun c H => ?_) (fun c H => ?_))))))
  refine Br.f ff_ (Nd.mk (by decide) (nd_ H (fun c H => (El.mk (aP _ _ nf_ nf_) (Br.f ff_ (Br.f ff_ ?_))))))
  revert H; refine aK (fun t504 A H => (cmk (aX.ac A) rfl rfl (Br.f ff_ (Br.f ff_ (cu 224 [(1, (aG l1)), (2, .bp 0 0), (4, .bp 8 0), (30, .bool (!t504))] [(0, .box [(aG a0_0), (aE a0_1), (aD a0_2), (aC a0_3)]), (8, .box [.nil, .nil, .nil, .nil])] rfl rfl rfl (dY H (fun c H => ?_) (fun c H => ?_)))))))
  refine Nd.mk (by decide) (Nd.mk nf_ (El.mk (aP _ _ nf_ nf_) (Nd.mk (by decide) (Nd.mk nf_ (El.mk (aP _ _ nf_ nf_) ?_)))))
  revert H; refine aK (fun t505 A H => (cmk (cA.ac A) rfl rfl (Nd.mk (by decide) (Nd.mk nf_ (El.mk (aP _ _ nf_ nf_) ?_)))))
  revert H; refine aK (fun t506 A H => (cmk (cU.ac A) rfl rfl (cu 360 [(4, .bp 8 0), (5, .int .i64 t506.2.2.2.2)] [(8, .box [(aG t506.1), (aE t506.2.1), (aD t506.2.2.1), (aC t506.2.2.2.1)])] rfl rfl rfl ?_)))
  cases H
  exact rts rfl
  refine cu 248 [(4, .bp 8 0), (5, .int .i64 3)] [(8, .box [(aG a0_0), (aE a0_1), (aD a0_2), (aC a0_3)])] rfl rfl rfl ?_
  cases H
  exact rts rfl
  refine Br.t ft_ (Br.t ft_ (Br.t ft_ (Br.t ft_ (Br.t ft_ (cu 224 [(1, (aG l1)), (2, .bp 0 0), (4, .bp 8 0), (30, .bool true)] [(0, .box [(aG a0_0), (aE a0_1), (aD a0_2), (aC a0_3)]), (8, .box [.nil, .nil, .nil, .nil])] rfl rfl rfl (Br.t rfl (cu 248 [(4, .bp 8 0), (5, .int .i64 3)] [(8, .box [(aG a0_0), (aE a0_1), (aD a0_2), (aC a0_3)])] rfl rfl rfl ?_)))))))
  cases H
  exact rts rfl
  refine Br.t ft_ (Br.t ft_ (Br.t ft_ (Br.t ft_ (Br.t ft_ (Br.t ft_ (Br.t rfl (Br.t rfl (Br.t rfl (Br.t rfl (Br.t rfl (Br.t rfl (cu 224 [(1, (aG l1)), (2, .bp 0 0), (4, .bp 8 0), (30, .bool true)] [(0, .box [(aG a0_0), (aE a0_1), (aD a0_2), (aC a0_3)]), (8, .box [.nil, .nil, .nil, .nil])] rfl rfl rfl (Br.t rfl (cu 248 [(4, .bp 8 0), (5, .int .i64 3)] [(8, .box [(aG a0_0), (aE a0_1), (aD a0_2), (aC a0_3)])] rfl rfl rfl ?_))))))))))))))
  cases H
  exact rts rfl
  refine Br.t ft_ (Br.t ft_ (Br.t ft_ (Br.t ft_ (Br.t ft_ (Br.t rfl (Br.t rfl (Br.t rfl (Br.t rfl (Br.t rfl (Br.t rfl (Br.t rfl (Br.t rfl (Br.t rfl (Br.t rfl (Br.t rfl (Br.t rfl (Br.t rfl (cu 224 [(1, (aG l1)), (2, .bp 0 0), (4, .bp 8 0), (30, .bool true)] [(0, .box [(aG a0_0), (aE a0_1), (aD a0_2), (aC a0_3)]), (8, .box [.nil, .nil, .nil, .nil])] rfl rfl rfl (Br.t rfl (cu 248 [(4, .bp 8 0), (5, .int .i64 3)] [(8, .box [(aG a0_0), (aE a0_1), (aD a0_2), (aC a0_3)])] rfl rfl rfl ?_))))))))))))))))))))
  cases H
  exact rts rfl
theorem iV.ac {k : Nat} {a0_0 : List ByteArray} {a0_1 : List aF} {a0_2 : List aB} {a0_3 : List aA} {l1 : List ByteArray} {r : (List ByteArray) × (List aF) × (List aB) × (List aA) × Int} (H : iV.f k a0_0 a0_1 a0_2 a0_3 l1 = some r) : cK Try.prog G 71 [] [.agg [(aG a0_0), (aE a0_1), (aD a0_2), (aC a0_3)], (aG l1)] [] (.tup [.agg [(aG r.1), (aE r.2.1), (aD r.2.2.1), (aC r.2.2.2.1)], .int .i64 r.2.2.2.2]) := by
  refine bN tok hP Try.func71 rfl (by kernel_rfl) [.cell 4 28, .tmp 5] rfl (by kernel_rfl) (Nat.le_of_ble_eq_true rfl) (.l .n (.l (.c .n (.l (.c .n .n) .n)) (.c .n .n))) rfl ?_
  unfold iV.f at H
  refine iW H (fun c H => ?_) (fun c H => ?_)
  refine Br.f ff_ (Nd.mk (by decide) (nd_ H (fun c H => (El.mk (aP _ _ nf_ nf_) (Br.f ff_ (Br.f ff_ ?_))))))
  revert H; refine aK (fun t547 A H => (cmk (aX.ac A) rfl rfl (Br.f ff_ (Br.f ff_ (dY H (fun c H => ?_) (fun c H => ?_))))))
  refine Br.f ff_ (Nd.mk (by decide) (nd_ H (fun c H => (El.mk (aP _ _ nf_ nf_) (Br.f ff_ (Br.f ff_ ?_))))))
  revert H; refine aK (fun t548 A H => (cmk (aX.ac A) rfl rfl (Br.f ff_ (Br.f ff_ (cu 160 [(1, (aG l1)), (2, .bp 0 0), (4, .bp 8 0), (22, .bool (!t548))] [(0, .box [(aG a0_0), (aE a0_1), (aD a0_2), (aC a0_3)]), (8, .box [.nil, .nil, .nil, .nil])] rfl rfl rfl (dY H (fun c H => ?_) (fun c H => ?_)))))))
  refine Nd.mk (by decide) (Nd.mk nf_ (El.mk (aP _ _ nf_ nf_) (Nd.mk (by decide) (Nd.mk nf_ (El.mk (aP _ _ nf_ nf_) ?_)))))
  revert H; refine aK (fun t549 A H => (cmk (cU.ac A) rfl rfl (cu 264 [(4, .bp 8 0), (5, .int .i64 t549.2.2.2.2)] [(8, .box [(aG t549.1), (aE t549.2.1), (aD t549.2.2.1), (aC t549.2.2.2.1)])] rfl rfl rfl ?_)))
  cases H
  exact rts rfl
  refine cu 184 [(4, .bp 8 0), (5, .int .i64 3)] [(8, .box [(aG a0_0), (aE a0_1), (aD a0_2), (aC a0_3)])] rfl rfl rfl ?_
  cases H
  exact rts rfl
  refine Br.t ft_ (Br.t ft_ (Br.t ft_ (Br.t ft_ (Br.t ft_ (cu 160 [(1, (aG l1)), (2, .bp 0 0), (4, .bp 8 0), (22, .bool true)] [(0, .box [(aG a0_0), (aE a0_1), (aD a0_2), (aC a0_3)]), (8, .box [.nil, .nil, .nil, .nil])] rfl rfl rfl (Br.t rfl (cu 184 [(4, .bp 8 0), (5, .int .i64 3)] [(8, .box [(aG a0_0), (aE a0_1), (aD a0_2), (aC a0_3)])] rfl rfl rfl ?_)))))))
  cases H
  exact rts rfl
  refine Br.t ft_ (Br.t ft_ (Br.t ft_ (Br.t ft_ (Br.t ft_ (Br.t rfl (Br.t rfl (Br.t rfl (Br.t rfl (Br.t rfl (Br.t rfl (cu 160 [(1, (aG l1)), (2, .bp 0 0), (4, .bp 8 0), (22, .bool true)] [(0, .box [(aG a0_0), (aE a0_1), (aD a0_2), (aC a0_3)]), (8, .box [.nil, .nil, .nil, .nil])] rfl rfl rfl (Br.t rfl (cu 184 [(4, .bp 8 0), (5, .int .i64 3)] [(8, .box [(aG a0_0), (aE a0_1), (aD a0_2), (aC a0_3)])] rfl rfl rfl ?_)))))))))))))
  cases H
  exact rts rfl
theorem cY.l0_lp {F : (Exit → St → Prop) → St → Prop} {hv : List Tmp} {Q : Exit → St → Prop} {σ : St} {r : Int} {k : Nat} {a0_3 : List aA} {a1 : ByteArray} {x5 : Int} (H : cY.l0 k a0_3 a1 x5 = some r) (rn : List (Option Nat)) (h1 : cM σ σ [] [(5, .int .i64 x5)] [] [] rn)
    (h2 : ∀ (k0 : Nat) (x5 : Int), k0 < k + 1 → cY.l0 k0 a0_3 a1 x5 = some r → dF σ hv [] [(5, .int .i64 x5)] [] [] (F (fun e σ' => match e with | .normal => ∃ (y : Nat × Int) (rn : List (Option Nat)), (cY.l0 y.1 a0_3 a1 y.2 = some r ∧ y.1 < k + 1) ∧ y.1 < k0 ∧ cM σ σ' [] [(5, .int .i64 y.2)] [] [] rn | e => Q e σ'))) : Lp F hv Q σ := by
  unfold Lp
  refine ⟨Nat × Int, fun x => cY.l0 x.1 a0_3 a1 x.2 = some r ∧ x.1 < k + 1, fun x => x.1, [], fun x => [(5, .int .i64 x.2)], fun x => [], fun x => [], ⟨(k, x5), rn, ⟨H, Nat.lt_succ_self _⟩, h1⟩, ?_⟩
  rintro ⟨k, x5⟩ ⟨H, hk⟩
  exact h2 k x5 hk H
theorem cY.ac {k : Nat} {a0_0 : List ByteArray} {a0_1 : List aF} {a0_2 : List aB} {a0_3 : List aA} {a1 : ByteArray} {r : Int} (H : cY.f k a0_0 a0_1 a0_2 a0_3 a1 = some r) : cK Try.prog G 62 [] [.agg [(aG a0_0), (aE a0_1), (aD a0_2), (aC a0_3)], .str a1] [] (.int .i64 r) := by
  refine bN tok hP Try.func62 rfl (by kernel_rfl) [.tmp 4] rfl (by kernel_rfl) (Nat.le_of_ble_eq_true rfl) (.l .n (.l (.l .n (.l .n (.l (.c .n .n) .n))) .n)) rfl ?_
  unfold cY.f at H
  refine cY.l0_lp (a0_3 := a0_3) (a1 := a1) (k := k) H [] (fq rfl rfl fi_ rfl) ?_
  intro k x5 hk H; rcases k with _ | k; exact bD H; rw [cY.l0] at H
  refine bT H (fun c H => ?_) (fun c H => ?_)
  refine nd_ H (fun c H => (Nd.mk nf_ (El.mk (aZ _ _ nf_ nf_) (cu 128 [(1, .str a1), (2, .bp 0 0), (5, .int .i64 x5), (20, .bool (decide (((aH a0_3 x5).f0).toList = a1.toList)))] [(0, .box [(aG a0_0), (aE a0_1), (aD a0_2), (aC a0_3)])] rfl rfl rfl (bT H (fun c H => ?_) (fun c H => ?_))))))
  cases H
  exact rz rfl
  exact ⟨(k, wrap64 (x5 + 1)), [], ⟨H, lt_⟩, lt_, (fq rfl rfl fi_ rfl)⟩
  cases H
  exact rz rfl
theorem cL.l0_lp {F : (Exit → St → Prop) → St → Prop} {hv : List Tmp} {Q : Exit → St → Prop} {σ : St} {r : (List ByteArray) × (List aF) × (List aB) × (List aA) × Int} {k : Nat} {a0_0 : List ByteArray} {a0_1 : List aF} {a0_2 : List aB} {a0_3 : List aA} {l1 : List ByteArray} {x7 : Int} (H : cL.l0 k a0_0 a0_1 a0_2 a0_3 l1 x7 = some r) (rn : List (Option Nat)) (h1 : cM σ σ [] [(7, .int .i64 x7)] [] [] rn)
    (h2 : ∀ (k0 : Nat) (x7 : Int), k0 < k + 1 → cL.l0 k0 a0_0 a0_1 a0_2 a0_3 l1 x7 = some r → dF σ hv [] [(7, .int .i64 x7)] [] [] (F (fun e σ' => match e with | .normal => ∃ (y : Nat × Int) (rn : List (Option Nat)), (cL.l0 y.1 a0_0 a0_1 a0_2 a0_3 l1 y.2 = some r ∧ y.1 < k + 1) ∧ y.1 < k0 ∧ cM σ σ' [] [(7, .int .i64 y.2)] [] [] rn | e => Q e σ'))) : Lp F hv Q σ := by
  unfold Lp
  refine ⟨Nat × Int, fun x => cL.l0 x.1 a0_0 a0_1 a0_2 a0_3 l1 x.2 = some r ∧ x.1 < k + 1, fun x => x.1, [], fun x => [(7, .int .i64 x.2)], fun x => [], fun x => [], ⟨(k, x7), rn, ⟨H, Nat.lt_succ_self _⟩, h1⟩, ?_⟩
  rintro ⟨k, x7⟩ ⟨H, hk⟩
  exact h2 k x7 hk H
theorem cL.l1_lp {F : (Exit → St → Prop) → St → Prop} {hv : List Tmp} {Q : Exit → St → Prop} {σ : St} {r : (List ByteArray) × (List aF) × (List aB) × (List aA) × Int} {k : Nat} {a0_0 : List ByteArray} {a0_1 : List aF} {a0_2 : List aB} {a0_3 : List aA} {l1 : List ByteArray} {x7_1 : Int} (H : cL.l1 k a0_0 a0_1 a0_2 a0_3 l1 x7_1 = some r) (rn : List (Option Nat)) (h1 : cM σ σ [] [(7, .int .i64 x7_1)] [] [] rn)
    (h2 : ∀ (k0 : Nat) (x7_1 : Int), k0 < k + 1 → cL.l1 k0 a0_0 a0_1 a0_2 a0_3 l1 x7_1 = some r → dF σ hv [] [(7, .int .i64 x7_1)] [] [] (F (fun e σ' => match e with | .normal => ∃ (y : Nat × Int) (rn : List (Option Nat)), (cL.l1 y.1 a0_0 a0_1 a0_2 a0_3 l1 y.2 = some r ∧ y.1 < k + 1) ∧ y.1 < k0 ∧ cM σ σ' [] [(7, .int .i64 y.2)] [] [] rn | e => Q e σ'))) : Lp F hv Q σ := by
  unfold Lp
  refine ⟨Nat × Int, fun x => cL.l1 x.1 a0_0 a0_1 a0_2 a0_3 l1 x.2 = some r ∧ x.1 < k + 1, fun x => x.1, [], fun x => [(7, .int .i64 x.2)], fun x => [], fun x => [], ⟨(k, x7_1), rn, ⟨H, Nat.lt_succ_self _⟩, h1⟩, ?_⟩
  rintro ⟨k, x7_1⟩ ⟨H, hk⟩
  exact h2 k x7_1 hk H
theorem cL.ac {k : Nat} {a0_0 : List ByteArray} {a0_1 : List aF} {a0_2 : List aB} {a0_3 : List aA} {l1 : List ByteArray} {r : (List ByteArray) × (List aF) × (List aB) × (List aA) × Int} (H : cL.f k a0_0 a0_1 a0_2 a0_3 l1 = some r) : cK Try.prog G 72 [] [.agg [(aG a0_0), (aE a0_1), (aD a0_2), (aC a0_3)], (aG l1)] [] (.tup [.agg [(aG r.1), (aE r.2.1), (aD r.2.2.1), (aC r.2.2.2.1)], .int .i64 r.2.2.2.2]) := by
  refine bN tok hP Try.func72 rfl (by kernel_rfl) [.cell 4 28, .tmp 5] rfl (by kernel_rfl) (Nat.le_of_ble_eq_true rfl) (.l .n (.l (.c .n (.l (.c .n .n) .n)) (.l .n (.l (.c .n (.l (.c .n .n) .n)) (.l .n (.c .n (.c .n (.c .n (.l (.l (.c .n .n) .n) (.c .n .n)))))))))) rfl ?_
  unfold cL.f at H
  refine iW H (fun c H => ?_) (fun c H => ?_)
  refine Br.f ff_ (Nd.mk (by decide) (nd_ H (fun c H => (El.mk (aP _ _ nf_ nf_) (Br.f ff_ (Br.f ff_ ?_))))))
  revert H; refine aK (fun t642 A H => (cmk (aX.ac A) rfl rfl (Br.f ff_ (Br.f ff_ (dY H (fun c H => ?_) (fun c H => ?_))))))
  refine Br.f ff_ (Nd.mk (by decide) (nd_ H (fun c H => (El.mk (aP _ _ nf_ nf_) (Br.f ff_ (Br.f ff_ ?_))))))
  revert H; refine aK (fun t643 A H => (cmk (aX.ac A) rfl rfl (Br.f ff_ (Br.f ff_ (dY H (fun c H => ?_) (fun c H => ?_))))))
  refine Br.f ff_ (Nd.mk (by decide) (nd_ H (fun c H => (El.mk (aP _ _ nf_ nf_) (Br.f ff_ (Br.f ff_ ?_))))))
  revert H; refine aK (fun t644 A H => (cmk (aX.ac A) rfl rfl (Br.f ff_ (Br.f ff_ (dY H (fun c H => ?_) (fun c H => ?_))))))
  refine Br.f ff_ (Nd.mk (by decide) (Nd.mk nf_ (El.mk (aP _ _ nf_ nf_) (Br.f ff_ (Br.f ff_ (Br.f ff_ (Nd.mk (by decide) (Nd.mk nf_ (El.mk (aP _ _ nf_ nf_) (Br.f ff_ (Br.f ff_ (Br.f ff_ (bT H (fun c H => ?_) (fun c H => ?_))))))))))))))
  refine Br.t ft_ (Br.t ft_ (Br.t ft_ (Br.t ft_ (Br.t ft_ (cu 344 [(1, (aG l1)), (2, .bp 0 0), (4, .bp 8 0), (47, .bool true)] [(0, .box [(aG a0_0), (aE a0_1), (aD a0_2), (aC a0_3)]), (8, .box [.nil, .nil, .nil, .nil])] rfl rfl rfl (Br.t rfl (cu 368 [(4, .bp 8 0), (5, .int .i64 3)] [(8, .box [(aG a0_0), (aE a0_1), (aD a0_2), (aC a0_3)])] rfl rfl rfl ?_)))))))
  cases H
  exact rts rfl
  refine Br.f ff_ (Nd.mk (by decide) (nd_ H (fun c H => (El.mk (aP _ _ nf_ nf_) (Br.f ff_ (Br.f ff_ ?_))))))
  revert H; refine aK (fun t645 A H => (cmk (aX.ac A) rfl rfl (Br.f ff_ (Br.f ff_ (cu 344 [(1, (aG l1)), (2, .bp 0 0), (4, .bp 8 0), (47, .bool (!t645))] [(0, .box [(aG a0_0), (aE a0_1), (aD a0_2), (aC a0_3)]), (8, .box [.nil, .nil, .nil, .nil])] rfl rfl rfl (dY H (fun c H => ?_) (fun c H => ?_)))))))
  refine Nd.mk (by decide) (Nd.mk nf_ (El.mk (aP _ _ nf_ nf_) ?_))
  revert H; refine aK (fun t648 A H => (cmk (cY.ac A) rfl rfl (bT H (fun c H => ?_) (fun c H => ?_))))
  cases H
  exact rts rfl
  refine Nd.mk (by decide) (Nd.mk nf_ (El.mk (aP _ _ nf_ nf_) ?_))
  revert H; refine aK (fun t653 A H => (cmk (cO.ac A) rfl rfl (bT H (fun c H => ?_) (fun c H => ?_))))
  refine Br.t ft_ (Br.t ft_ (Br.t ft_ (Br.t ft_ (Br.t ft_ (Br.t ft_ (cu 504 [(1, (aG l1)), (2, .bp 0 0), (4, .bp 8 0), (69, .bool true)] [(0, .box [(aG a0_0), (aE a0_1), (aD a0_2), (aC a0_3)]), (8, .box [.nil, .nil, .nil, .nil])] rfl rfl rfl (Br.t rfl (cu 528 [(4, .bp 8 0), (5, .int .i64 5)] [(8, .box [(aG a0_0), (aE a0_1), (aD a0_2), (aC a0_3)])] rfl rfl rfl ?_))))))))
  cases H
  exact rts rfl
  refine Br.f ff_ (Br.f ff_ (Nd.mk (by decide) (Nd.mk nf_ (El.mk (aP _ _ nf_ nf_) (Br.f ff_ (Br.f ff_ ?_))))))
  revert H; refine aK (fun t654 A H => (cmk (cO.ac A) rfl rfl (Br.f ff_ (Br.f ff_ (cu 504 [(1, (aG l1)), (2, .bp 0 0), (4, .bp 8 0), (69, .bool (decide (t654 < 0)))] [(0, .box [(aG a0_0), (aE a0_1), (aD a0_2), (aC a0_3)]), (8, .box [.nil, .nil, .nil, .nil])] rfl rfl rfl (bT H (fun c H => ?_) (fun c H => ?_)))))))
  refine cu 528 [(4, .bp 8 0), (5, .int .i64 5)] [(8, .box [(aG a0_0), (aE a0_1), (aD a0_2), (aC a0_3)])] rfl rfl rfl ?_
  cases H
  exact rts rfl
  refine bT H (fun c H => ?_) (fun c H => ?_)
  cases H
  exact rts rfl
  refine Nd.mk (by decide) (Nd.mk nf_ (El.mk (aP _ _ nf_ nf_) (Nd.mk (by decide) (Nd.mk nf_ (El.mk (aP _ _ nf_ nf_) (Nd.mk (by decide) (Nd.mk nf_ (El.mk (aP _ _ nf_ nf_) (Nd.mk (by decide) (Nd.mk nf_ (El.mk (aP _ _ nf_ nf_) (cu 656 [(1, (aG l1)), (2, .bp 0 0), (4, .bp 8 0), (6, .bp 640 0)] [(0, .box [(aG a0_0), (aE a0_1), (aD a0_2), (aC a0_3)]), (8, .box [.nil, .nil, .nil, .nil]), (640, .box [.str (bE ByteArray.empty l1 1), .str (bE ByteArray.empty l1 2), .str (bE ByteArray.empty l1 3), .str (bE ByteArray.empty l1 4)])] rfl rfl rfl (iI H (fun c H => ?_) (fun c H => ?_))))))))))))))
  refine Nd.mk (by decide) (Nd.mk nf_ (El.mk (aP _ _ nf_ nf_) (Nd.mk (by decide) (Nd.mk nf_ (El.mk (aP _ _ nf_ nf_) (Nd.mk (by decide) (Nd.mk nf_ (El.mk (aP _ _ nf_ nf_) (Nd.mk (by decide) (Nd.mk nf_ (El.mk (aP _ _ nf_ nf_) (cu 808 [(2, .bp 0 0), (4, .bp 8 0), (6, .bp 640 0)] [(0, .box [(aG a0_0), (aE a0_1), (aD a0_2), (aC a0_3)]), (8, .box [.nil, .nil, .nil, .nil]), (640, .box [.str (bE ByteArray.empty l1 1), .str (bE ByteArray.empty l1 3), .str (bE ByteArray.empty l1 2), .str (bE ByteArray.empty l1 4)])] rfl rfl rfl (cu 816 [(2, .bp 0 0), (4, .bp 8 0), (6, .bp 640 0), (7, .int .i64 0)] [(0, .box [(aG a0_0), (aE a0_1), (aD a0_2), (aC a0_3)]), (8, .box [.nil, .nil, .nil, .nil]), (640, .box [.str (bE ByteArray.empty l1 1), .str (bE ByteArray.empty l1 3), .str (bE ByteArray.empty l1 2), .str (bE ByteArray.empty l1 4)])] rfl rfl rfl (cL.l0_lp (a0_0 := a0_0) (a0_1 := a0_1) (a0_2 := a0_2) (a0_3 := a0_3) (l1 := l1) (k := k) H [] (fq rfl rfl fi_ rfl) ?_))))))))))))))
  intro k x7 hk H; rcases k with _ | k; exact bD H; rw [cL.l0] at H
  refine bT H (fun c H => ?_) (fun c H => ?_)
  refine Br.t ft_ (Br.t ft_ (Br.t ft_ (nd_ H (fun c H => (Nd.mk nf_ (El.mk (aZ _ _ nf_ nf_) (Br.t ft_ (Br.t ft_ (Br.t ft_ (Br.t ft_ (Br.t ft_ (Br.t ft_ (cu 944 [(2, .bp 0 0), (4, .bp 8 0), (6, .bp 640 0), (7, .int .i64 x7), (122, .bool (Op.bytesLess ((aH a0_3 x7).f0).toList (bE ByteArray.empty l1 1).toList))] [(0, .box [(aG a0_0), (aE a0_1), (aD a0_2), (aC a0_3)]), (8, .box [.nil, .nil, .nil, .nil]), (640, .box [.str (bE ByteArray.empty l1 1), .str (bE ByteArray.empty l1 3), .str (bE ByteArray.empty l1 2), .str (bE ByteArray.empty l1 4)])] rfl rfl rfl (iI H (fun c H => ?_) (fun c H => ?_)))))))))))))))
  exact ⟨(k, wrap64 (x7 + 1)), [], ⟨H, lt_⟩, lt_, (fq rfl rfl fi_ rfl)⟩
  refine Or.inl (Nd.mk nf_ (nd_ H (fun c H => (nd_ H (fun c H => (Or.inl (nd_ H (fun c H => (Nd.mk nf_ (Nd.mk nf_ (nd_ H (fun c H => (iQ 1072 [(2, .bp 0 0), (4, .bp 8 0)] [(0, .box [(aG a0_0), (aE a0_1), (aD a0_2), .own 1048 (0 + (x7).toNat + 1 + (a0_3.length - (x7).toNat))]), (8, .box [.nil, .nil, .nil, .nil]), (1048, .arr 53 4 ((((([] : List aA) ++ (a0_3.take (x7).toNat)) ++ ([(⟨bE ByteArray.empty l1 1, bE ByteArray.empty l1 3, bE ByteArray.empty l1 2, bE ByteArray.empty l1 4⟩ : aA)] : List aA)) ++ (a0_3.drop (x7).toNat)).map aR))] rfl ⟨.inl rfl, ⟨.inl rfl, trivial⟩⟩ ⟨rfl, ⟨rfl, ⟨fm_, trivial⟩⟩⟩ ?_)))))))))))))
  cases H
  exact iG [1048] (dL (gW (cC (fW rfl) (cC (fW rfl) (cC (fW rfl) (cC (jH rfl lm_ lm_ rfl) (hQ)))))) (dL (gX rfl) (gJ)))
  refine Br.f ff_ (Br.f ff_ (Br.f ff_ (Br.f ff_ (Br.f ff_ (Br.f ff_ (Br.f ff_ (Br.f ff_ (Br.f ff_ (cu 944 [(2, .bp 0 0), (4, .bp 8 0), (6, .bp 640 0), (7, .int .i64 x7), (122, .bool false)] [(0, .box [(aG a0_0), (aE a0_1), (aD a0_2), (aC a0_3)]), (8, .box [.nil, .nil, .nil, .nil]), (640, .box [.str (bE ByteArray.empty l1 1), .str (bE ByteArray.empty l1 3), .str (bE ByteArray.empty l1 2), .str (bE ByteArray.empty l1 4)])] rfl rfl rfl (Br.f rfl (Or.inl (nd_ H (fun c H => (nd_ H (fun c H => (nd_ H (fun c H => (Or.inl (nd_ H (fun c H => (Nd.mk nf_ (Nd.mk nf_ (nd_ H (fun c H => (iQ 1072 [(2, .bp 0 0), (4, .bp 8 0)] [(0, .box [(aG a0_0), (aE a0_1), (aD a0_2), .own 1048 (0 + (x7).toNat + 1 + (a0_3.length - (x7).toNat))]), (8, .box [.nil, .nil, .nil, .nil]), (1048, .arr 53 4 ((((([] : List aA) ++ (a0_3.take (x7).toNat)) ++ ([(⟨bE ByteArray.empty l1 1, bE ByteArray.empty l1 3, bE ByteArray.empty l1 2, bE ByteArray.empty l1 4⟩ : aA)] : List aA)) ++ (a0_3.drop (x7).toNat)).map aR))] rfl ⟨.inl rfl, ⟨.inl rfl, trivial⟩⟩ ⟨rfl, ⟨rfl, ⟨fm_, trivial⟩⟩⟩ ?_)))))))))))))))))))))))))
  cases H
  exact iG [1048] (dL (gW (cC (fW rfl) (cC (fW rfl) (cC (fW rfl) (cC (jH rfl lm_ lm_ rfl) (hQ)))))) (dL (gX rfl) (gJ)))
  refine cu 696 [(2, .bp 0 0), (4, .bp 8 0), (6, .bp 640 0)] [(0, .box [(aG a0_0), (aE a0_1), (aD a0_2), (aC a0_3)]), (8, .box [.nil, .nil, .nil, .nil]), (640, .box [.str (bE ByteArray.empty l1 1), .str (bE ByteArray.empty l1 2), .str (bE ByteArray.empty l1 3), .str (bE ByteArray.empty l1 4)])] rfl rfl rfl (cu 704 [(2, .bp 0 0), (4, .bp 8 0), (6, .bp 640 0), (7, .int .i64 0)] [(0, .box [(aG a0_0), (aE a0_1), (aD a0_2), (aC a0_3)]), (8, .box [.nil, .nil, .nil, .nil]), (640, .box [.str (bE ByteArray.empty l1 1), .str (bE ByteArray.empty l1 2), .str (bE ByteArray.empty l1 3), .str (bE ByteArray.empty l1 4)])] rfl rfl rfl (cL.l1_lp (a0_0 := a0_0) (a0_1 := a0_1) (a0_2 := a0_2) (a0_3 := a0_3) (l1 := l1) (k := k) H [] (fq rfl rfl fi_ rfl) ?_))
  intro k x7_1 hk H; rcases k with _ | k; exact bD H; rw [cL.l1] at H
  refine bT H (fun c H => ?_) (fun c H => ?_)
  refine Br.t ft_ (Br.t ft_ (Br.t ft_ (nd_ H (fun c H => (Nd.mk nf_ (El.mk (aZ _ _ nf_ nf_) (Br.t ft_ (Br.t ft_ (Br.t ft_ (Br.t ft_ (Br.t ft_ (Br.t ft_ (cu 832 [(2, .bp 0 0), (4, .bp 8 0), (6, .bp 640 0), (7, .int .i64 x7_1), (122, .bool (Op.bytesLess ((aH a0_3 x7_1).f0).toList (bE ByteArray.empty l1 1).toList))] [(0, .box [(aG a0_0), (aE a0_1), (aD a0_2), (aC a0_3)]), (8, .box [.nil, .nil, .nil, .nil]), (640, .box [.str (bE ByteArray.empty l1 1), .str (bE ByteArray.empty l1 2), .str (bE ByteArray.empty l1 3), .str (bE ByteArray.empty l1 4)])] rfl rfl rfl (iI H (fun c H => ?_) (fun c H => ?_)))))))))))))))
  exact ⟨(k, wrap64 (x7_1 + 1)), [], ⟨H, lt_⟩, lt_, (fq rfl rfl fi_ rfl)⟩
  refine Or.inl (Nd.mk nf_ (nd_ H (fun c H => (nd_ H (fun c H => (Or.inl (nd_ H (fun c H => (Nd.mk nf_ (Nd.mk nf_ (nd_ H (fun c H => (iQ 960 [(2, .bp 0 0), (4, .bp 8 0)] [(0, .box [(aG a0_0), (aE a0_1), (aD a0_2), .own 936 (0 + (x7_1).toNat + 1 + (a0_3.length - (x7_1).toNat))]), (8, .box [.nil, .nil, .nil, .nil]), (936, .arr 53 4 ((((([] : List aA) ++ (a0_3.take (x7_1).toNat)) ++ ([(⟨bE ByteArray.empty l1 1, bE ByteArray.empty l1 2, bE ByteArray.empty l1 3, bE ByteArray.empty l1 4⟩ : aA)] : List aA)) ++ (a0_3.drop (x7_1).toNat)).map aR))] rfl ⟨.inl rfl, ⟨.inl rfl, trivial⟩⟩ ⟨rfl, ⟨rfl, ⟨fm_, trivial⟩⟩⟩ ?_)))))))))))))
  cases H
  exact iG [936] (dL (gW (cC (fW rfl) (cC (fW rfl) (cC (fW rfl) (cC (jH rfl lm_ lm_ rfl) (hQ)))))) (dL (gX rfl) (gJ)))
  refine Br.f ff_ (Br.f ff_ (Br.f ff_ (Br.f ff_ (Br.f ff_ (Br.f ff_ (Br.f ff_ (Br.f ff_ (Br.f ff_ (cu 832 [(2, .bp 0 0), (4, .bp 8 0), (6, .bp 640 0), (7, .int .i64 x7_1), (122, .bool false)] [(0, .box [(aG a0_0), (aE a0_1), (aD a0_2), (aC a0_3)]), (8, .box [.nil, .nil, .nil, .nil]), (640, .box [.str (bE ByteArray.empty l1 1), .str (bE ByteArray.empty l1 2), .str (bE ByteArray.empty l1 3), .str (bE ByteArray.empty l1 4)])] rfl rfl rfl (Br.f rfl (Or.inl (nd_ H (fun c H => (nd_ H (fun c H => (nd_ H (fun c H => (Or.inl (nd_ H (fun c H => (Nd.mk nf_ (Nd.mk nf_ (nd_ H (fun c H => (iQ 960 [(2, .bp 0 0), (4, .bp 8 0)] [(0, .box [(aG a0_0), (aE a0_1), (aD a0_2), .own 936 (0 + (x7_1).toNat + 1 + (a0_3.length - (x7_1).toNat))]), (8, .box [.nil, .nil, .nil, .nil]), (936, .arr 53 4 ((((([] : List aA) ++ (a0_3.take (x7_1).toNat)) ++ ([(⟨bE ByteArray.empty l1 1, bE ByteArray.empty l1 2, bE ByteArray.empty l1 3, bE ByteArray.empty l1 4⟩ : aA)] : List aA)) ++ (a0_3.drop (x7_1).toNat)).map aR))] rfl ⟨.inl rfl, ⟨.inl rfl, trivial⟩⟩ ⟨rfl, ⟨rfl, ⟨fm_, trivial⟩⟩⟩ ?_)))))))))))))))))))))))))
  cases H
  exact iG [936] (dL (gW (cC (fW rfl) (cC (fW rfl) (cC (fW rfl) (cC (jH rfl lm_ lm_ rfl) (hQ)))))) (dL (gX rfl) (gJ)))
  refine cu 368 [(4, .bp 8 0), (5, .int .i64 3)] [(8, .box [(aG a0_0), (aE a0_1), (aD a0_2), (aC a0_3)])] rfl rfl rfl ?_
  cases H
  exact rts rfl
  refine Br.t ft_ (Br.t ft_ (Br.t ft_ (Br.t ft_ (Br.t ft_ (Br.t ft_ (Br.t ft_ (Br.t rfl (Br.t rfl (Br.t rfl (Br.t rfl (Br.t rfl (Br.t rfl (cu 344 [(1, (aG l1)), (2, .bp 0 0), (4, .bp 8 0), (47, .bool true)] [(0, .box [(aG a0_0), (aE a0_1), (aD a0_2), (aC a0_3)]), (8, .box [.nil, .nil, .nil, .nil])] rfl rfl rfl (Br.t rfl (cu 368 [(4, .bp 8 0), (5, .int .i64 3)] [(8, .box [(aG a0_0), (aE a0_1), (aD a0_2), (aC a0_3)])] rfl rfl rfl ?_)))))))))))))))
  cases H
  exact rts rfl
  refine Br.t ft_ (Br.t ft_ (Br.t ft_ (Br.t ft_ (Br.t ft_ (Br.t rfl (Br.t rfl (Br.t rfl (Br.t rfl (Br.t rfl (Br.t rfl (Br.t rfl (Br.t rfl (Br.t rfl (Br.t rfl (Br.t rfl (Br.t rfl (Br.t rfl (Br.t rfl (cu 344 [(1, (aG l1)), (2, .bp 0 0), (4, .bp 8 0), (47, .bool true)] [(0, .box [(aG a0_0), (aE a0_1), (aD a0_2), (aC a0_3)]), (8, .box [.nil, .nil, .nil, .nil])] rfl rfl rfl (Br.t rfl (cu 368 [(4, .bp 8 0), (5, .int .i64 3)] [(8, .box [(aG a0_0), (aE a0_1), (aD a0_2), (aC a0_3)])] rfl rfl rfl ?_)))))))))))))))))))))
  cases H
  exact rts rfl
  refine Br.t ft_ (Br.t ft_ (Br.t ft_ (Br.t ft_ (Br.t ft_ (Br.t rfl (Br.t rfl (Br.t rfl (Br.t rfl (Br.t rfl (Br.t rfl (Br.t rfl (Br.t rfl (Br.t rfl (Br.t rfl (Br.t rfl (Br.t rfl (Br.t rfl (Br.t rfl (Br.t rfl (Br.t rfl (Br.t rfl (Br.t rfl (Br.t rfl ?_)))))))))))))))))))))))
  refine Br.t rfl (cu 344 [(1, (aG l1)), (2, .bp 0 0), (4, .bp 8 0), (47, .bool true)] [(0, .box [(aG a0_0), (aE a0_1), (aD a0_2), (aC a0_3)]), (8, .box [.nil, .nil, .nil, .nil])] rfl rfl rfl (Br.t rfl (cu 368 [(4, .bp 8 0), (5, .int .i64 3)] [(8, .box [(aG a0_0), (aE a0_1), (aD a0_2), (aC a0_3)])] rfl rfl rfl ?_)))
  cases H
  exact rts rfl
  refine Br.t ft_ (Br.t ft_ (Br.t ft_ (Br.t ft_ (Br.t ft_ (Br.t rfl (Br.t rfl (Br.t rfl (Br.t rfl (Br.t rfl (Br.t rfl (Br.t rfl (Br.t rfl (Br.t rfl (Br.t rfl (Br.t rfl (Br.t rfl (Br.t rfl (Br.t rfl (Br.t rfl (Br.t rfl (Br.t rfl (Br.t rfl (Br.t rfl ?_)))))))))))))))))))))))
  refine Br.t rfl (Br.t rfl (Br.t rfl (Br.t rfl (Br.t rfl (Br.t rfl (Br.t rfl (cu 344 [(1, (aG l1)), (2, .bp 0 0), (4, .bp 8 0), (47, .bool true)] [(0, .box [(aG a0_0), (aE a0_1), (aD a0_2), (aC a0_3)]), (8, .box [.nil, .nil, .nil, .nil])] rfl rfl rfl (Br.t rfl (cu 368 [(4, .bp 8 0), (5, .int .i64 3)] [(8, .box [(aG a0_0), (aE a0_1), (aD a0_2), (aC a0_3)])] rfl rfl rfl ?_)))))))))
  cases H
  exact rts rfl
theorem jT.ac {k : Nat} {a0_0 : List ByteArray} {a0_1 : List aF} {a0_2 : List aB} {a0_3 : List aA} {l1 : List ByteArray} {r : (List ByteArray) × (List aF) × (List aB) × (List aA) × Int} (H : jT.f k a0_0 a0_1 a0_2 a0_3 l1 = some r) : cK Try.prog G 64 [] [.agg [(aG a0_0), (aE a0_1), (aD a0_2), (aC a0_3)], (aG l1)] [] (.tup [.agg [(aG r.1), (aE r.2.1), (aD r.2.2.1), (aC r.2.2.2.1)], .int .i64 r.2.2.2.2]) := by
  refine bN tok hP Try.func64 rfl (by kernel_rfl) [.cell 4 28, .tmp 5] rfl (by kernel_rfl) (Nat.le_of_ble_eq_true rfl) (.l .n (.l (.l .n (.l .n (.l (.c .n .n) (.c .n (.l .n (.l .n (.l .n (.l .n (.l (.c .n .n) (.l .n (.l (.c .n .n) .n))))))))))) .n)) rfl ?_
  unfold jT.f at H
  refine Nd.mk (by decide) (nd_ H (fun c H => (El.mk (aP _ _ nf_ nf_) (bT H (fun c H => ?_) (fun c H => ?_)))))
  revert H; refine aK (fun t871 A H => (cmk (eH.ac A) rfl rfl (cu 120 [(4, .bp 8 0), (5, .int .i64 t871.2.2.2.2)] [(8, .box [(aG t871.1), (aE t871.2.1), (aD t871.2.2.1), (aC t871.2.2.2.1)])] rfl rfl rfl ?_)))
  cases H
  exact rts rfl
  refine cu 80 [(1, (aG l1)), (2, .bp 0 0), (4, .bp 8 0), (8, .str (bE ByteArray.empty l1 0)), (16, .bool (decide ((bE ByteArray.empty l1 0).toList = (⟨#[102, 111, 101]⟩ : ByteArray).toList)))] [(0, .box [(aG a0_0), (aE a0_1), (aD a0_2), (aC a0_3)]), (8, .box [.nil, .nil, .nil, .nil])] rfl rfl rfl (bT H (fun c H => ?_) (fun c H => ?_))
  revert H; refine aK (fun t872 A H => (cmk (dB.ac A) rfl rfl ?_))
  cases H
  exact rts rfl
  refine bT H (fun c H => ?_) (fun c H => ?_)
  revert H; refine aK (fun t873 A H => (cmk (iK.ac A) rfl rfl ?_))
  cases H
  exact rts rfl
  refine bT H (fun c H => ?_) (fun c H => ?_)
  revert H; refine aK (fun t874 A H => (cmk (iV.ac A) rfl rfl (cu 168 [(4, .bp 8 0), (5, .int .i64 t874.2.2.2.2)] [(8, .box [(aG t874.1), (aE t874.2.1), (aD t874.2.2.1), (aC t874.2.2.2.1)])] rfl rfl rfl ?_)))
  cases H
  exact rts rfl
  refine bT H (fun c H => ?_) (fun c H => ?_)
  revert H; refine aK (fun t875 A H => (cmk (cL.ac A) rfl rfl (cu 184 [(4, .bp 8 0), (5, .int .i64 t875.2.2.2.2)] [(8, .box [(aG t875.1), (aE t875.2.1), (aD t875.2.2.1), (aC t875.2.2.2.1)])] rfl rfl rfl ?_)))
  cases H
  exact rts rfl
  cases H
  exact rts rfl
theorem dA.ac {k : Nat} {a0_0 : List ByteArray} {a0_1 : List aF} {a0_2 : List aB} {a0_3 : List aA} {l1 : List ByteArray} {r : (List ByteArray) × (List aF) × (List aB) × (List aA)} (H : dA.f k a0_0 a0_1 a0_2 a0_3 l1 = some r) : cK Try.prog G 51 [] [.agg [(aG a0_0), (aE a0_1), (aD a0_2), (aC a0_3)], (aG l1)] [] (.agg [(aG r.1), (aE r.2.1), (aD r.2.2.1), (aC r.2.2.2)]) := by
  refine bN tok hP Try.func51 rfl (by kernel_rfl) [.cell 4 28] rfl (by kernel_rfl) (Nat.le_of_ble_eq_true rfl) (.l .n (.c .n .n)) rfl ?_
  unfold dA.f at H
  revert H; refine aK (fun t888 A H => (cmk (jT.ac A) rfl rfl (cu 88 [(2, .bp 0 0), (4, .bp 8 0), (5, .bp 64 0), (6, .int .i64 t888.2.2.2.2)] [(0, .box [(aG a0_0), (aE a0_1), (aD a0_2), (aC a0_3)]), (8, .box [.nil, .nil, .nil, .nil]), (64, .box [(aG t888.1), (aE t888.2.1), (aD t888.2.2.1), (aC t888.2.2.2.1)])] rfl rfl rfl (iW H (fun c H => ?_) (fun c H => ?_)))))
  cases H
  exact jL [] (rta rfl)
  cases H
  exact jL [] (rta rfl)
theorem cQ.ac_ : ∀ (k : Nat) (a0 : Int) (r : ByteArray), cQ.f k a0 = some r → cK Try.prog G 52 [] [.int .i64 a0] [] (.str r)
  | 0, _, _, H => bD H
  | k + 1, a0, r, H => by
    refine bN tok hP Try.func52 rfl (by kernel_rfl) [.tmp 2] rfl (by kernel_rfl) (Nat.le_of_ble_eq_true rfl) (.l .n (.l .n (.c .n .n))) rfl ?_
    rw [cQ.f] at H
    refine bT H (fun c H => ?_) (fun c H => ?_)
    refine Or.inl ?_
    cases H
    exact rz rfl
    refine Nd.mk (by decide) ?_
    revert H; refine aK (fun t1171 A H => (cmk (cQ.ac_ _ _ _ A) rfl rfl (Nd.mk (by decide) (Or.inl (nd_ H (fun c H => (cu 112 [(2, .str (t1171 ++ (⟨#[UInt8.ofNat (IntKind.wrap .u8 (wrap64 (48 + (Int.tmod a0 10)))).toNat]⟩ : ByteArray)))] [] rfl rfl rfl ?_)))))))
    cases H
    exact rz rfl
theorem cQ.ac {k : Nat} {a0 : Int} {r : ByteArray} (H : cQ.f k a0 = some r) : cK Try.prog G 52 [] [.int .i64 a0] [] (.str r) := cQ.ac_ _ _ _ H
theorem dV.ac {a0_0 : List ByteArray} {a0_1 : List aF} {a0_2 : List aB} {a0_3 : List aA} {r : (List ByteArray) × (List aF) × (List aB) × (List aA)} (H : dV.f a0_0 a0_1 a0_2 a0_3 = some r) : cK Try.prog G 53 [] [.agg [(aG a0_0), (aE a0_1), (aD a0_2), (aC a0_3)]] [] (.agg [(aG r.1), (aE r.2.1), (aD r.2.2.1), (aC r.2.2.2)]) := by
  refine bN tok hP Try.func53 rfl (by kernel_rfl) [.cell 2 28] rfl (by kernel_rfl) (Nat.le_of_ble_eq_true rfl) (.l .n (.c .n .n)) rfl ?_
  unfold dV.f at H
  refine Or.inl (nd_ H (fun c H => (Or.inl (nd_ H (fun c H => (Or.inl (nd_ H (fun c H => (Or.inl (nd_ H (fun c H => (iQ 160 [(2, .bp 8 0)] [(8, .box [.own 40 (0 + a0_0.length), .own 72 (0 + a0_1.length), .own 104 (0 + a0_2.length), .own 136 (0 + a0_3.length)]), (40, .arr 9 1 ((([] : List ByteArray) ++ a0_0).map bB)), (72, .arr 66 2 ((([] : List aF) ++ a0_1).map aV)), (104, .arr 68 3 ((([] : List aB) ++ a0_2).map aS)), (136, .arr 53 4 ((([] : List aA) ++ a0_3).map aR))] rfl ⟨.inl rfl, trivial⟩ ⟨rfl, ⟨fm_, ⟨fm_, ⟨fm_, ⟨fm_, trivial⟩⟩⟩⟩⟩ ?_))))))))))))
  cases H
  exact jL [40, 72, 104, 136] (gW (cC (jH rfl lm_ lm_ rfl) (cC (jH rfl lm_ lm_ rfl) (cC (jH rfl lm_ lm_ rfl) (cC (jH rfl lm_ lm_ rfl) (hQ))))))
theorem dV.acO {a0_0 : List ByteArray} {a0_1 : List aF} {a0_2 : List aB} {a0_3 : List aA} {r : (List ByteArray) × (List aF) × (List aB) × (List aA)} (H : dV.f a0_0 a0_1 a0_2 a0_3 = some r) : cK Try.prog G 53 [] [.agg [(aG a0_0), (aE a0_1), (aD a0_2), (aC a0_3)]] [.arr 9 1 (r.1.map bB), .arr 66 2 (r.2.1.map aV), .arr 68 3 (r.2.2.1.map aS), .arr 53 4 (r.2.2.2.map aR)] (.agg [.own 0 r.1.length, .own 1 r.2.1.length, .own 2 r.2.2.1.length, .own 3 r.2.2.2.length]) := by
  refine bN tok hP Try.func53 rfl (by kernel_rfl) [.cell 2 28] rfl (by kernel_rfl) (Nat.le_of_ble_eq_true rfl) (.l .n (.c .n .n)) rfl ?_
  unfold dV.f at H
  refine Or.inl (nd_ H (fun c H => (Or.inl (nd_ H (fun c H => (Or.inl (nd_ H (fun c H => (Or.inl (nd_ H (fun c H => (iQ 160 [(2, .bp 8 0)] [(8, .box [.own 40 (0 + a0_0.length), .own 72 (0 + a0_1.length), .own 104 (0 + a0_2.length), .own 136 (0 + a0_3.length)]), (40, .arr 9 1 ((([] : List ByteArray) ++ a0_0).map bB)), (72, .arr 66 2 ((([] : List aF) ++ a0_1).map aV)), (104, .arr 68 3 ((([] : List aB) ++ a0_2).map aS)), (136, .arr 53 4 ((([] : List aA) ++ a0_3).map aR))] rfl ⟨.inl rfl, trivial⟩ ⟨rfl, ⟨fm_, ⟨fm_, ⟨fm_, ⟨fm_, trivial⟩⟩⟩⟩⟩ ?_))))))))))))
  cases H
  exact eT [some 40, some 72, some 104, some 136] [] ((gW (cC (eL lm_) (cC (eL lm_) (cC (eL lm_) (cC (eL lm_) (hQ))))))) ⟨rfl, ⟨rfl, ⟨rfl, ⟨rfl, trivial⟩⟩⟩⟩ rfl
theorem aJ.j0_sq {F : (Exit → St → Prop) → St → Prop} {hv : List Tmp} {K : St → Prop} {Q : Exit → St → Prop} {σ : St} {r : (List ByteArray) × (List aF) × (List aB) × (List aA) × (List Int) × Int} {KK : Nat} {x8 : Int} {x1017000_2 : List ByteArray} {x1017001_2 : List aF} {x1017002_2 : List aB} {x1017003_2 : List aA} {t8346 : ByteArray × (List Int) × Int}
    (h1 : F (fun e σ' => match e with | .normal => ∃ (y : Nat × Bool) (rn : List (Option Nat)), (aJ.j0 y.1 x8 y.2 t8346 x1017000_2 x1017001_2 x1017002_2 x1017003_2 = some r ∧ y.1 < KK) ∧ cM σ σ' [] [(74, .bool y.2)] [] [] rn | e => Q e σ') σ)
    (h2 : ∀ (k : Nat) (x74 : Bool), k < KK → aJ.j0 k x8 x74 t8346 x1017000_2 x1017001_2 x1017002_2 x1017003_2 = some r → dF σ hv [] [(74, .bool x74)] [] [] K) : Sq F hv K Q σ := by
  unfold Sq
  refine ⟨Nat × Bool, fun x => aJ.j0 x.1 x8 x.2 t8346 x1017000_2 x1017001_2 x1017002_2 x1017003_2 = some r ∧ x.1 < KK, [], fun x => [(74, .bool x.2)], fun x => [], fun x => [], h1, ?_⟩
  rintro ⟨k, x74⟩ ⟨H, hk⟩
  exact h2 k x74 hk H
theorem aJ.l5_lp {F : (Exit → St → Prop) → St → Prop} {hv : List Tmp} {Q : Exit → St → Prop} {σ : St} {r : (List ByteArray) × (List aF) × (List aB) × (List aA) × (List Int) × Int} {k : Nat} {x12 : Int} {x1000000_4 : List Int} {x1000001_4 : Int} {x1017000_5 : List ByteArray} {x1017001_5 : List aF} {x1017002_5 : List aB} {x1017003_5 : List aA} (H : aJ.l5 k x12 x1000000_4 x1000001_4 x1017000_5 x1017001_5 x1017002_5 x1017003_5 = some r) (rn : List (Option Nat)) (h1 : cM σ σ [0, 17] [(12, .int .i64 x12)] [(0, .box [(bP x1000000_4), .int .i64 x1000001_4]), (17, .box [(aG x1017000_5), (aE x1017001_5), (aD x1017002_5), (aC x1017003_5)])] [] rn)
    (h2 : ∀ (k0 : Nat) (x12 : Int) (x1000000_4 : List Int) (x1000001_4 : Int) (x1017000_5 : List ByteArray) (x1017001_5 : List aF) (x1017002_5 : List aB) (x1017003_5 : List aA), k0 < k + 1 → aJ.l5 k0 x12 x1000000_4 x1000001_4 x1017000_5 x1017001_5 x1017002_5 x1017003_5 = some r → dF σ hv [0, 17] [(12, .int .i64 x12)] [(0, .box [(bP x1000000_4), .int .i64 x1000001_4]), (17, .box [(aG x1017000_5), (aE x1017001_5), (aD x1017002_5), (aC x1017003_5)])] [] (F (fun e σ' => match e with | .normal => ∃ (y : Nat × Int × (List Int) × Int × (List ByteArray) × (List aF) × (List aB) × (List aA)) (rn : List (Option Nat)), (aJ.l5 y.1 y.2.1 y.2.2.1 y.2.2.2.1 y.2.2.2.2.1 y.2.2.2.2.2.1 y.2.2.2.2.2.2.1 y.2.2.2.2.2.2.2 = some r ∧ y.1 < k + 1) ∧ y.1 < k0 ∧ cM σ σ' [0, 17] [(12, .int .i64 y.2.1)] [(0, .box [(bP y.2.2.1), .int .i64 y.2.2.2.1]), (17, .box [(aG y.2.2.2.2.1), (aE y.2.2.2.2.2.1), (aD y.2.2.2.2.2.2.1), (aC y.2.2.2.2.2.2.2)])] [] rn | e => Q e σ'))) : Lp F hv Q σ := by
  unfold Lp
  refine ⟨Nat × Int × (List Int) × Int × (List ByteArray) × (List aF) × (List aB) × (List aA), fun x => aJ.l5 x.1 x.2.1 x.2.2.1 x.2.2.2.1 x.2.2.2.2.1 x.2.2.2.2.2.1 x.2.2.2.2.2.2.1 x.2.2.2.2.2.2.2 = some r ∧ x.1 < k + 1, fun x => x.1, [0, 17], fun x => [(12, .int .i64 x.2.1)], fun x => [(0, .box [(bP x.2.2.1), .int .i64 x.2.2.2.1]), (17, .box [(aG x.2.2.2.2.1), (aE x.2.2.2.2.2.1), (aD x.2.2.2.2.2.2.1), (aC x.2.2.2.2.2.2.2)])], fun x => [], ⟨(k, x12, x1000000_4, x1000001_4, x1017000_5, x1017001_5, x1017002_5, x1017003_5), rn, ⟨H, Nat.lt_succ_self _⟩, h1⟩, ?_⟩
  rintro ⟨k, x12, x1000000_4, x1000001_4, x1017000_5, x1017001_5, x1017002_5, x1017003_5⟩ ⟨H, hk⟩
  exact h2 k x12 x1000000_4 x1000001_4 x1017000_5 x1017001_5 x1017002_5 x1017003_5 hk H
theorem aJ.l4_lp {F : (Exit → St → Prop) → St → Prop} {hv : List Tmp} {Q : Exit → St → Prop} {σ : St} {r : (List ByteArray) × (List aF) × (List aB) × (List aA) × (List Int) × Int} {k : Nat} {t8376 : Int × (List Int) × Int} {x11 : Int} {x1017000_4 : List ByteArray} {x1017001_4 : List aF} {x1017002_4 : List aB} {x1017003_4 : List aA} (H : aJ.l4 k x11 t8376 x1017000_4 x1017001_4 x1017002_4 x1017003_4 = some r) (rn : List (Option Nat)) (h1 : cM σ σ [17] [(11, .int .i64 x11)] [(17, .box [(aG x1017000_4), (aE x1017001_4), (aD x1017002_4), (aC x1017003_4)])] [] rn)
    (h2 : ∀ (k0 : Nat) (x11 : Int) (x1017000_4 : List ByteArray) (x1017001_4 : List aF) (x1017002_4 : List aB) (x1017003_4 : List aA), k0 < k + 1 → aJ.l4 k0 x11 t8376 x1017000_4 x1017001_4 x1017002_4 x1017003_4 = some r → dF σ hv [17] [(11, .int .i64 x11)] [(17, .box [(aG x1017000_4), (aE x1017001_4), (aD x1017002_4), (aC x1017003_4)])] [] (F (fun e σ' => match e with | .normal => ∃ (y : Nat × Int × (List ByteArray) × (List aF) × (List aB) × (List aA)) (rn : List (Option Nat)), (aJ.l4 y.1 y.2.1 t8376 y.2.2.1 y.2.2.2.1 y.2.2.2.2.1 y.2.2.2.2.2 = some r ∧ y.1 < k + 1) ∧ y.1 < k0 ∧ cM σ σ' [17] [(11, .int .i64 y.2.1)] [(17, .box [(aG y.2.2.1), (aE y.2.2.2.1), (aD y.2.2.2.2.1), (aC y.2.2.2.2.2)])] [] rn | e => Q e σ'))) : Lp F hv Q σ := by
  unfold Lp
  refine ⟨Nat × Int × (List ByteArray) × (List aF) × (List aB) × (List aA), fun x => aJ.l4 x.1 x.2.1 t8376 x.2.2.1 x.2.2.2.1 x.2.2.2.2.1 x.2.2.2.2.2 = some r ∧ x.1 < k + 1, fun x => x.1, [17], fun x => [(11, .int .i64 x.2.1)], fun x => [(17, .box [(aG x.2.2.1), (aE x.2.2.2.1), (aD x.2.2.2.2.1), (aC x.2.2.2.2.2)])], fun x => [], ⟨(k, x11, x1017000_4, x1017001_4, x1017002_4, x1017003_4), rn, ⟨H, Nat.lt_succ_self _⟩, h1⟩, ?_⟩
  rintro ⟨k, x11, x1017000_4, x1017001_4, x1017002_4, x1017003_4⟩ ⟨H, hk⟩
  exact h2 k x11 x1017000_4 x1017001_4 x1017002_4 x1017003_4 hk H
theorem aJ.l7_lp {F : (Exit → St → Prop) → St → Prop} {hv : List Tmp} {Q : Exit → St → Prop} {σ : St} {r : (List ByteArray) × (List aF) × (List aB) × (List aA) × (List Int) × Int} {k : Nat} {x12_1 : Int} {x1000000_5 : List Int} {x1000001_5 : Int} {x1017000_7 : List ByteArray} {x1017001_7 : List aF} {x1017002_7 : List aB} {x1017003_7 : List aA} (H : aJ.l7 k x12_1 x1000000_5 x1000001_5 x1017000_7 x1017001_7 x1017002_7 x1017003_7 = some r) (rn : List (Option Nat)) (h1 : cM σ σ [0, 17] [(12, .int .i64 x12_1)] [(0, .box [(bP x1000000_5), .int .i64 x1000001_5]), (17, .box [(aG x1017000_7), (aE x1017001_7), (aD x1017002_7), (aC x1017003_7)])] [] rn)
    (h2 : ∀ (k0 : Nat) (x12_1 : Int) (x1000000_5 : List Int) (x1000001_5 : Int) (x1017000_7 : List ByteArray) (x1017001_7 : List aF) (x1017002_7 : List aB) (x1017003_7 : List aA), k0 < k + 1 → aJ.l7 k0 x12_1 x1000000_5 x1000001_5 x1017000_7 x1017001_7 x1017002_7 x1017003_7 = some r → dF σ hv [0, 17] [(12, .int .i64 x12_1)] [(0, .box [(bP x1000000_5), .int .i64 x1000001_5]), (17, .box [(aG x1017000_7), (aE x1017001_7), (aD x1017002_7), (aC x1017003_7)])] [] (F (fun e σ' => match e with | .normal => ∃ (y : Nat × Int × (List Int) × Int × (List ByteArray) × (List aF) × (List aB) × (List aA)) (rn : List (Option Nat)), (aJ.l7 y.1 y.2.1 y.2.2.1 y.2.2.2.1 y.2.2.2.2.1 y.2.2.2.2.2.1 y.2.2.2.2.2.2.1 y.2.2.2.2.2.2.2 = some r ∧ y.1 < k + 1) ∧ y.1 < k0 ∧ cM σ σ' [0, 17] [(12, .int .i64 y.2.1)] [(0, .box [(bP y.2.2.1), .int .i64 y.2.2.2.1]), (17, .box [(aG y.2.2.2.2.1), (aE y.2.2.2.2.2.1), (aD y.2.2.2.2.2.2.1), (aC y.2.2.2.2.2.2.2)])] [] rn | e => Q e σ'))) : Lp F hv Q σ := by
  unfold Lp
  refine ⟨Nat × Int × (List Int) × Int × (List ByteArray) × (List aF) × (List aB) × (List aA), fun x => aJ.l7 x.1 x.2.1 x.2.2.1 x.2.2.2.1 x.2.2.2.2.1 x.2.2.2.2.2.1 x.2.2.2.2.2.2.1 x.2.2.2.2.2.2.2 = some r ∧ x.1 < k + 1, fun x => x.1, [0, 17], fun x => [(12, .int .i64 x.2.1)], fun x => [(0, .box [(bP x.2.2.1), .int .i64 x.2.2.2.1]), (17, .box [(aG x.2.2.2.2.1), (aE x.2.2.2.2.2.1), (aD x.2.2.2.2.2.2.1), (aC x.2.2.2.2.2.2.2)])], fun x => [], ⟨(k, x12_1, x1000000_5, x1000001_5, x1017000_7, x1017001_7, x1017002_7, x1017003_7), rn, ⟨H, Nat.lt_succ_self _⟩, h1⟩, ?_⟩
  rintro ⟨k, x12_1, x1000000_5, x1000001_5, x1017000_7, x1017001_7, x1017002_7, x1017003_7⟩ ⟨H, hk⟩
  exact h2 k x12_1 x1000000_5 x1000001_5 x1017000_7 x1017001_7 x1017002_7 x1017003_7 hk H
theorem aJ.l6_lp {F : (Exit → St → Prop) → St → Prop} {hv : List Tmp} {Q : Exit → St → Prop} {σ : St} {r : (List ByteArray) × (List aF) × (List aB) × (List aA) × (List Int) × Int} {k : Nat} {t8395 : Int × (List Int) × Int} {x11_1 : Int} {x1017000_6 : List ByteArray} {x1017001_6 : List aF} {x1017002_6 : List aB} {x1017003_6 : List aA} (H : aJ.l6 k x11_1 t8395 x1017000_6 x1017001_6 x1017002_6 x1017003_6 = some r) (rn : List (Option Nat)) (h1 : cM σ σ [17] [(11, .int .i64 x11_1)] [(17, .box [(aG x1017000_6), (aE x1017001_6), (aD x1017002_6), (aC x1017003_6)])] [] rn)
    (h2 : ∀ (k0 : Nat) (x11_1 : Int) (x1017000_6 : List ByteArray) (x1017001_6 : List aF) (x1017002_6 : List aB) (x1017003_6 : List aA), k0 < k + 1 → aJ.l6 k0 x11_1 t8395 x1017000_6 x1017001_6 x1017002_6 x1017003_6 = some r → dF σ hv [17] [(11, .int .i64 x11_1)] [(17, .box [(aG x1017000_6), (aE x1017001_6), (aD x1017002_6), (aC x1017003_6)])] [] (F (fun e σ' => match e with | .normal => ∃ (y : Nat × Int × (List ByteArray) × (List aF) × (List aB) × (List aA)) (rn : List (Option Nat)), (aJ.l6 y.1 y.2.1 t8395 y.2.2.1 y.2.2.2.1 y.2.2.2.2.1 y.2.2.2.2.2 = some r ∧ y.1 < k + 1) ∧ y.1 < k0 ∧ cM σ σ' [17] [(11, .int .i64 y.2.1)] [(17, .box [(aG y.2.2.1), (aE y.2.2.2.1), (aD y.2.2.2.2.1), (aC y.2.2.2.2.2)])] [] rn | e => Q e σ'))) : Lp F hv Q σ := by
  unfold Lp
  refine ⟨Nat × Int × (List ByteArray) × (List aF) × (List aB) × (List aA), fun x => aJ.l6 x.1 x.2.1 t8395 x.2.2.1 x.2.2.2.1 x.2.2.2.2.1 x.2.2.2.2.2 = some r ∧ x.1 < k + 1, fun x => x.1, [17], fun x => [(11, .int .i64 x.2.1)], fun x => [(17, .box [(aG x.2.2.1), (aE x.2.2.2.1), (aD x.2.2.2.2.1), (aC x.2.2.2.2.2)])], fun x => [], ⟨(k, x11_1, x1017000_6, x1017001_6, x1017002_6, x1017003_6), rn, ⟨H, Nat.lt_succ_self _⟩, h1⟩, ?_⟩
  rintro ⟨k, x11_1, x1017000_6, x1017001_6, x1017002_6, x1017003_6⟩ ⟨H, hk⟩
  exact h2 k x11_1 x1017000_6 x1017001_6 x1017002_6 x1017003_6 hk H
theorem aJ.l3_lp {F : (Exit → St → Prop) → St → Prop} {hv : List Tmp} {Q : Exit → St → Prop} {σ : St} {r : (List ByteArray) × (List aF) × (List aB) × (List aA) × (List Int) × Int} {k : Nat} {x10 : Int} {x1000000_3 : List Int} {x1000001_3 : Int} {x1017000_3 : List ByteArray} {x1017001_3 : List aF} {x1017002_3 : List aB} {x1017003_3 : List aA} (H : aJ.l3 k x10 x1000000_3 x1000001_3 x1017000_3 x1017001_3 x1017002_3 x1017003_3 = some r) (rn : List (Option Nat)) (h1 : cM σ σ [0, 17, 182] [(10, .int .i64 x10)] [(0, .box [(bP x1000000_3), .int .i64 x1000001_3]), (17, .box [(aG x1017000_3), (aE x1017001_3), (aD x1017002_3), (aC x1017003_3)])] [] rn)
    (h2 : ∀ (k0 : Nat) (x10 : Int) (x1000000_3 : List Int) (x1000001_3 : Int) (x1017000_3 : List ByteArray) (x1017001_3 : List aF) (x1017002_3 : List aB) (x1017003_3 : List aA), k0 < k + 1 → aJ.l3 k0 x10 x1000000_3 x1000001_3 x1017000_3 x1017001_3 x1017002_3 x1017003_3 = some r → dF σ hv [0, 17, 182] [(10, .int .i64 x10)] [(0, .box [(bP x1000000_3), .int .i64 x1000001_3]), (17, .box [(aG x1017000_3), (aE x1017001_3), (aD x1017002_3), (aC x1017003_3)])] [] (F (fun e σ' => match e with | .normal => ∃ (y : Nat × Int × (List Int) × Int × (List ByteArray) × (List aF) × (List aB) × (List aA)) (rn : List (Option Nat)), (aJ.l3 y.1 y.2.1 y.2.2.1 y.2.2.2.1 y.2.2.2.2.1 y.2.2.2.2.2.1 y.2.2.2.2.2.2.1 y.2.2.2.2.2.2.2 = some r ∧ y.1 < k + 1) ∧ y.1 < k0 ∧ cM σ σ' [0, 17, 182] [(10, .int .i64 y.2.1)] [(0, .box [(bP y.2.2.1), .int .i64 y.2.2.2.1]), (17, .box [(aG y.2.2.2.2.1), (aE y.2.2.2.2.2.1), (aD y.2.2.2.2.2.2.1), (aC y.2.2.2.2.2.2.2)])] [] rn | e => Q e σ'))) : Lp F hv Q σ := by
  unfold Lp
  refine ⟨Nat × Int × (List Int) × Int × (List ByteArray) × (List aF) × (List aB) × (List aA), fun x => aJ.l3 x.1 x.2.1 x.2.2.1 x.2.2.2.1 x.2.2.2.2.1 x.2.2.2.2.2.1 x.2.2.2.2.2.2.1 x.2.2.2.2.2.2.2 = some r ∧ x.1 < k + 1, fun x => x.1, [0, 17, 182], fun x => [(10, .int .i64 x.2.1)], fun x => [(0, .box [(bP x.2.2.1), .int .i64 x.2.2.2.1]), (17, .box [(aG x.2.2.2.2.1), (aE x.2.2.2.2.2.1), (aD x.2.2.2.2.2.2.1), (aC x.2.2.2.2.2.2.2)])], fun x => [], ⟨(k, x10, x1000000_3, x1000001_3, x1017000_3, x1017001_3, x1017002_3, x1017003_3), rn, ⟨H, Nat.lt_succ_self _⟩, h1⟩, ?_⟩
  rintro ⟨k, x10, x1000000_3, x1000001_3, x1017000_3, x1017001_3, x1017002_3, x1017003_3⟩ ⟨H, hk⟩
  exact h2 k x10 x1000000_3 x1000001_3 x1017000_3 x1017001_3 x1017002_3 x1017003_3 hk H
theorem aJ.l2_lp {F : (Exit → St → Prop) → St → Prop} {hv : List Tmp} {Q : Exit → St → Prop} {σ : St} {r : (List ByteArray) × (List aF) × (List aB) × (List aA) × (List Int) × Int} {k : Nat} {x8 : Int} {x1000000_2 : List Int} {x1000001_2 : Int} {x1017000_2 : List ByteArray} {x1017001_2 : List aF} {x1017002_2 : List aB} {x1017003_2 : List aA} (H : aJ.l2 k x8 x1000000_2 x1000001_2 x1017000_2 x1017001_2 x1017002_2 x1017003_2 = some r) (rn : List (Option Nat)) (h1 : cM σ σ [0, 17] [(8, .int .i64 x8)] [(0, .box [(bP x1000000_2), .int .i64 x1000001_2]), (17, .box [(aG x1017000_2), (aE x1017001_2), (aD x1017002_2), (aC x1017003_2)])] [] rn)
    (h2 : ∀ (k0 : Nat) (x8 : Int) (x1000000_2 : List Int) (x1000001_2 : Int) (x1017000_2 : List ByteArray) (x1017001_2 : List aF) (x1017002_2 : List aB) (x1017003_2 : List aA), k0 < k + 1 → aJ.l2 k0 x8 x1000000_2 x1000001_2 x1017000_2 x1017001_2 x1017002_2 x1017003_2 = some r → dF σ hv [0, 17] [(8, .int .i64 x8)] [(0, .box [(bP x1000000_2), .int .i64 x1000001_2]), (17, .box [(aG x1017000_2), (aE x1017001_2), (aD x1017002_2), (aC x1017003_2)])] [] (F (fun e σ' => match e with | .normal => ∃ (y : Nat × Int × (List Int) × Int × (List ByteArray) × (List aF) × (List aB) × (List aA)) (rn : List (Option Nat)), (aJ.l2 y.1 y.2.1 y.2.2.1 y.2.2.2.1 y.2.2.2.2.1 y.2.2.2.2.2.1 y.2.2.2.2.2.2.1 y.2.2.2.2.2.2.2 = some r ∧ y.1 < k + 1) ∧ y.1 < k0 ∧ cM σ σ' [0, 17] [(8, .int .i64 y.2.1)] [(0, .box [(bP y.2.2.1), .int .i64 y.2.2.2.1]), (17, .box [(aG y.2.2.2.2.1), (aE y.2.2.2.2.2.1), (aD y.2.2.2.2.2.2.1), (aC y.2.2.2.2.2.2.2)])] [] rn | e => Q e σ'))) : Lp F hv Q σ := by
  unfold Lp
  refine ⟨Nat × Int × (List Int) × Int × (List ByteArray) × (List aF) × (List aB) × (List aA), fun x => aJ.l2 x.1 x.2.1 x.2.2.1 x.2.2.2.1 x.2.2.2.2.1 x.2.2.2.2.2.1 x.2.2.2.2.2.2.1 x.2.2.2.2.2.2.2 = some r ∧ x.1 < k + 1, fun x => x.1, [0, 17], fun x => [(8, .int .i64 x.2.1)], fun x => [(0, .box [(bP x.2.2.1), .int .i64 x.2.2.2.1]), (17, .box [(aG x.2.2.2.2.1), (aE x.2.2.2.2.2.1), (aD x.2.2.2.2.2.2.1), (aC x.2.2.2.2.2.2.2)])], fun x => [], ⟨(k, x8, x1000000_2, x1000001_2, x1017000_2, x1017001_2, x1017002_2, x1017003_2), rn, ⟨H, Nat.lt_succ_self _⟩, h1⟩, ?_⟩
  rintro ⟨k, x8, x1000000_2, x1000001_2, x1017000_2, x1017001_2, x1017002_2, x1017003_2⟩ ⟨H, hk⟩
  exact h2 k x8 x1000000_2 x1000001_2 x1017000_2 x1017001_2 x1017002_2 x1017003_2 hk H
theorem aJ.j1_sq {F : (Exit → St → Prop) → St → Prop} {hv : List Tmp} {K : St → Prop} {Q : Exit → St → Prop} {σ : St} {r : (List ByteArray) × (List aF) × (List aB) × (List aA) × (List Int) × Int} {KK : Nat} {x8_1 : Int} {x1017000_8 : List ByteArray} {x1017001_8 : List aF} {x1017002_8 : List aB} {x1017003_8 : List aA} {t8419 : ByteArray × (List Int) × Int}
    (h1 : F (fun e σ' => match e with | .normal => ∃ (y : Nat × Bool) (rn : List (Option Nat)), (aJ.j1 y.1 x8_1 y.2 t8419 x1017000_8 x1017001_8 x1017002_8 x1017003_8 = some r ∧ y.1 < KK) ∧ cM σ σ' [] [(74, .bool y.2)] [] [] rn | e => Q e σ') σ)
    (h2 : ∀ (k : Nat) (x74_1 : Bool), k < KK → aJ.j1 k x8_1 x74_1 t8419 x1017000_8 x1017001_8 x1017002_8 x1017003_8 = some r → dF σ hv [] [(74, .bool x74_1)] [] [] K) : Sq F hv K Q σ := by
  unfold Sq
  refine ⟨Nat × Bool, fun x => aJ.j1 x.1 x8_1 x.2 t8419 x1017000_8 x1017001_8 x1017002_8 x1017003_8 = some r ∧ x.1 < KK, [], fun x => [(74, .bool x.2)], fun x => [], fun x => [], h1, ?_⟩
  rintro ⟨k, x74_1⟩ ⟨H, hk⟩
  exact h2 k x74_1 hk H
theorem aJ.l11_lp {F : (Exit → St → Prop) → St → Prop} {hv : List Tmp} {Q : Exit → St → Prop} {σ : St} {r : (List ByteArray) × (List aF) × (List aB) × (List aA) × (List Int) × Int} {k : Nat} {x12_2 : Int} {x1000000_8 : List Int} {x1000001_8 : Int} {x1017000_11 : List ByteArray} {x1017001_11 : List aF} {x1017002_11 : List aB} {x1017003_11 : List aA} (H : aJ.l11 k x12_2 x1000000_8 x1000001_8 x1017000_11 x1017001_11 x1017002_11 x1017003_11 = some r) (rn : List (Option Nat)) (h1 : cM σ σ [0, 17] [(12, .int .i64 x12_2)] [(0, .box [(bP x1000000_8), .int .i64 x1000001_8]), (17, .box [(aG x1017000_11), (aE x1017001_11), (aD x1017002_11), (aC x1017003_11)])] [] rn)
    (h2 : ∀ (k0 : Nat) (x12_2 : Int) (x1000000_8 : List Int) (x1000001_8 : Int) (x1017000_11 : List ByteArray) (x1017001_11 : List aF) (x1017002_11 : List aB) (x1017003_11 : List aA), k0 < k + 1 → aJ.l11 k0 x12_2 x1000000_8 x1000001_8 x1017000_11 x1017001_11 x1017002_11 x1017003_11 = some r → dF σ hv [0, 17] [(12, .int .i64 x12_2)] [(0, .box [(bP x1000000_8), .int .i64 x1000001_8]), (17, .box [(aG x1017000_11), (aE x1017001_11), (aD x1017002_11), (aC x1017003_11)])] [] (F (fun e σ' => match e with | .normal => ∃ (y : Nat × Int × (List Int) × Int × (List ByteArray) × (List aF) × (List aB) × (List aA)) (rn : List (Option Nat)), (aJ.l11 y.1 y.2.1 y.2.2.1 y.2.2.2.1 y.2.2.2.2.1 y.2.2.2.2.2.1 y.2.2.2.2.2.2.1 y.2.2.2.2.2.2.2 = some r ∧ y.1 < k + 1) ∧ y.1 < k0 ∧ cM σ σ' [0, 17] [(12, .int .i64 y.2.1)] [(0, .box [(bP y.2.2.1), .int .i64 y.2.2.2.1]), (17, .box [(aG y.2.2.2.2.1), (aE y.2.2.2.2.2.1), (aD y.2.2.2.2.2.2.1), (aC y.2.2.2.2.2.2.2)])] [] rn | e => Q e σ'))) : Lp F hv Q σ := by
  unfold Lp
  refine ⟨Nat × Int × (List Int) × Int × (List ByteArray) × (List aF) × (List aB) × (List aA), fun x => aJ.l11 x.1 x.2.1 x.2.2.1 x.2.2.2.1 x.2.2.2.2.1 x.2.2.2.2.2.1 x.2.2.2.2.2.2.1 x.2.2.2.2.2.2.2 = some r ∧ x.1 < k + 1, fun x => x.1, [0, 17], fun x => [(12, .int .i64 x.2.1)], fun x => [(0, .box [(bP x.2.2.1), .int .i64 x.2.2.2.1]), (17, .box [(aG x.2.2.2.2.1), (aE x.2.2.2.2.2.1), (aD x.2.2.2.2.2.2.1), (aC x.2.2.2.2.2.2.2)])], fun x => [], ⟨(k, x12_2, x1000000_8, x1000001_8, x1017000_11, x1017001_11, x1017002_11, x1017003_11), rn, ⟨H, Nat.lt_succ_self _⟩, h1⟩, ?_⟩
  rintro ⟨k, x12_2, x1000000_8, x1000001_8, x1017000_11, x1017001_11, x1017002_11, x1017003_11⟩ ⟨H, hk⟩
  exact h2 k x12_2 x1000000_8 x1000001_8 x1017000_11 x1017001_11 x1017002_11 x1017003_11 hk H
theorem aJ.l10_lp {F : (Exit → St → Prop) → St → Prop} {hv : List Tmp} {Q : Exit → St → Prop} {σ : St} {r : (List ByteArray) × (List aF) × (List aB) × (List aA) × (List Int) × Int} {k : Nat} {t8449 : Int × (List Int) × Int} {x11_2 : Int} {x1017000_10 : List ByteArray} {x1017001_10 : List aF} {x1017002_10 : List aB} {x1017003_10 : List aA} (H : aJ.l10 k x11_2 t8449 x1017000_10 x1017001_10 x1017002_10 x1017003_10 = some r) (rn : List (Option Nat)) (h1 : cM σ σ [17] [(11, .int .i64 x11_2)] [(17, .box [(aG x1017000_10), (aE x1017001_10), (aD x1017002_10), (aC x1017003_10)])] [] rn)
    (h2 : ∀ (k0 : Nat) (x11_2 : Int) (x1017000_10 : List ByteArray) (x1017001_10 : List aF) (x1017002_10 : List aB) (x1017003_10 : List aA), k0 < k + 1 → aJ.l10 k0 x11_2 t8449 x1017000_10 x1017001_10 x1017002_10 x1017003_10 = some r → dF σ hv [17] [(11, .int .i64 x11_2)] [(17, .box [(aG x1017000_10), (aE x1017001_10), (aD x1017002_10), (aC x1017003_10)])] [] (F (fun e σ' => match e with | .normal => ∃ (y : Nat × Int × (List ByteArray) × (List aF) × (List aB) × (List aA)) (rn : List (Option Nat)), (aJ.l10 y.1 y.2.1 t8449 y.2.2.1 y.2.2.2.1 y.2.2.2.2.1 y.2.2.2.2.2 = some r ∧ y.1 < k + 1) ∧ y.1 < k0 ∧ cM σ σ' [17] [(11, .int .i64 y.2.1)] [(17, .box [(aG y.2.2.1), (aE y.2.2.2.1), (aD y.2.2.2.2.1), (aC y.2.2.2.2.2)])] [] rn | e => Q e σ'))) : Lp F hv Q σ := by
  unfold Lp
  refine ⟨Nat × Int × (List ByteArray) × (List aF) × (List aB) × (List aA), fun x => aJ.l10 x.1 x.2.1 t8449 x.2.2.1 x.2.2.2.1 x.2.2.2.2.1 x.2.2.2.2.2 = some r ∧ x.1 < k + 1, fun x => x.1, [17], fun x => [(11, .int .i64 x.2.1)], fun x => [(17, .box [(aG x.2.2.1), (aE x.2.2.2.1), (aD x.2.2.2.2.1), (aC x.2.2.2.2.2)])], fun x => [], ⟨(k, x11_2, x1017000_10, x1017001_10, x1017002_10, x1017003_10), rn, ⟨H, Nat.lt_succ_self _⟩, h1⟩, ?_⟩
  rintro ⟨k, x11_2, x1017000_10, x1017001_10, x1017002_10, x1017003_10⟩ ⟨H, hk⟩
  exact h2 k x11_2 x1017000_10 x1017001_10 x1017002_10 x1017003_10 hk H
theorem aJ.l13_lp {F : (Exit → St → Prop) → St → Prop} {hv : List Tmp} {Q : Exit → St → Prop} {σ : St} {r : (List ByteArray) × (List aF) × (List aB) × (List aA) × (List Int) × Int} {k : Nat} {x12_3 : Int} {x1000000_9 : List Int} {x1000001_9 : Int} {x1017000_13 : List ByteArray} {x1017001_13 : List aF} {x1017002_13 : List aB} {x1017003_13 : List aA} (H : aJ.l13 k x12_3 x1000000_9 x1000001_9 x1017000_13 x1017001_13 x1017002_13 x1017003_13 = some r) (rn : List (Option Nat)) (h1 : cM σ σ [0, 17] [(12, .int .i64 x12_3)] [(0, .box [(bP x1000000_9), .int .i64 x1000001_9]), (17, .box [(aG x1017000_13), (aE x1017001_13), (aD x1017002_13), (aC x1017003_13)])] [] rn)
    (h2 : ∀ (k0 : Nat) (x12_3 : Int) (x1000000_9 : List Int) (x1000001_9 : Int) (x1017000_13 : List ByteArray) (x1017001_13 : List aF) (x1017002_13 : List aB) (x1017003_13 : List aA), k0 < k + 1 → aJ.l13 k0 x12_3 x1000000_9 x1000001_9 x1017000_13 x1017001_13 x1017002_13 x1017003_13 = some r → dF σ hv [0, 17] [(12, .int .i64 x12_3)] [(0, .box [(bP x1000000_9), .int .i64 x1000001_9]), (17, .box [(aG x1017000_13), (aE x1017001_13), (aD x1017002_13), (aC x1017003_13)])] [] (F (fun e σ' => match e with | .normal => ∃ (y : Nat × Int × (List Int) × Int × (List ByteArray) × (List aF) × (List aB) × (List aA)) (rn : List (Option Nat)), (aJ.l13 y.1 y.2.1 y.2.2.1 y.2.2.2.1 y.2.2.2.2.1 y.2.2.2.2.2.1 y.2.2.2.2.2.2.1 y.2.2.2.2.2.2.2 = some r ∧ y.1 < k + 1) ∧ y.1 < k0 ∧ cM σ σ' [0, 17] [(12, .int .i64 y.2.1)] [(0, .box [(bP y.2.2.1), .int .i64 y.2.2.2.1]), (17, .box [(aG y.2.2.2.2.1), (aE y.2.2.2.2.2.1), (aD y.2.2.2.2.2.2.1), (aC y.2.2.2.2.2.2.2)])] [] rn | e => Q e σ'))) : Lp F hv Q σ := by
  unfold Lp
  refine ⟨Nat × Int × (List Int) × Int × (List ByteArray) × (List aF) × (List aB) × (List aA), fun x => aJ.l13 x.1 x.2.1 x.2.2.1 x.2.2.2.1 x.2.2.2.2.1 x.2.2.2.2.2.1 x.2.2.2.2.2.2.1 x.2.2.2.2.2.2.2 = some r ∧ x.1 < k + 1, fun x => x.1, [0, 17], fun x => [(12, .int .i64 x.2.1)], fun x => [(0, .box [(bP x.2.2.1), .int .i64 x.2.2.2.1]), (17, .box [(aG x.2.2.2.2.1), (aE x.2.2.2.2.2.1), (aD x.2.2.2.2.2.2.1), (aC x.2.2.2.2.2.2.2)])], fun x => [], ⟨(k, x12_3, x1000000_9, x1000001_9, x1017000_13, x1017001_13, x1017002_13, x1017003_13), rn, ⟨H, Nat.lt_succ_self _⟩, h1⟩, ?_⟩
  rintro ⟨k, x12_3, x1000000_9, x1000001_9, x1017000_13, x1017001_13, x1017002_13, x1017003_13⟩ ⟨H, hk⟩
  exact h2 k x12_3 x1000000_9 x1000001_9 x1017000_13 x1017001_13 x1017002_13 x1017003_13 hk H
theorem aJ.l12_lp {F : (Exit → St → Prop) → St → Prop} {hv : List Tmp} {Q : Exit → St → Prop} {σ : St} {r : (List ByteArray) × (List aF) × (List aB) × (List aA) × (List Int) × Int} {k : Nat} {t8468 : Int × (List Int) × Int} {x11_3 : Int} {x1017000_12 : List ByteArray} {x1017001_12 : List aF} {x1017002_12 : List aB} {x1017003_12 : List aA} (H : aJ.l12 k x11_3 t8468 x1017000_12 x1017001_12 x1017002_12 x1017003_12 = some r) (rn : List (Option Nat)) (h1 : cM σ σ [17] [(11, .int .i64 x11_3)] [(17, .box [(aG x1017000_12), (aE x1017001_12), (aD x1017002_12), (aC x1017003_12)])] [] rn)
    (h2 : ∀ (k0 : Nat) (x11_3 : Int) (x1017000_12 : List ByteArray) (x1017001_12 : List aF) (x1017002_12 : List aB) (x1017003_12 : List aA), k0 < k + 1 → aJ.l12 k0 x11_3 t8468 x1017000_12 x1017001_12 x1017002_12 x1017003_12 = some r → dF σ hv [17] [(11, .int .i64 x11_3)] [(17, .box [(aG x1017000_12), (aE x1017001_12), (aD x1017002_12), (aC x1017003_12)])] [] (F (fun e σ' => match e with | .normal => ∃ (y : Nat × Int × (List ByteArray) × (List aF) × (List aB) × (List aA)) (rn : List (Option Nat)), (aJ.l12 y.1 y.2.1 t8468 y.2.2.1 y.2.2.2.1 y.2.2.2.2.1 y.2.2.2.2.2 = some r ∧ y.1 < k + 1) ∧ y.1 < k0 ∧ cM σ σ' [17] [(11, .int .i64 y.2.1)] [(17, .box [(aG y.2.2.1), (aE y.2.2.2.1), (aD y.2.2.2.2.1), (aC y.2.2.2.2.2)])] [] rn | e => Q e σ'))) : Lp F hv Q σ := by
  unfold Lp
  refine ⟨Nat × Int × (List ByteArray) × (List aF) × (List aB) × (List aA), fun x => aJ.l12 x.1 x.2.1 t8468 x.2.2.1 x.2.2.2.1 x.2.2.2.2.1 x.2.2.2.2.2 = some r ∧ x.1 < k + 1, fun x => x.1, [17], fun x => [(11, .int .i64 x.2.1)], fun x => [(17, .box [(aG x.2.2.1), (aE x.2.2.2.1), (aD x.2.2.2.2.1), (aC x.2.2.2.2.2)])], fun x => [], ⟨(k, x11_3, x1017000_12, x1017001_12, x1017002_12, x1017003_12), rn, ⟨H, Nat.lt_succ_self _⟩, h1⟩, ?_⟩
  rintro ⟨k, x11_3, x1017000_12, x1017001_12, x1017002_12, x1017003_12⟩ ⟨H, hk⟩
  exact h2 k x11_3 x1017000_12 x1017001_12 x1017002_12 x1017003_12 hk H
theorem aJ.l9_lp {F : (Exit → St → Prop) → St → Prop} {hv : List Tmp} {Q : Exit → St → Prop} {σ : St} {r : (List ByteArray) × (List aF) × (List aB) × (List aA) × (List Int) × Int} {k : Nat} {x10_1 : Int} {x1000000_7 : List Int} {x1000001_7 : Int} {x1017000_9 : List ByteArray} {x1017001_9 : List aF} {x1017002_9 : List aB} {x1017003_9 : List aA} (H : aJ.l9 k x10_1 x1000000_7 x1000001_7 x1017000_9 x1017001_9 x1017002_9 x1017003_9 = some r) (rn : List (Option Nat)) (h1 : cM σ σ [0, 17, 182] [(10, .int .i64 x10_1)] [(0, .box [(bP x1000000_7), .int .i64 x1000001_7]), (17, .box [(aG x1017000_9), (aE x1017001_9), (aD x1017002_9), (aC x1017003_9)])] [] rn)
    (h2 : ∀ (k0 : Nat) (x10_1 : Int) (x1000000_7 : List Int) (x1000001_7 : Int) (x1017000_9 : List ByteArray) (x1017001_9 : List aF) (x1017002_9 : List aB) (x1017003_9 : List aA), k0 < k + 1 → aJ.l9 k0 x10_1 x1000000_7 x1000001_7 x1017000_9 x1017001_9 x1017002_9 x1017003_9 = some r → dF σ hv [0, 17, 182] [(10, .int .i64 x10_1)] [(0, .box [(bP x1000000_7), .int .i64 x1000001_7]), (17, .box [(aG x1017000_9), (aE x1017001_9), (aD x1017002_9), (aC x1017003_9)])] [] (F (fun e σ' => match e with | .normal => ∃ (y : Nat × Int × (List Int) × Int × (List ByteArray) × (List aF) × (List aB) × (List aA)) (rn : List (Option Nat)), (aJ.l9 y.1 y.2.1 y.2.2.1 y.2.2.2.1 y.2.2.2.2.1 y.2.2.2.2.2.1 y.2.2.2.2.2.2.1 y.2.2.2.2.2.2.2 = some r ∧ y.1 < k + 1) ∧ y.1 < k0 ∧ cM σ σ' [0, 17, 182] [(10, .int .i64 y.2.1)] [(0, .box [(bP y.2.2.1), .int .i64 y.2.2.2.1]), (17, .box [(aG y.2.2.2.2.1), (aE y.2.2.2.2.2.1), (aD y.2.2.2.2.2.2.1), (aC y.2.2.2.2.2.2.2)])] [] rn | e => Q e σ'))) : Lp F hv Q σ := by
  unfold Lp
  refine ⟨Nat × Int × (List Int) × Int × (List ByteArray) × (List aF) × (List aB) × (List aA), fun x => aJ.l9 x.1 x.2.1 x.2.2.1 x.2.2.2.1 x.2.2.2.2.1 x.2.2.2.2.2.1 x.2.2.2.2.2.2.1 x.2.2.2.2.2.2.2 = some r ∧ x.1 < k + 1, fun x => x.1, [0, 17, 182], fun x => [(10, .int .i64 x.2.1)], fun x => [(0, .box [(bP x.2.2.1), .int .i64 x.2.2.2.1]), (17, .box [(aG x.2.2.2.2.1), (aE x.2.2.2.2.2.1), (aD x.2.2.2.2.2.2.1), (aC x.2.2.2.2.2.2.2)])], fun x => [], ⟨(k, x10_1, x1000000_7, x1000001_7, x1017000_9, x1017001_9, x1017002_9, x1017003_9), rn, ⟨H, Nat.lt_succ_self _⟩, h1⟩, ?_⟩
  rintro ⟨k, x10_1, x1000000_7, x1000001_7, x1017000_9, x1017001_9, x1017002_9, x1017003_9⟩ ⟨H, hk⟩
  exact h2 k x10_1 x1000000_7 x1000001_7 x1017000_9 x1017001_9 x1017002_9 x1017003_9 hk H
theorem aJ.l8_lp {F : (Exit → St → Prop) → St → Prop} {hv : List Tmp} {Q : Exit → St → Prop} {σ : St} {r : (List ByteArray) × (List aF) × (List aB) × (List aA) × (List Int) × Int} {k : Nat} {x8_1 : Int} {x1000000_6 : List Int} {x1000001_6 : Int} {x1017000_8 : List ByteArray} {x1017001_8 : List aF} {x1017002_8 : List aB} {x1017003_8 : List aA} (H : aJ.l8 k x8_1 x1000000_6 x1000001_6 x1017000_8 x1017001_8 x1017002_8 x1017003_8 = some r) (rn : List (Option Nat)) (h1 : cM σ σ [0, 17] [(8, .int .i64 x8_1)] [(0, .box [(bP x1000000_6), .int .i64 x1000001_6]), (17, .box [(aG x1017000_8), (aE x1017001_8), (aD x1017002_8), (aC x1017003_8)])] [] rn)
    (h2 : ∀ (k0 : Nat) (x8_1 : Int) (x1000000_6 : List Int) (x1000001_6 : Int) (x1017000_8 : List ByteArray) (x1017001_8 : List aF) (x1017002_8 : List aB) (x1017003_8 : List aA), k0 < k + 1 → aJ.l8 k0 x8_1 x1000000_6 x1000001_6 x1017000_8 x1017001_8 x1017002_8 x1017003_8 = some r → dF σ hv [0, 17] [(8, .int .i64 x8_1)] [(0, .box [(bP x1000000_6), .int .i64 x1000001_6]), (17, .box [(aG x1017000_8), (aE x1017001_8), (aD x1017002_8), (aC x1017003_8)])] [] (F (fun e σ' => match e with | .normal => ∃ (y : Nat × Int × (List Int) × Int × (List ByteArray) × (List aF) × (List aB) × (List aA)) (rn : List (Option Nat)), (aJ.l8 y.1 y.2.1 y.2.2.1 y.2.2.2.1 y.2.2.2.2.1 y.2.2.2.2.2.1 y.2.2.2.2.2.2.1 y.2.2.2.2.2.2.2 = some r ∧ y.1 < k + 1) ∧ y.1 < k0 ∧ cM σ σ' [0, 17] [(8, .int .i64 y.2.1)] [(0, .box [(bP y.2.2.1), .int .i64 y.2.2.2.1]), (17, .box [(aG y.2.2.2.2.1), (aE y.2.2.2.2.2.1), (aD y.2.2.2.2.2.2.1), (aC y.2.2.2.2.2.2.2)])] [] rn | e => Q e σ'))) : Lp F hv Q σ := by
  unfold Lp
  refine ⟨Nat × Int × (List Int) × Int × (List ByteArray) × (List aF) × (List aB) × (List aA), fun x => aJ.l8 x.1 x.2.1 x.2.2.1 x.2.2.2.1 x.2.2.2.2.1 x.2.2.2.2.2.1 x.2.2.2.2.2.2.1 x.2.2.2.2.2.2.2 = some r ∧ x.1 < k + 1, fun x => x.1, [0, 17], fun x => [(8, .int .i64 x.2.1)], fun x => [(0, .box [(bP x.2.2.1), .int .i64 x.2.2.2.1]), (17, .box [(aG x.2.2.2.2.1), (aE x.2.2.2.2.2.1), (aD x.2.2.2.2.2.2.1), (aC x.2.2.2.2.2.2.2)])], fun x => [], ⟨(k, x8_1, x1000000_6, x1000001_6, x1017000_8, x1017001_8, x1017002_8, x1017003_8), rn, ⟨H, Nat.lt_succ_self _⟩, h1⟩, ?_⟩
  rintro ⟨k, x8_1, x1000000_6, x1000001_6, x1017000_8, x1017001_8, x1017002_8, x1017003_8⟩ ⟨H, hk⟩
  exact h2 k x8_1 x1000000_6 x1000001_6 x1017000_8 x1017001_8 x1017002_8 x1017003_8 hk H
theorem aJ.l1_lp {F : (Exit → St → Prop) → St → Prop} {hv : List Tmp} {Q : Exit → St → Prop} {σ : St} {r : (List ByteArray) × (List aF) × (List aB) × (List aA) × (List Int) × Int} {k : Nat} {x6 : Int} {x1000000_1 : List Int} {x1000001_1 : Int} {x1017000_1 : List ByteArray} {x1017001_1 : List aF} {x1017002_1 : List aB} {x1017003_1 : List aA} (H : aJ.l1 k x6 x1000000_1 x1000001_1 x1017000_1 x1017001_1 x1017002_1 x1017003_1 = some r) (rn : List (Option Nat)) (h1 : cM σ σ [0, 17] [(6, .int .i64 x6)] [(0, .box [(bP x1000000_1), .int .i64 x1000001_1]), (17, .box [(aG x1017000_1), (aE x1017001_1), (aD x1017002_1), (aC x1017003_1)])] [] rn)
    (h2 : ∀ (k0 : Nat) (x6 : Int) (x1000000_1 : List Int) (x1000001_1 : Int) (x1017000_1 : List ByteArray) (x1017001_1 : List aF) (x1017002_1 : List aB) (x1017003_1 : List aA), k0 < k + 1 → aJ.l1 k0 x6 x1000000_1 x1000001_1 x1017000_1 x1017001_1 x1017002_1 x1017003_1 = some r → dF σ hv [0, 17] [(6, .int .i64 x6)] [(0, .box [(bP x1000000_1), .int .i64 x1000001_1]), (17, .box [(aG x1017000_1), (aE x1017001_1), (aD x1017002_1), (aC x1017003_1)])] [] (F (fun e σ' => match e with | .normal => ∃ (y : Nat × Int × (List Int) × Int × (List ByteArray) × (List aF) × (List aB) × (List aA)) (rn : List (Option Nat)), (aJ.l1 y.1 y.2.1 y.2.2.1 y.2.2.2.1 y.2.2.2.2.1 y.2.2.2.2.2.1 y.2.2.2.2.2.2.1 y.2.2.2.2.2.2.2 = some r ∧ y.1 < k + 1) ∧ y.1 < k0 ∧ cM σ σ' [0, 17] [(6, .int .i64 y.2.1)] [(0, .box [(bP y.2.2.1), .int .i64 y.2.2.2.1]), (17, .box [(aG y.2.2.2.2.1), (aE y.2.2.2.2.2.1), (aD y.2.2.2.2.2.2.1), (aC y.2.2.2.2.2.2.2)])] [] rn | e => Q e σ'))) : Lp F hv Q σ := by
  unfold Lp
  refine ⟨Nat × Int × (List Int) × Int × (List ByteArray) × (List aF) × (List aB) × (List aA), fun x => aJ.l1 x.1 x.2.1 x.2.2.1 x.2.2.2.1 x.2.2.2.2.1 x.2.2.2.2.2.1 x.2.2.2.2.2.2.1 x.2.2.2.2.2.2.2 = some r ∧ x.1 < k + 1, fun x => x.1, [0, 17], fun x => [(6, .int .i64 x.2.1)], fun x => [(0, .box [(bP x.2.2.1), .int .i64 x.2.2.2.1]), (17, .box [(aG x.2.2.2.2.1), (aE x.2.2.2.2.2.1), (aD x.2.2.2.2.2.2.1), (aC x.2.2.2.2.2.2.2)])], fun x => [], ⟨(k, x6, x1000000_1, x1000001_1, x1017000_1, x1017001_1, x1017002_1, x1017003_1), rn, ⟨H, Nat.lt_succ_self _⟩, h1⟩, ?_⟩
  rintro ⟨k, x6, x1000000_1, x1000001_1, x1017000_1, x1017001_1, x1017002_1, x1017003_1⟩ ⟨H, hk⟩
  exact h2 k x6 x1000000_1 x1000001_1 x1017000_1 x1017001_1 x1017002_1 x1017003_1 hk H
theorem aJ.l0_lp {F : (Exit → St → Prop) → St → Prop} {hv : List Tmp} {Q : Exit → St → Prop} {σ : St} {r : (List ByteArray) × (List aF) × (List aB) × (List aA) × (List Int) × Int} {k : Nat} {x4 : List ByteArray} {x5 : Int} {x1000000 : List Int} {x1000001 : Int} {x1017000 : List ByteArray} {x1017001 : List aF} {x1017002 : List aB} {x1017003 : List aA} (H : aJ.l0 k x4 x5 x1000000 x1000001 x1017000 x1017001 x1017002 x1017003 = some r) (rn : List (Option Nat)) (h1 : cM σ σ [0, 17, 33] [(4, .own 0 x4.length), (5, .int .i64 x5)] [(0, .box [(bP x1000000), .int .i64 x1000001]), (17, .box [.own 1 x1017000.length, .own 2 x1017001.length, .own 3 x1017002.length, .own 4 x1017003.length])] [.arr 9 1 (x4.map bB), .arr 9 1 (x1017000.map bB), .arr 66 2 (x1017001.map aV), .arr 68 3 (x1017002.map aS), .arr 53 4 (x1017003.map aR)] rn)
    (h2 : ∀ (k0 : Nat) (x4 : List ByteArray) (x5 : Int) (x1000000 : List Int) (x1000001 : Int) (x1017000 : List ByteArray) (x1017001 : List aF) (x1017002 : List aB) (x1017003 : List aA), k0 < k + 1 → aJ.l0 k0 x4 x5 x1000000 x1000001 x1017000 x1017001 x1017002 x1017003 = some r → dF σ hv [0, 17, 33] [(4, .own 0 x4.length), (5, .int .i64 x5)] [(0, .box [(bP x1000000), .int .i64 x1000001]), (17, .box [.own 1 x1017000.length, .own 2 x1017001.length, .own 3 x1017002.length, .own 4 x1017003.length])] [.arr 9 1 (x4.map bB), .arr 9 1 (x1017000.map bB), .arr 66 2 (x1017001.map aV), .arr 68 3 (x1017002.map aS), .arr 53 4 (x1017003.map aR)] (F (fun e σ' => match e with | .normal => ∃ (y : Nat × (List ByteArray) × Int × (List Int) × Int × (List ByteArray) × (List aF) × (List aB) × (List aA)) (rn : List (Option Nat)), (aJ.l0 y.1 y.2.1 y.2.2.1 y.2.2.2.1 y.2.2.2.2.1 y.2.2.2.2.2.1 y.2.2.2.2.2.2.1 y.2.2.2.2.2.2.2.1 y.2.2.2.2.2.2.2.2 = some r ∧ y.1 < k + 1) ∧ y.1 < k0 ∧ cM σ σ' [0, 17, 33] [(4, .own 0 y.2.1.length), (5, .int .i64 y.2.2.1)] [(0, .box [(bP y.2.2.2.1), .int .i64 y.2.2.2.2.1]), (17, .box [.own 1 y.2.2.2.2.2.1.length, .own 2 y.2.2.2.2.2.2.1.length, .own 3 y.2.2.2.2.2.2.2.1.length, .own 4 y.2.2.2.2.2.2.2.2.length])] [.arr 9 1 (y.2.1.map bB), .arr 9 1 (y.2.2.2.2.2.1.map bB), .arr 66 2 (y.2.2.2.2.2.2.1.map aV), .arr 68 3 (y.2.2.2.2.2.2.2.1.map aS), .arr 53 4 (y.2.2.2.2.2.2.2.2.map aR)] rn | e => Q e σ'))) : Lp F hv Q σ := by
  unfold Lp
  refine ⟨Nat × (List ByteArray) × Int × (List Int) × Int × (List ByteArray) × (List aF) × (List aB) × (List aA), fun x => aJ.l0 x.1 x.2.1 x.2.2.1 x.2.2.2.1 x.2.2.2.2.1 x.2.2.2.2.2.1 x.2.2.2.2.2.2.1 x.2.2.2.2.2.2.2.1 x.2.2.2.2.2.2.2.2 = some r ∧ x.1 < k + 1, fun x => x.1, [0, 17, 33], fun x => [(4, .own 0 x.2.1.length), (5, .int .i64 x.2.2.1)], fun x => [(0, .box [(bP x.2.2.2.1), .int .i64 x.2.2.2.2.1]), (17, .box [.own 1 x.2.2.2.2.2.1.length, .own 2 x.2.2.2.2.2.2.1.length, .own 3 x.2.2.2.2.2.2.2.1.length, .own 4 x.2.2.2.2.2.2.2.2.length])], fun x => [.arr 9 1 (x.2.1.map bB), .arr 9 1 (x.2.2.2.2.2.1.map bB), .arr 66 2 (x.2.2.2.2.2.2.1.map aV), .arr 68 3 (x.2.2.2.2.2.2.2.1.map aS), .arr 53 4 (x.2.2.2.2.2.2.2.2.map aR)], ⟨(k, x4, x5, x1000000, x1000001, x1017000, x1017001, x1017002, x1017003), rn, ⟨H, Nat.lt_succ_self _⟩, h1⟩, ?_⟩
  rintro ⟨k, x4, x5, x1000000, x1000001, x1017000, x1017001, x1017002, x1017003⟩ ⟨H, hk⟩
  exact h2 k x4 x5 x1000000 x1000001 x1017000 x1017001 x1017002 x1017003 hk H
theorem aJ.ac {k : Nat} {a0_0 : List Int} {a0_1 : Int} {r : (List ByteArray) × (List aF) × (List aB) × (List aA) × (List Int) × Int} (H : aJ.f k a0_0 a0_1 = some r) : cK Try.prog G 32 [.box [(bP a0_0), .int .i64 a0_1]] [.bp 0 0] [.box [(bP r.2.2.2.2.1), .int .i64 r.2.2.2.2.2]] (.agg [(aG r.1), (aE r.2.1), (aD r.2.2.1), (aC r.2.2.2.1)]) := by
  refine bN tok hP Try.func32 rfl (by kernel_rfl) [.cell 2 28] rfl (by kernel_rfl) (Nat.le_of_ble_eq_true rfl) (.l .n (.l .n (.l .n (.l (.l .n (.l (.c .n .n) (.c .n .n))) (.l (.f 1 .n (.l .n (.c .n .n))) (.c .n (.l (.l .n (.l .n (.l (.l .n (.c .n (.j .n .n))) .n))) (.l (.l .n (.l (.c .n .n) (.c .n .n))) (.l (.l .n (.l (.l (.l .n (.l .n (.c .n .n))) (.l .n (.l .n (.c .n .n)))) .n)) (.c .n .n)))))))))) rfl ?_
  unfold aJ.f at H
  refine Or.inl (aJ.l0_lp (k := k) H [some 33, none, none, none, none] (bG ⟨eL lm_, ⟨.inl ⟨rfl, rfl⟩, trivial⟩⟩ ⟨fm_, ⟨rfl, ⟨rfl, ⟨rfl, ⟨rfl, trivial⟩⟩⟩⟩⟩ fi_ ⟨⟨_, rfl⟩, ⟨_, rfl, ⟨.inl ⟨rfl, rfl⟩, ⟨.inl ⟨rfl, rfl⟩, trivial⟩⟩⟩, ⟨⟨_, rfl⟩, ⟨_, rfl, ⟨⟨rfl, rfl⟩, ⟨⟨rfl, rfl⟩, ⟨⟨rfl, rfl⟩, ⟨⟨rfl, rfl⟩, trivial⟩⟩⟩⟩⟩, trivial⟩⟩ rfl) ?_)
  intro k x4 x5 x1000000 x1000001 x1017000 x1017001 x1017002 x1017003 hk H; rcases k with _ | k; exact bD H; rw [aJ.l0] at H
  refine cu 94 [(0, .bp 0 0), (2, .bp 1 0), (3, .bp 17 0), (4, .own 57 x4.length), (5, .int .i64 x5), (18, .bool (decide (x5 < (x4.length : Int))))] [(0, .box [(bP x1000000), .int .i64 x1000001]), (1, .box [.nil, .nil, .nil, .nil]), (17, .box [.own 58 x1017000.length, .own 59 x1017001.length, .own 60 x1017002.length, .own 61 x1017003.length]), (57, .arr 9 1 (x4.map bB)), (58, .arr 9 1 (x1017000.map bB)), (59, .arr 66 2 (x1017001.map aV)), (60, .arr 68 3 (x1017002.map aS)), (61, .arr 53 4 (x1017003.map aR))] rfl rfl rfl (bT H (fun c H => ?_) (fun c H => ?_))
  revert H; refine aK (fun t8135 A H => (bQ [0] (aN.ac A) ⟨rfl, trivial⟩ rfl rfl rfl rfl rfl rfl rfl rfl (bT H (fun c H => ?_) (fun c H => ?_))))
  refine nd_ H (fun c H => (Nd.mk nf_ (El.mk (aP _ _ nf_ nf_) (Or.inl (nd_ H (fun c H => (iQ 198 [(0, .bp 0 0), (2, .bp 1 0), (3, .bp 17 0), (4, .own 57 x4.length), (5, .int .i64 x5)] [(0, .box [(bP t8135.2.1), .int .i64 t8135.2.2]), (1, .box [.nil, .nil, .nil, .nil]), (17, .box [.own 174 (x1017000.length + 1), .own 59 x1017001.length, .own 60 x1017002.length, .own 61 x1017003.length]), (57, .arr 9 1 (x4.map bB)), (59, .arr 66 2 (x1017001.map aV)), (60, .arr 68 3 (x1017002.map aS)), (61, .arr 53 4 (x1017003.map aR)), (174, .arr 9 1 ((x1017000 ++ ([bE ByteArray.empty x4 x5] : List ByteArray)).map bB))] rfl ⟨.inl rfl, ⟨.inl rfl, ⟨.inl rfl, ⟨.inl rfl, ⟨.inl rfl, trivial⟩⟩⟩⟩⟩ ⟨rfl, ⟨rfl, ⟨rfl, ⟨rfl, ⟨rfl, ⟨rfl, ⟨rfl, ⟨fm_, trivial⟩⟩⟩⟩⟩⟩⟩⟩ (⟨(k, x4, wrap64 (x5 + 1), t8135.2.1, t8135.2.2, (x1017000 ++ ([bE ByteArray.empty x4 x5] : List ByteArray)), x1017001, x1017002, x1017003), [some 57, some 174, some 59, some 60, some 61], ⟨H, lt_⟩, lt_, (bG ⟨rfl, ⟨.inl ⟨rfl, rfl⟩, trivial⟩⟩ ⟨rfl, ⟨rfl, ⟨rfl, ⟨rfl, ⟨rfl, trivial⟩⟩⟩⟩⟩ fi_ ⟨⟨_, rfl⟩, ⟨_, rfl, ⟨.inl ⟨rfl, rfl⟩, ⟨.inl ⟨rfl, rfl⟩, trivial⟩⟩⟩, ⟨⟨_, rfl⟩, ⟨_, rfl, ⟨eL lm_, ⟨rfl, ⟨rfl, ⟨rfl, trivial⟩⟩⟩⟩⟩, trivial⟩⟩ rfl)⟩))))))))
  refine cu 118 [(0, .bp 0 0), (2, .bp 1 0), (3, .bp 17 0), (4, .own 57 x4.length), (5, .int .i64 x5)] [(0, .box [(bP t8135.2.1), .int .i64 t8135.2.2]), (1, .box [.nil, .nil, .nil, .nil]), (17, .box [.own 58 x1017000.length, .own 59 x1017001.length, .own 60 x1017002.length, .own 61 x1017003.length]), (57, .arr 9 1 (x4.map bB)), (58, .arr 9 1 (x1017000.map bB)), (59, .arr 66 2 (x1017001.map aV)), (60, .arr 68 3 (x1017002.map aS)), (61, .arr 53 4 (x1017003.map aR))] rfl rfl rfl (⟨(k, x4, wrap64 (x5 + 1), t8135.2.1, t8135.2.2, x1017000, x1017001, x1017002, x1017003), [some 57, some 58, some 59, some 60, some 61], ⟨H, lt_⟩, lt_, (bG ⟨rfl, ⟨.inl ⟨rfl, rfl⟩, trivial⟩⟩ ⟨rfl, ⟨rfl, ⟨rfl, ⟨rfl, ⟨rfl, trivial⟩⟩⟩⟩⟩ fi_ ⟨⟨_, rfl⟩, ⟨_, rfl, ⟨.inl ⟨rfl, rfl⟩, ⟨.inl ⟨rfl, rfl⟩, trivial⟩⟩⟩, ⟨⟨_, rfl⟩, ⟨_, rfl, ⟨rfl, ⟨rfl, ⟨rfl, ⟨rfl, trivial⟩⟩⟩⟩⟩, trivial⟩⟩ rfl)⟩)
  revert H; refine aK (fun t8331 A H => (bQ [0] (aN.ac A) ⟨rfl, trivial⟩ rfl rfl rfl rfl rfl rfl rfl rfl (jE 118 [58, 59, 60, 61] [(0, .bp 0 0), (2, .bp 1 0), (3, .bp 17 0), (6, .int .i64 t8331.1)] [(0, .box [(bP t8331.2.1), .int .i64 t8331.2.2]), (1, .box [.nil, .nil, .nil, .nil]), (17, .box [(aG x1017000), (aE x1017001), (aD x1017002), (aC x1017003)])] rfl rfl ⟨.inl (.inl rfl), ⟨.inl (.inl rfl), ⟨.inl (.inl rfl), ⟨.inl (.inl rfl), trivial⟩⟩⟩⟩ ⟨.inl (rfl), ⟨.inl (rfl), ⟨.inr ⟨_, rfl, ⟨oH rfl rfl (.inr lm_) lm_, ⟨oH rfl rfl (.inr lm_) lm_, ⟨oH rfl rfl (.inr lm_) lm_, ⟨oH rfl rfl (.inr lm_) lm_, trivial⟩⟩⟩⟩⟩, trivial⟩⟩⟩ (aJ.l1_lp (k := k) H [] (bG ⟨.inl ⟨rfl, rfl⟩, trivial⟩ trivial fi_ ⟨⟨_, rfl⟩, ⟨_, rfl, ⟨.inl ⟨rfl, rfl⟩, ⟨.inl ⟨rfl, rfl⟩, trivial⟩⟩⟩, ⟨⟨_, rfl⟩, ⟨_, rfl, ⟨.inl ⟨rfl, rfl⟩, ⟨.inl ⟨rfl, rfl⟩, ⟨.inl ⟨rfl, rfl⟩, ⟨.inl ⟨rfl, rfl⟩, trivial⟩⟩⟩⟩⟩, trivial⟩⟩ rfl) ?_))))
  intro k x6 x1000000_1 x1000001_1 x1017000_1 x1017001_1 x1017002_1 x1017003_1 hk H; rcases k with _ | k; exact bD H; rw [aJ.l1] at H
  refine bT H (fun c H => ?_) (fun c H => ?_)
  refine Br.t ft_ (Br.t ft_ (Br.t ft_ (Br.t ft_ (bT H (fun c H => ?_) (fun c H => ?_)))))
  revert H; refine aK (fun t8338 A H => (bQ [0] (bF.ac A) ⟨rfl, trivial⟩ rfl rfl rfl rfl rfl rfl rfl rfl ?_))
  revert H; refine aK (fun t8339 A H => (bQ [0] (bF.ac A) ⟨rfl, trivial⟩ rfl rfl rfl rfl rfl rfl rfl rfl (Or.inr (Or.inl ?_))))
  revert H; refine aK (fun t8340 A H => (fM (dA.ac A) (bW (gC (bR (bS rfl) (bR (bS rfl) (bR (bS rfl) (bR (bS rfl) (gB)))))) (bW (gP lm_ lm_) (fE))) (Or.inl rfl) rfl rfl (Nat.le_of_ble_eq_true rfl) (cu 278 [(0, .bp 0 0), (2, .bp 1 0), (3, .bp 17 0), (6, .int .i64 x6)] [(0, .box [(bP t8339.2.1), .int .i64 t8339.2.2]), (1, .box [.nil, .nil, .nil, .nil]), (17, .box [(aG t8340.1), (aE t8340.2.1), (aD t8340.2.2.1), (aC t8340.2.2.2)])] rfl rfl rfl (⟨(k, wrap64 (x6 - 1), t8339.2.1, t8339.2.2, t8340.1, t8340.2.1, t8340.2.2.1, t8340.2.2.2), [], ⟨H, lt_⟩, lt_, (bG ⟨.inl ⟨rfl, rfl⟩, trivial⟩ trivial fi_ ⟨⟨_, rfl⟩, ⟨_, rfl, ⟨.inl ⟨rfl, rfl⟩, ⟨.inl ⟨rfl, rfl⟩, trivial⟩⟩⟩, ⟨⟨_, rfl⟩, ⟨_, rfl, ⟨.inl ⟨rfl, rfl⟩, ⟨.inl ⟨rfl, rfl⟩, ⟨.inl ⟨rfl, rfl⟩, ⟨.inl ⟨rfl, rfl⟩, trivial⟩⟩⟩⟩⟩, trivial⟩⟩ rfl)⟩))))
  refine Or.inl (iQ 198 [(0, .bp 0 0), (2, .bp 1 0), (3, .bp 17 0), (7, .own 182 9)] [(0, .box [(bP x1000000_1), .int .i64 x1000001_1]), (1, .box [.nil, .nil, .nil, .nil]), (17, .box [(aG x1017000_1), (aE x1017001_1), (aD x1017002_1), (aC x1017003_1)]), (182, .arr 9 1 (([(⟨#[97]⟩ : ByteArray), (⟨#[98]⟩ : ByteArray), (⟨#[106, 49]⟩ : ByteArray), (⟨#[106, 50]⟩ : ByteArray), (⟨#[106, 51]⟩ : ByteArray), (⟨#[107, 45, 107]⟩ : ByteArray), (⟨#[118, 49]⟩ : ByteArray), (⟨#[118, 50]⟩ : ByteArray), (⟨#[122]⟩ : ByteArray)] : List ByteArray).map bB))] rfl ⟨.inl rfl, ⟨.inl rfl, ⟨.inl rfl, ⟨.inl rfl, trivial⟩⟩⟩⟩ ⟨rfl, ⟨rfl, ⟨rfl, ⟨fm_, trivial⟩⟩⟩⟩ (aJ.l2_lp (k := k) H [] (bG ⟨.inl ⟨rfl, rfl⟩, trivial⟩ trivial fi_ ⟨⟨_, rfl⟩, ⟨_, rfl, ⟨.inl ⟨rfl, rfl⟩, ⟨.inl ⟨rfl, rfl⟩, trivial⟩⟩⟩, ⟨⟨_, rfl⟩, ⟨_, rfl, ⟨.inl ⟨rfl, rfl⟩, ⟨.inl ⟨rfl, rfl⟩, ⟨.inl ⟨rfl, rfl⟩, ⟨.inl ⟨rfl, rfl⟩, trivial⟩⟩⟩⟩⟩, trivial⟩⟩ rfl) ?_))
  intro k x8 x1000000_2 x1000001_2 x1017000_2 x1017001_2 x1017002_2 x1017003_2 hk H; rcases k with _ | k; exact bD H; rw [aJ.l2] at H
  refine bT H (fun c H => ?_) (fun c H => ?_)
  revert H; refine aK (fun t8345 A H => (bQ [0] (aN.ac A) ⟨rfl, trivial⟩ rfl rfl rfl rfl rfl rfl rfl rfl (bT H (fun c H => ?_) (fun c H => ?_))))
  exact ⟨(k, wrap64 (x8 + 1), t8345.2.1, t8345.2.2, _, _, _, _), [], ⟨H, lt_⟩, lt_, (bG ⟨.inl ⟨rfl, rfl⟩, trivial⟩ trivial fi_ ⟨⟨_, rfl⟩, ⟨_, rfl, ⟨.inl ⟨rfl, rfl⟩, ⟨.inl ⟨rfl, rfl⟩, trivial⟩⟩⟩, ⟨⟨_, rfl⟩, ⟨_, rfl, ⟨.inl ⟨rfl, rfl⟩, ⟨.inl ⟨rfl, rfl⟩, ⟨.inl ⟨rfl, rfl⟩, ⟨.inl ⟨rfl, rfl⟩, trivial⟩⟩⟩⟩⟩, trivial⟩⟩ rfl)⟩
  refine Or.inr (Or.inl ?_)
  revert H; refine aK (fun t8346 A H => (bQ [0] (bF.ac A) ⟨rfl, trivial⟩ rfl rfl rfl rfl rfl (iX ⟨rfl, ⟨kF rfl lm_ lm_, trivial⟩⟩) rfl rfl (cu 294 [(0, .bp 0 0), (2, .bp 1 0), (3, .bp 17 0), (7, .own 182 9), (8, .int .i64 x8), (9, .str t8346.1)] [(0, .box [(bP t8346.2.1), .int .i64 t8346.2.2]), (1, .box [.nil, .nil, .nil, .nil]), (17, .box [(aG x1017000_2), (aE x1017001_2), (aD x1017002_2), (aC x1017003_2)]), (182, .arr 9 1 (([(⟨#[97]⟩ : ByteArray), (⟨#[98]⟩ : ByteArray), (⟨#[106, 49]⟩ : ByteArray), (⟨#[106, 50]⟩ : ByteArray), (⟨#[106, 51]⟩ : ByteArray), (⟨#[107, 45, 107]⟩ : ByteArray), (⟨#[118, 49]⟩ : ByteArray), (⟨#[118, 50]⟩ : ByteArray), (⟨#[122]⟩ : ByteArray)] : List ByteArray).map bB))] rfl rfl rfl (aJ.j0_sq (x8 := x8) (x1017000_2 := x1017000_2) (x1017001_2 := x1017001_2) (x1017002_2 := x1017002_2) (x1017003_2 := x1017003_2) (t8346 := t8346) (KK := k + 1) (r := r) ?_ ?_))))
  refine bT H (fun c H => ?_) (fun c H => ?_)
  refine Br.t ft_ (Br.t ft_ (⟨(k, decide (x8 < 6)), [], ⟨H, lt_⟩, (fq rfl rfl fi_ rfl)⟩))
  refine Br.f ff_ (Br.f ff_ (⟨(k, false), [], ⟨H, lt_⟩, (fq rfl rfl fi_ rfl)⟩))
  intro k x74 hk H; rcases k with _ | k; exact bD H; rw [aJ.j0] at H
  refine iI H (fun c H => ?_) (fun c H => ?_)
  refine nd_ H (fun c H => (nd_ H (fun c H => (El.mk (aP _ _ nf_ nf_) (Or.inr (Or.inl ?_))))))
  revert H; refine aK (fun t8347 A H => (fM (dA.ac A) (bW (gC (bR (bS rfl) (bR (bS rfl) (bR (bS rfl) (bR (bS rfl) (gB)))))) (bW (gP lm_ lm_) (fE))) (Or.inl rfl) rfl rfl (Nat.le_of_ble_eq_true rfl) (⟨(k, wrap64 (x8 + 1), t8346.2.1, t8346.2.2, t8347.1, t8347.2.1, t8347.2.2.1, t8347.2.2.2), [], ⟨H, lt_⟩, lt_, (bG ⟨.inl ⟨rfl, rfl⟩, trivial⟩ trivial fi_ ⟨⟨_, rfl⟩, ⟨_, rfl, ⟨.inl ⟨rfl, rfl⟩, ⟨.inl ⟨rfl, rfl⟩, trivial⟩⟩⟩, ⟨⟨_, rfl⟩, ⟨_, rfl, ⟨.inl ⟨rfl, rfl⟩, ⟨.inl ⟨rfl, rfl⟩, ⟨.inl ⟨rfl, rfl⟩, ⟨.inl ⟨rfl, rfl⟩, trivial⟩⟩⟩⟩⟩, trivial⟩⟩ rfl)⟩)))
  refine nd_ H (fun c H => (nd_ H (fun c H => (El.mk (aP _ _ nf_ nf_) ?_))))
  revert H; refine aK (fun t8348 A H => (bQ [0] (aN.ac A) ⟨rfl, trivial⟩ rfl rfl rfl rfl rfl rfl rfl rfl ?_))
  revert H; refine aK (fun t8349 A H => (cmk (cQ.ac A) rfl rfl (Or.inr (Or.inl ?_))))
  revert H; refine aK (fun t8350 A H => (fM (dA.ac A) (bW (gC (bR (bS rfl) (bR (bS rfl) (bR (bS rfl) (bR (bS rfl) (gB)))))) (bW (gP lm_ lm_) (fE))) (Or.inl rfl) rfl rfl (Nat.le_of_ble_eq_true rfl) (⟨(k, wrap64 (x8 + 1), t8348.2.1, t8348.2.2, t8350.1, t8350.2.1, t8350.2.2.1, t8350.2.2.2), [], ⟨H, lt_⟩, lt_, (bG ⟨.inl ⟨rfl, rfl⟩, trivial⟩ trivial fi_ ⟨⟨_, rfl⟩, ⟨_, rfl, ⟨.inl ⟨rfl, rfl⟩, ⟨.inl ⟨rfl, rfl⟩, trivial⟩⟩⟩, ⟨⟨_, rfl⟩, ⟨_, rfl, ⟨.inl ⟨rfl, rfl⟩, ⟨.inl ⟨rfl, rfl⟩, ⟨.inl ⟨rfl, rfl⟩, ⟨.inl ⟨rfl, rfl⟩, trivial⟩⟩⟩⟩⟩, trivial⟩⟩ rfl)⟩)))
  revert H; refine aK (fun t8351 A H => (bQ [0] (aN.ac A) ⟨rfl, trivial⟩ rfl rfl rfl rfl rfl rfl rfl rfl (aJ.l3_lp (k := k) H [] (bG ⟨.inl ⟨rfl, rfl⟩, trivial⟩ trivial fi_ ⟨⟨_, rfl⟩, ⟨_, rfl, ⟨.inl ⟨rfl, rfl⟩, ⟨.inl ⟨rfl, rfl⟩, trivial⟩⟩⟩, ⟨⟨_, rfl⟩, ⟨_, rfl, ⟨.inl ⟨rfl, rfl⟩, ⟨.inl ⟨rfl, rfl⟩, ⟨.inl ⟨rfl, rfl⟩, ⟨.inl ⟨rfl, rfl⟩, trivial⟩⟩⟩⟩⟩, trivial⟩⟩ rfl) ?_)))
  intro k x10 x1000000_3 x1000001_3 x1017000_3 x1017001_3 x1017002_3 x1017003_3 hk H; rcases k with _ | k; exact bD H; rw [aJ.l3] at H
  refine bT H (fun c H => ?_) (fun c H => ?_)
  refine Br.t ft_ (Br.t ft_ (Br.t ft_ (Br.t ft_ (cu 326 [(0, .bp 0 0), (2, .bp 1 0), (3, .bp 17 0), (10, .int .i64 x10), (104, .bool (decide ((x1017002_3.length : Int) > 1)))] [(0, .box [(bP x1000000_3), .int .i64 x1000001_3]), (1, .box [.nil, .nil, .nil, .nil]), (17, .box [(aG x1017000_3), (aE x1017001_3), (aD x1017002_3), (aC x1017003_3)])] rfl rfl rfl (bT H (fun c H => ?_) (fun c H => ?_))))))
  revert H; refine aK (fun t8370 A H => (bQ [0] (aN.ac A) ⟨rfl, trivial⟩ rfl rfl rfl rfl rfl rfl rfl rfl ?_))
  revert H; refine aK (fun t8371 A H => (cmk (cQ.ac A) rfl rfl (nd_ H (fun c H => ?_))))
  revert H; refine aK (fun t8372 A H => (bQ [0] (aN.ac A) ⟨rfl, trivial⟩ rfl rfl rfl rfl rfl rfl rfl rfl (nd_ H (fun c H => (nd_ H (fun c H => (El.mk (bL _ _ nf_ nf_) ?_)))))))
  revert H; refine aK (fun t8373 A H => (bQ [0] (aN.ac A) ⟨rfl, trivial⟩ rfl rfl rfl rfl rfl rfl rfl rfl (nd_ H (fun c H => (nd_ H (fun c H => (El.mk (bL _ _ nf_ nf_) (Or.inr (Or.inl ?_)))))))))
  revert H; refine aK (fun t8374 A H => (bQ [0] (bF.ac A) ⟨rfl, trivial⟩ rfl rfl rfl rfl rfl (iX ⟨rfl, ⟨kF rfl lm_ lm_, trivial⟩⟩) rfl rfl (Or.inr (Or.inl ?_))))
  revert H; refine aK (fun t8375 A H => (fM (dA.ac A) (bW (gC (bR (bS rfl) (bR (bS rfl) (bR (bS rfl) (bR (bS rfl) (gB)))))) (bW (gP lm_ lm_) (fE))) (Or.inl rfl) rfl rfl (Nat.le_of_ble_eq_true rfl) (cu 574 [(0, .bp 0 0), (2, .bp 1 0), (3, .bp 17 0), (10, .int .i64 x10)] [(0, .box [(bP t8374.2.1), .int .i64 t8374.2.2]), (1, .box [.nil, .nil, .nil, .nil]), (17, .box [(aG t8375.1), (aE t8375.2.1), (aD t8375.2.2.1), (aC t8375.2.2.2)])] rfl rfl rfl (⟨(k, wrap64 (x10 - 1), t8374.2.1, t8374.2.2, t8375.1, t8375.2.1, t8375.2.2.1, t8375.2.2.2), [], ⟨H, lt_⟩, lt_, (bG ⟨.inl ⟨rfl, rfl⟩, trivial⟩ trivial fi_ ⟨⟨_, rfl⟩, ⟨_, rfl, ⟨.inl ⟨rfl, rfl⟩, ⟨.inl ⟨rfl, rfl⟩, trivial⟩⟩⟩, ⟨⟨_, rfl⟩, ⟨_, rfl, ⟨.inl ⟨rfl, rfl⟩, ⟨.inl ⟨rfl, rfl⟩, ⟨.inl ⟨rfl, rfl⟩, ⟨.inl ⟨rfl, rfl⟩, trivial⟩⟩⟩⟩⟩, trivial⟩⟩ rfl)⟩))))
  revert H; refine aK (fun t8376 A H => (bQ [0] (aN.ac A) ⟨rfl, trivial⟩ rfl rfl rfl rfl rfl rfl rfl rfl (bT H (fun c H => ?_) (fun c H => ?_))))
  refine aJ.l4_lp (t8376 := t8376) (k := k) H [] (bG ⟨.inl ⟨rfl, rfl⟩, trivial⟩ trivial fi_ ⟨⟨_, rfl⟩, ⟨_, rfl, ⟨.inl ⟨rfl, rfl⟩, ⟨.inl ⟨rfl, rfl⟩, ⟨.inl ⟨rfl, rfl⟩, ⟨.inl ⟨rfl, rfl⟩, trivial⟩⟩⟩⟩⟩, trivial⟩ rfl) ?_
  intro k x11 x1017000_4 x1017001_4 x1017002_4 x1017003_4 hk H; rcases k with _ | k; exact bD H; rw [aJ.l4] at H
  refine bT H (fun c H => ?_) (fun c H => ?_)
  revert H; refine aK (fun t8379 A H => (cmk (cQ.ac A) rfl rfl (nd_ H (fun c H => (Or.inr (Or.inl ?_))))))
  revert H; refine aK (fun t8380 A H => (fM (dA.ac A) (bW (gC (bR (bS rfl) (bR (bS rfl) (bR (bS rfl) (bR (bS rfl) (gB)))))) (bW (gP lm_ lm_) (fE))) (Or.inl rfl) rfl rfl (Nat.le_of_ble_eq_true rfl) (cu 430 [(0, .bp 0 0), (2, .bp 1 0), (3, .bp 17 0), (11, .int .i64 x11)] [(0, .box [(bP t8376.2.1), .int .i64 t8376.2.2]), (1, .box [.nil, .nil, .nil, .nil]), (17, .box [(aG t8380.1), (aE t8380.2.1), (aD t8380.2.2.1), (aC t8380.2.2.2)])] rfl rfl rfl (⟨(k, wrap64 (x11 + 1), t8380.1, t8380.2.1, t8380.2.2.1, t8380.2.2.2), [], ⟨H, lt_⟩, lt_, (bG ⟨.inl ⟨rfl, rfl⟩, trivial⟩ trivial fi_ ⟨⟨_, rfl⟩, ⟨_, rfl, ⟨.inl ⟨rfl, rfl⟩, ⟨.inl ⟨rfl, rfl⟩, ⟨.inl ⟨rfl, rfl⟩, ⟨.inl ⟨rfl, rfl⟩, trivial⟩⟩⟩⟩⟩, trivial⟩ rfl)⟩))))
  refine aJ.l5_lp (k := k) H [] (bG ⟨.inl ⟨rfl, rfl⟩, trivial⟩ trivial fi_ ⟨⟨_, rfl⟩, ⟨_, rfl, ⟨.inl ⟨rfl, rfl⟩, ⟨.inl ⟨rfl, rfl⟩, trivial⟩⟩⟩, ⟨⟨_, rfl⟩, ⟨_, rfl, ⟨.inl ⟨rfl, rfl⟩, ⟨.inl ⟨rfl, rfl⟩, ⟨.inl ⟨rfl, rfl⟩, ⟨.inl ⟨rfl, rfl⟩, trivial⟩⟩⟩⟩⟩, trivial⟩⟩ rfl) ?_
  intro k x12 x1000000_4 x1000001_4 x1017000_5 x1017001_5 x1017002_5 x1017003_5 hk H; rcases k with _ | k; exact bD H; rw [aJ.l5] at H
  refine bT H (fun c H => ?_) (fun c H => ?_)
  revert H; refine aK (fun t8389 A H => (cmk (cQ.ac A) rfl rfl (nd_ H (fun c H => (Or.inr (Or.inl ?_))))))
  revert H; refine aK (fun t8390 A H => (bQ [0] (bF.ac A) ⟨rfl, trivial⟩ rfl rfl rfl rfl rfl (iX ⟨rfl, ⟨kF rfl lm_ lm_, trivial⟩⟩) rfl rfl (Or.inr (Or.inl ?_))))
  revert H; refine aK (fun t8391 A H => (bQ [0] (bF.ac A) ⟨rfl, trivial⟩ rfl rfl rfl rfl rfl (iX ⟨rfl, ⟨kF rfl lm_ lm_, trivial⟩⟩) rfl rfl (Or.inr (Or.inl ?_))))
  revert H; refine aK (fun t8392 A H => (fM (dA.ac A) (bW (gC (bR (bS rfl) (bR (bS rfl) (bR (bS rfl) (bR (bS rfl) (gB)))))) (bW (gP lm_ lm_) (fE))) (Or.inl rfl) rfl rfl (Nat.le_of_ble_eq_true rfl) (cu 502 [(0, .bp 0 0), (2, .bp 1 0), (3, .bp 17 0), (12, .int .i64 x12)] [(0, .box [(bP t8391.2.1), .int .i64 t8391.2.2]), (1, .box [.nil, .nil, .nil, .nil]), (17, .box [(aG t8392.1), (aE t8392.2.1), (aD t8392.2.2.1), (aC t8392.2.2.2)])] rfl rfl rfl (⟨(k, wrap64 (x12 + 1), t8391.2.1, t8391.2.2, t8392.1, t8392.2.1, t8392.2.2.1, t8392.2.2.2), [], ⟨H, lt_⟩, lt_, (bG ⟨.inl ⟨rfl, rfl⟩, trivial⟩ trivial fi_ ⟨⟨_, rfl⟩, ⟨_, rfl, ⟨.inl ⟨rfl, rfl⟩, ⟨.inl ⟨rfl, rfl⟩, trivial⟩⟩⟩, ⟨⟨_, rfl⟩, ⟨_, rfl, ⟨.inl ⟨rfl, rfl⟩, ⟨.inl ⟨rfl, rfl⟩, ⟨.inl ⟨rfl, rfl⟩, ⟨.inl ⟨rfl, rfl⟩, trivial⟩⟩⟩⟩⟩, trivial⟩⟩ rfl)⟩))))
  revert H; refine aK (fun t8393 A H => (cmk (dV.ac A) rfl rfl (cu 422 [(2, .bp 1 0)] [(0, .box [(bP x1000000_4), .int .i64 x1000001_4]), (1, .box [(aG t8393.1), (aE t8393.2.1), (aD t8393.2.2.1), (aC t8393.2.2.2)])] rfl rfl rfl ?_)))
  cases H
  exact eT [some 0] [] ((rta rfl)) ⟨rfl, trivial⟩ rfl
  revert H; refine aK (fun t8394 A H => (cmk (dV.ac A) rfl rfl (cu 374 [(2, .bp 1 0)] [(0, .box [(bP t8376.2.1), .int .i64 t8376.2.2]), (1, .box [(aG t8394.1), (aE t8394.2.1), (aD t8394.2.2.1), (aC t8394.2.2.2)])] rfl rfl rfl ?_)))
  cases H
  exact eT [some 0] [] ((rta rfl)) ⟨rfl, trivial⟩ rfl
  refine Br.f ff_ (Br.f ff_ (Br.f ff_ (Br.f ff_ (cu 326 [(0, .bp 0 0), (2, .bp 1 0), (3, .bp 17 0), (10, .int .i64 x10), (104, .bool false)] [(0, .box [(bP x1000000_3), .int .i64 x1000001_3]), (1, .box [.nil, .nil, .nil, .nil]), (17, .box [(aG x1017000_3), (aE x1017001_3), (aD x1017002_3), (aC x1017003_3)])] rfl rfl rfl (Br.f rfl ?_)))))
  revert H; refine aK (fun t8395 A H => (bQ [0] (aN.ac A) ⟨rfl, trivial⟩ rfl rfl rfl rfl rfl rfl rfl rfl (bT H (fun c H => ?_) (fun c H => ?_))))
  refine aJ.l6_lp (t8395 := t8395) (k := k) H [] (bG ⟨.inl ⟨rfl, rfl⟩, trivial⟩ trivial fi_ ⟨⟨_, rfl⟩, ⟨_, rfl, ⟨.inl ⟨rfl, rfl⟩, ⟨.inl ⟨rfl, rfl⟩, ⟨.inl ⟨rfl, rfl⟩, ⟨.inl ⟨rfl, rfl⟩, trivial⟩⟩⟩⟩⟩, trivial⟩ rfl) ?_
  intro k x11_1 x1017000_6 x1017001_6 x1017002_6 x1017003_6 hk H; rcases k with _ | k; exact bD H; rw [aJ.l6] at H
  refine bT H (fun c H => ?_) (fun c H => ?_)
  revert H; refine aK (fun t8398 A H => (cmk (cQ.ac A) rfl rfl (nd_ H (fun c H => (Or.inr (Or.inl ?_))))))
  revert H; refine aK (fun t8399 A H => (fM (dA.ac A) (bW (gC (bR (bS rfl) (bR (bS rfl) (bR (bS rfl) (bR (bS rfl) (gB)))))) (bW (gP lm_ lm_) (fE))) (Or.inl rfl) rfl rfl (Nat.le_of_ble_eq_true rfl) (cu 430 [(0, .bp 0 0), (2, .bp 1 0), (3, .bp 17 0), (11, .int .i64 x11_1)] [(0, .box [(bP t8395.2.1), .int .i64 t8395.2.2]), (1, .box [.nil, .nil, .nil, .nil]), (17, .box [(aG t8399.1), (aE t8399.2.1), (aD t8399.2.2.1), (aC t8399.2.2.2)])] rfl rfl rfl (⟨(k, wrap64 (x11_1 + 1), t8399.1, t8399.2.1, t8399.2.2.1, t8399.2.2.2), [], ⟨H, lt_⟩, lt_, (bG ⟨.inl ⟨rfl, rfl⟩, trivial⟩ trivial fi_ ⟨⟨_, rfl⟩, ⟨_, rfl, ⟨.inl ⟨rfl, rfl⟩, ⟨.inl ⟨rfl, rfl⟩, ⟨.inl ⟨rfl, rfl⟩, ⟨.inl ⟨rfl, rfl⟩, trivial⟩⟩⟩⟩⟩, trivial⟩ rfl)⟩))))
  refine aJ.l7_lp (k := k) H [] (bG ⟨.inl ⟨rfl, rfl⟩, trivial⟩ trivial fi_ ⟨⟨_, rfl⟩, ⟨_, rfl, ⟨.inl ⟨rfl, rfl⟩, ⟨.inl ⟨rfl, rfl⟩, trivial⟩⟩⟩, ⟨⟨_, rfl⟩, ⟨_, rfl, ⟨.inl ⟨rfl, rfl⟩, ⟨.inl ⟨rfl, rfl⟩, ⟨.inl ⟨rfl, rfl⟩, ⟨.inl ⟨rfl, rfl⟩, trivial⟩⟩⟩⟩⟩, trivial⟩⟩ rfl) ?_
  intro k x12_1 x1000000_5 x1000001_5 x1017000_7 x1017001_7 x1017002_7 x1017003_7 hk H; rcases k with _ | k; exact bD H; rw [aJ.l7] at H
  refine bT H (fun c H => ?_) (fun c H => ?_)
  revert H; refine aK (fun t8408 A H => (cmk (cQ.ac A) rfl rfl (nd_ H (fun c H => (Or.inr (Or.inl ?_))))))
  revert H; refine aK (fun t8409 A H => (bQ [0] (bF.ac A) ⟨rfl, trivial⟩ rfl rfl rfl rfl rfl (iX ⟨rfl, ⟨kF rfl lm_ lm_, trivial⟩⟩) rfl rfl (Or.inr (Or.inl ?_))))
  revert H; refine aK (fun t8410 A H => (bQ [0] (bF.ac A) ⟨rfl, trivial⟩ rfl rfl rfl rfl rfl (iX ⟨rfl, ⟨kF rfl lm_ lm_, trivial⟩⟩) rfl rfl (Or.inr (Or.inl ?_))))
  revert H; refine aK (fun t8411 A H => (fM (dA.ac A) (bW (gC (bR (bS rfl) (bR (bS rfl) (bR (bS rfl) (bR (bS rfl) (gB)))))) (bW (gP lm_ lm_) (fE))) (Or.inl rfl) rfl rfl (Nat.le_of_ble_eq_true rfl) (cu 502 [(0, .bp 0 0), (2, .bp 1 0), (3, .bp 17 0), (12, .int .i64 x12_1)] [(0, .box [(bP t8410.2.1), .int .i64 t8410.2.2]), (1, .box [.nil, .nil, .nil, .nil]), (17, .box [(aG t8411.1), (aE t8411.2.1), (aD t8411.2.2.1), (aC t8411.2.2.2)])] rfl rfl rfl (⟨(k, wrap64 (x12_1 + 1), t8410.2.1, t8410.2.2, t8411.1, t8411.2.1, t8411.2.2.1, t8411.2.2.2), [], ⟨H, lt_⟩, lt_, (bG ⟨.inl ⟨rfl, rfl⟩, trivial⟩ trivial fi_ ⟨⟨_, rfl⟩, ⟨_, rfl, ⟨.inl ⟨rfl, rfl⟩, ⟨.inl ⟨rfl, rfl⟩, trivial⟩⟩⟩, ⟨⟨_, rfl⟩, ⟨_, rfl, ⟨.inl ⟨rfl, rfl⟩, ⟨.inl ⟨rfl, rfl⟩, ⟨.inl ⟨rfl, rfl⟩, ⟨.inl ⟨rfl, rfl⟩, trivial⟩⟩⟩⟩⟩, trivial⟩⟩ rfl)⟩))))
  revert H; refine aK (fun t8412 A H => (cmk (dV.ac A) rfl rfl (cu 422 [(2, .bp 1 0)] [(0, .box [(bP x1000000_5), .int .i64 x1000001_5]), (1, .box [(aG t8412.1), (aE t8412.2.1), (aD t8412.2.2.1), (aC t8412.2.2.2)])] rfl rfl rfl ?_)))
  cases H
  exact eT [some 0] [] ((rta rfl)) ⟨rfl, trivial⟩ rfl
  revert H; refine aK (fun t8413 A H => (cmk (dV.ac A) rfl rfl (cu 374 [(2, .bp 1 0)] [(0, .box [(bP t8395.2.1), .int .i64 t8395.2.2]), (1, .box [(aG t8413.1), (aE t8413.2.1), (aD t8413.2.2.1), (aC t8413.2.2.2)])] rfl rfl rfl ?_)))
  cases H
  exact eT [some 0] [] ((rta rfl)) ⟨rfl, trivial⟩ rfl
  refine Br.f ff_ (Br.f ff_ (Br.f ff_ (Br.f ff_ (Br.f rfl (Or.inl (iQ 198 [(0, .bp 0 0), (2, .bp 1 0), (3, .bp 17 0), (7, .own 182 9)] [(0, .box [(bP x1000000_1), .int .i64 x1000001_1]), (1, .box [.nil, .nil, .nil, .nil]), (17, .box [(aG x1017000_1), (aE x1017001_1), (aD x1017002_1), (aC x1017003_1)]), (182, .arr 9 1 (([(⟨#[97]⟩ : ByteArray), (⟨#[98]⟩ : ByteArray), (⟨#[106, 49]⟩ : ByteArray), (⟨#[106, 50]⟩ : ByteArray), (⟨#[106, 51]⟩ : ByteArray), (⟨#[107, 45, 107]⟩ : ByteArray), (⟨#[118, 49]⟩ : ByteArray), (⟨#[118, 50]⟩ : ByteArray), (⟨#[122]⟩ : ByteArray)] : List ByteArray).map bB))] rfl ⟨.inl rfl, ⟨.inl rfl, ⟨.inl rfl, ⟨.inl rfl, trivial⟩⟩⟩⟩ ⟨rfl, ⟨rfl, ⟨rfl, ⟨fm_, trivial⟩⟩⟩⟩ (aJ.l8_lp (k := k) H [] (bG ⟨.inl ⟨rfl, rfl⟩, trivial⟩ trivial fi_ ⟨⟨_, rfl⟩, ⟨_, rfl, ⟨.inl ⟨rfl, rfl⟩, ⟨.inl ⟨rfl, rfl⟩, trivial⟩⟩⟩, ⟨⟨_, rfl⟩, ⟨_, rfl, ⟨.inl ⟨rfl, rfl⟩, ⟨.inl ⟨rfl, rfl⟩, ⟨.inl ⟨rfl, rfl⟩, ⟨.inl ⟨rfl, rfl⟩, trivial⟩⟩⟩⟩⟩, trivial⟩⟩ rfl) ?_)))))))
  intro k x8_1 x1000000_6 x1000001_6 x1017000_8 x1017001_8 x1017002_8 x1017003_8 hk H; rcases k with _ | k; exact bD H; rw [aJ.l8] at H
  refine bT H (fun c H => ?_) (fun c H => ?_)
  revert H; refine aK (fun t8418 A H => (bQ [0] (aN.ac A) ⟨rfl, trivial⟩ rfl rfl rfl rfl rfl rfl rfl rfl (bT H (fun c H => ?_) (fun c H => ?_))))
  exact ⟨(k, wrap64 (x8_1 + 1), t8418.2.1, t8418.2.2, _, _, _, _), [], ⟨H, lt_⟩, lt_, (bG ⟨.inl ⟨rfl, rfl⟩, trivial⟩ trivial fi_ ⟨⟨_, rfl⟩, ⟨_, rfl, ⟨.inl ⟨rfl, rfl⟩, ⟨.inl ⟨rfl, rfl⟩, trivial⟩⟩⟩, ⟨⟨_, rfl⟩, ⟨_, rfl, ⟨.inl ⟨rfl, rfl⟩, ⟨.inl ⟨rfl, rfl⟩, ⟨.inl ⟨rfl, rfl⟩, ⟨.inl ⟨rfl, rfl⟩, trivial⟩⟩⟩⟩⟩, trivial⟩⟩ rfl)⟩
  refine Or.inr (Or.inl ?_)
  revert H; refine aK (fun t8419 A H => (bQ [0] (bF.ac A) ⟨rfl, trivial⟩ rfl rfl rfl rfl rfl (iX ⟨rfl, ⟨kF rfl lm_ lm_, trivial⟩⟩) rfl rfl (cu 294 [(0, .bp 0 0), (2, .bp 1 0), (3, .bp 17 0), (7, .own 182 9), (8, .int .i64 x8_1), (9, .str t8419.1)] [(0, .box [(bP t8419.2.1), .int .i64 t8419.2.2]), (1, .box [.nil, .nil, .nil, .nil]), (17, .box [(aG x1017000_8), (aE x1017001_8), (aD x1017002_8), (aC x1017003_8)]), (182, .arr 9 1 (([(⟨#[97]⟩ : ByteArray), (⟨#[98]⟩ : ByteArray), (⟨#[106, 49]⟩ : ByteArray), (⟨#[106, 50]⟩ : ByteArray), (⟨#[106, 51]⟩ : ByteArray), (⟨#[107, 45, 107]⟩ : ByteArray), (⟨#[118, 49]⟩ : ByteArray), (⟨#[118, 50]⟩ : ByteArray), (⟨#[122]⟩ : ByteArray)] : List ByteArray).map bB))] rfl rfl rfl (aJ.j1_sq (x8_1 := x8_1) (x1017000_8 := x1017000_8) (x1017001_8 := x1017001_8) (x1017002_8 := x1017002_8) (x1017003_8 := x1017003_8) (t8419 := t8419) (KK := k + 1) (r := r) ?_ ?_))))
  refine bT H (fun c H => ?_) (fun c H => ?_)
  refine Br.t ft_ (Br.t ft_ (⟨(k, decide (x8_1 < 6)), [], ⟨H, lt_⟩, (fq rfl rfl fi_ rfl)⟩))
  refine Br.f ff_ (Br.f ff_ (⟨(k, false), [], ⟨H, lt_⟩, (fq rfl rfl fi_ rfl)⟩))
  intro k x74_1 hk H; rcases k with _ | k; exact bD H; rw [aJ.j1] at H
  refine iI H (fun c H => ?_) (fun c H => ?_)
  refine nd_ H (fun c H => (nd_ H (fun c H => (El.mk (aP _ _ nf_ nf_) (Or.inr (Or.inl ?_))))))
  revert H; refine aK (fun t8420 A H => (fM (dA.ac A) (bW (gC (bR (bS rfl) (bR (bS rfl) (bR (bS rfl) (bR (bS rfl) (gB)))))) (bW (gP lm_ lm_) (fE))) (Or.inl rfl) rfl rfl (Nat.le_of_ble_eq_true rfl) (⟨(k, wrap64 (x8_1 + 1), t8419.2.1, t8419.2.2, t8420.1, t8420.2.1, t8420.2.2.1, t8420.2.2.2), [], ⟨H, lt_⟩, lt_, (bG ⟨.inl ⟨rfl, rfl⟩, trivial⟩ trivial fi_ ⟨⟨_, rfl⟩, ⟨_, rfl, ⟨.inl ⟨rfl, rfl⟩, ⟨.inl ⟨rfl, rfl⟩, trivial⟩⟩⟩, ⟨⟨_, rfl⟩, ⟨_, rfl, ⟨.inl ⟨rfl, rfl⟩, ⟨.inl ⟨rfl, rfl⟩, ⟨.inl ⟨rfl, rfl⟩, ⟨.inl ⟨rfl, rfl⟩, trivial⟩⟩⟩⟩⟩, trivial⟩⟩ rfl)⟩)))
  refine nd_ H (fun c H => (nd_ H (fun c H => (El.mk (aP _ _ nf_ nf_) ?_))))
  revert H; refine aK (fun t8421 A H => (bQ [0] (aN.ac A) ⟨rfl, trivial⟩ rfl rfl rfl rfl rfl rfl rfl rfl ?_))
  revert H; refine aK (fun t8422 A H => (cmk (cQ.ac A) rfl rfl (Or.inr (Or.inl ?_))))
  revert H; refine aK (fun t8423 A H => (fM (dA.ac A) (bW (gC (bR (bS rfl) (bR (bS rfl) (bR (bS rfl) (bR (bS rfl) (gB)))))) (bW (gP lm_ lm_) (fE))) (Or.inl rfl) rfl rfl (Nat.le_of_ble_eq_true rfl) (⟨(k, wrap64 (x8_1 + 1), t8421.2.1, t8421.2.2, t8423.1, t8423.2.1, t8423.2.2.1, t8423.2.2.2), [], ⟨H, lt_⟩, lt_, (bG ⟨.inl ⟨rfl, rfl⟩, trivial⟩ trivial fi_ ⟨⟨_, rfl⟩, ⟨_, rfl, ⟨.inl ⟨rfl, rfl⟩, ⟨.inl ⟨rfl, rfl⟩, trivial⟩⟩⟩, ⟨⟨_, rfl⟩, ⟨_, rfl, ⟨.inl ⟨rfl, rfl⟩, ⟨.inl ⟨rfl, rfl⟩, ⟨.inl ⟨rfl, rfl⟩, ⟨.inl ⟨rfl, rfl⟩, trivial⟩⟩⟩⟩⟩, trivial⟩⟩ rfl)⟩)))
  revert H; refine aK (fun t8424 A H => (bQ [0] (aN.ac A) ⟨rfl, trivial⟩ rfl rfl rfl rfl rfl rfl rfl rfl (aJ.l9_lp (k := k) H [] (bG ⟨.inl ⟨rfl, rfl⟩, trivial⟩ trivial fi_ ⟨⟨_, rfl⟩, ⟨_, rfl, ⟨.inl ⟨rfl, rfl⟩, ⟨.inl ⟨rfl, rfl⟩, trivial⟩⟩⟩, ⟨⟨_, rfl⟩, ⟨_, rfl, ⟨.inl ⟨rfl, rfl⟩, ⟨.inl ⟨rfl, rfl⟩, ⟨.inl ⟨rfl, rfl⟩, ⟨.inl ⟨rfl, rfl⟩, trivial⟩⟩⟩⟩⟩, trivial⟩⟩ rfl) ?_)))
  intro k x10_1 x1000000_7 x1000001_7 x1017000_9 x1017001_9 x1017002_9 x1017003_9 hk H; rcases k with _ | k; exact bD H; rw [aJ.l9] at H
  refine bT H (fun c H => ?_) (fun c H => ?_)
  refine Br.t ft_ (Br.t ft_ (Br.t ft_ (Br.t ft_ (cu 326 [(0, .bp 0 0), (2, .bp 1 0), (3, .bp 17 0), (10, .int .i64 x10_1), (104, .bool (decide ((x1017002_9.length : Int) > 1)))] [(0, .box [(bP x1000000_7), .int .i64 x1000001_7]), (1, .box [.nil, .nil, .nil, .nil]), (17, .box [(aG x1017000_9), (aE x1017001_9), (aD x1017002_9), (aC x1017003_9)])] rfl rfl rfl (bT H (fun c H => ?_) (fun c H => ?_))))))
  revert H; refine aK (fun t8443 A H => (bQ [0] (aN.ac A) ⟨rfl, trivial⟩ rfl rfl rfl rfl rfl rfl rfl rfl ?_))
  revert H; refine aK (fun t8444 A H => (cmk (cQ.ac A) rfl rfl (nd_ H (fun c H => ?_))))
  revert H; refine aK (fun t8445 A H => (bQ [0] (aN.ac A) ⟨rfl, trivial⟩ rfl rfl rfl rfl rfl rfl rfl rfl (nd_ H (fun c H => (nd_ H (fun c H => (El.mk (bL _ _ nf_ nf_) ?_)))))))
  revert H; refine aK (fun t8446 A H => (bQ [0] (aN.ac A) ⟨rfl, trivial⟩ rfl rfl rfl rfl rfl rfl rfl rfl (nd_ H (fun c H => (nd_ H (fun c H => (El.mk (bL _ _ nf_ nf_) (Or.inr (Or.inl ?_)))))))))
  revert H; refine aK (fun t8447 A H => (bQ [0] (bF.ac A) ⟨rfl, trivial⟩ rfl rfl rfl rfl rfl (iX ⟨rfl, ⟨kF rfl lm_ lm_, trivial⟩⟩) rfl rfl (Or.inr (Or.inl ?_))))
  revert H; refine aK (fun t8448 A H => (fM (dA.ac A) (bW (gC (bR (bS rfl) (bR (bS rfl) (bR (bS rfl) (bR (bS rfl) (gB)))))) (bW (gP lm_ lm_) (fE))) (Or.inl rfl) rfl rfl (Nat.le_of_ble_eq_true rfl) (cu 574 [(0, .bp 0 0), (2, .bp 1 0), (3, .bp 17 0), (10, .int .i64 x10_1)] [(0, .box [(bP t8447.2.1), .int .i64 t8447.2.2]), (1, .box [.nil, .nil, .nil, .nil]), (17, .box [(aG t8448.1), (aE t8448.2.1), (aD t8448.2.2.1), (aC t8448.2.2.2)])] rfl rfl rfl (⟨(k, wrap64 (x10_1 - 1), t8447.2.1, t8447.2.2, t8448.1, t8448.2.1, t8448.2.2.1, t8448.2.2.2), [], ⟨H, lt_⟩, lt_, (bG ⟨.inl ⟨rfl, rfl⟩, trivial⟩ trivial fi_ ⟨⟨_, rfl⟩, ⟨_, rfl, ⟨.inl ⟨rfl, rfl⟩, ⟨.inl ⟨rfl, rfl⟩, trivial⟩⟩⟩, ⟨⟨_, rfl⟩, ⟨_, rfl, ⟨.inl ⟨rfl, rfl⟩, ⟨.inl ⟨rfl, rfl⟩, ⟨.inl ⟨rfl, rfl⟩, ⟨.inl ⟨rfl, rfl⟩, trivial⟩⟩⟩⟩⟩, trivial⟩⟩ rfl)⟩))))
  revert H; refine aK (fun t8449 A H => (bQ [0] (aN.ac A) ⟨rfl, trivial⟩ rfl rfl rfl rfl rfl rfl rfl rfl (bT H (fun c H => ?_) (fun c H => ?_))))
  refine aJ.l10_lp (t8449 := t8449) (k := k) H [] (bG ⟨.inl ⟨rfl, rfl⟩, trivial⟩ trivial fi_ ⟨⟨_, rfl⟩, ⟨_, rfl, ⟨.inl ⟨rfl, rfl⟩, ⟨.inl ⟨rfl, rfl⟩, ⟨.inl ⟨rfl, rfl⟩, ⟨.inl ⟨rfl, rfl⟩, trivial⟩⟩⟩⟩⟩, trivial⟩ rfl) ?_
  intro k x11_2 x1017000_10 x1017001_10 x1017002_10 x1017003_10 hk H; rcases k with _ | k; exact bD H; rw [aJ.l10] at H
  refine bT H (fun c H => ?_) (fun c H => ?_)
  revert H; refine aK (fun t8452 A H => (cmk (cQ.ac A) rfl rfl (nd_ H (fun c H => (Or.inr (Or.inl ?_))))))
  revert H; refine aK (fun t8453 A H => (fM (dA.ac A) (bW (gC (bR (bS rfl) (bR (bS rfl) (bR (bS rfl) (bR (bS rfl) (gB)))))) (bW (gP lm_ lm_) (fE))) (Or.inl rfl) rfl rfl (Nat.le_of_ble_eq_true rfl) (cu 430 [(0, .bp 0 0), (2, .bp 1 0), (3, .bp 17 0), (11, .int .i64 x11_2)] [(0, .box [(bP t8449.2.1), .int .i64 t8449.2.2]), (1, .box [.nil, .nil, .nil, .nil]), (17, .box [(aG t8453.1), (aE t8453.2.1), (aD t8453.2.2.1), (aC t8453.2.2.2)])] rfl rfl rfl (⟨(k, wrap64 (x11_2 + 1), t8453.1, t8453.2.1, t8453.2.2.1, t8453.2.2.2), [], ⟨H, lt_⟩, lt_, (bG ⟨.inl ⟨rfl, rfl⟩, trivial⟩ trivial fi_ ⟨⟨_, rfl⟩, ⟨_, rfl, ⟨.inl ⟨rfl, rfl⟩, ⟨.inl ⟨rfl, rfl⟩, ⟨.inl ⟨rfl, rfl⟩, ⟨.inl ⟨rfl, rfl⟩, trivial⟩⟩⟩⟩⟩, trivial⟩ rfl)⟩))))
  refine aJ.l11_lp (k := k) H [] (bG ⟨.inl ⟨rfl, rfl⟩, trivial⟩ trivial fi_ ⟨⟨_, rfl⟩, ⟨_, rfl, ⟨.inl ⟨rfl, rfl⟩, ⟨.inl ⟨rfl, rfl⟩, trivial⟩⟩⟩, ⟨⟨_, rfl⟩, ⟨_, rfl, ⟨.inl ⟨rfl, rfl⟩, ⟨.inl ⟨rfl, rfl⟩, ⟨.inl ⟨rfl, rfl⟩, ⟨.inl ⟨rfl, rfl⟩, trivial⟩⟩⟩⟩⟩, trivial⟩⟩ rfl) ?_
  intro k x12_2 x1000000_8 x1000001_8 x1017000_11 x1017001_11 x1017002_11 x1017003_11 hk H; rcases k with _ | k; exact bD H; rw [aJ.l11] at H
  refine bT H (fun c H => ?_) (fun c H => ?_)
  revert H; refine aK (fun t8462 A H => (cmk (cQ.ac A) rfl rfl (nd_ H (fun c H => (Or.inr (Or.inl ?_))))))
  revert H; refine aK (fun t8463 A H => (bQ [0] (bF.ac A) ⟨rfl, trivial⟩ rfl rfl rfl rfl rfl (iX ⟨rfl, ⟨kF rfl lm_ lm_, trivial⟩⟩) rfl rfl (Or.inr (Or.inl ?_))))
  revert H; refine aK (fun t8464 A H => (bQ [0] (bF.ac A) ⟨rfl, trivial⟩ rfl rfl rfl rfl rfl (iX ⟨rfl, ⟨kF rfl lm_ lm_, trivial⟩⟩) rfl rfl (Or.inr (Or.inl ?_))))
  revert H; refine aK (fun t8465 A H => (fM (dA.ac A) (bW (gC (bR (bS rfl) (bR (bS rfl) (bR (bS rfl) (bR (bS rfl) (gB)))))) (bW (gP lm_ lm_) (fE))) (Or.inl rfl) rfl rfl (Nat.le_of_ble_eq_true rfl) (cu 502 [(0, .bp 0 0), (2, .bp 1 0), (3, .bp 17 0), (12, .int .i64 x12_2)] [(0, .box [(bP t8464.2.1), .int .i64 t8464.2.2]), (1, .box [.nil, .nil, .nil, .nil]), (17, .box [(aG t8465.1), (aE t8465.2.1), (aD t8465.2.2.1), (aC t8465.2.2.2)])] rfl rfl rfl (⟨(k, wrap64 (x12_2 + 1), t8464.2.1, t8464.2.2, t8465.1, t8465.2.1, t8465.2.2.1, t8465.2.2.2), [], ⟨H, lt_⟩, lt_, (bG ⟨.inl ⟨rfl, rfl⟩, trivial⟩ trivial fi_ ⟨⟨_, rfl⟩, ⟨_, rfl, ⟨.inl ⟨rfl, rfl⟩, ⟨.inl ⟨rfl, rfl⟩, trivial⟩⟩⟩, ⟨⟨_, rfl⟩, ⟨_, rfl, ⟨.inl ⟨rfl, rfl⟩, ⟨.inl ⟨rfl, rfl⟩, ⟨.inl ⟨rfl, rfl⟩, ⟨.inl ⟨rfl, rfl⟩, trivial⟩⟩⟩⟩⟩, trivial⟩⟩ rfl)⟩))))
  revert H; refine aK (fun t8466 A H => (cmk (dV.ac A) rfl rfl (cu 422 [(2, .bp 1 0)] [(0, .box [(bP x1000000_8), .int .i64 x1000001_8]), (1, .box [(aG t8466.1), (aE t8466.2.1), (aD t8466.2.2.1), (aC t8466.2.2.2)])] rfl rfl rfl ?_)))
  cases H
  exact eT [some 0] [] ((rta rfl)) ⟨rfl, trivial⟩ rfl
  revert H; refine aK (fun t8467 A H => (cmk (dV.ac A) rfl rfl (cu 374 [(2, .bp 1 0)] [(0, .box [(bP t8449.2.1), .int .i64 t8449.2.2]), (1, .box [(aG t8467.1), (aE t8467.2.1), (aD t8467.2.2.1), (aC t8467.2.2.2)])] rfl rfl rfl ?_)))
  cases H
  exact eT [some 0] [] ((rta rfl)) ⟨rfl, trivial⟩ rfl
  refine Br.f ff_ (Br.f ff_ (Br.f ff_ (Br.f ff_ (cu 326 [(0, .bp 0 0), (2, .bp 1 0), (3, .bp 17 0), (10, .int .i64 x10_1), (104, .bool false)] [(0, .box [(bP x1000000_7), .int .i64 x1000001_7]), (1, .box [.nil, .nil, .nil, .nil]), (17, .box [(aG x1017000_9), (aE x1017001_9), (aD x1017002_9), (aC x1017003_9)])] rfl rfl rfl (Br.f rfl ?_)))))
  revert H; refine aK (fun t8468 A H => (bQ [0] (aN.ac A) ⟨rfl, trivial⟩ rfl rfl rfl rfl rfl rfl rfl rfl (bT H (fun c H => ?_) (fun c H => ?_))))
  refine aJ.l12_lp (t8468 := t8468) (k := k) H [] (bG ⟨.inl ⟨rfl, rfl⟩, trivial⟩ trivial fi_ ⟨⟨_, rfl⟩, ⟨_, rfl, ⟨.inl ⟨rfl, rfl⟩, ⟨.inl ⟨rfl, rfl⟩, ⟨.inl ⟨rfl, rfl⟩, ⟨.inl ⟨rfl, rfl⟩, trivial⟩⟩⟩⟩⟩, trivial⟩ rfl) ?_
  intro k x11_3 x1017000_12 x1017001_12 x1017002_12 x1017003_12 hk H; rcases k with _ | k; exact bD H; rw [aJ.l12] at H
  refine bT H (fun c H => ?_) (fun c H => ?_)
  revert H; refine aK (fun t8471 A H => (cmk (cQ.ac A) rfl rfl (nd_ H (fun c H => (Or.inr (Or.inl ?_))))))
  revert H; refine aK (fun t8472 A H => (fM (dA.ac A) (bW (gC (bR (bS rfl) (bR (bS rfl) (bR (bS rfl) (bR (bS rfl) (gB)))))) (bW (gP lm_ lm_) (fE))) (Or.inl rfl) rfl rfl (Nat.le_of_ble_eq_true rfl) (cu 430 [(0, .bp 0 0), (2, .bp 1 0), (3, .bp 17 0), (11, .int .i64 x11_3)] [(0, .box [(bP t8468.2.1), .int .i64 t8468.2.2]), (1, .box [.nil, .nil, .nil, .nil]), (17, .box [(aG t8472.1), (aE t8472.2.1), (aD t8472.2.2.1), (aC t8472.2.2.2)])] rfl rfl rfl (⟨(k, wrap64 (x11_3 + 1), t8472.1, t8472.2.1, t8472.2.2.1, t8472.2.2.2), [], ⟨H, lt_⟩, lt_, (bG ⟨.inl ⟨rfl, rfl⟩, trivial⟩ trivial fi_ ⟨⟨_, rfl⟩, ⟨_, rfl, ⟨.inl ⟨rfl, rfl⟩, ⟨.inl ⟨rfl, rfl⟩, ⟨.inl ⟨rfl, rfl⟩, ⟨.inl ⟨rfl, rfl⟩, trivial⟩⟩⟩⟩⟩, trivial⟩ rfl)⟩))))
  refine aJ.l13_lp (k := k) H [] (bG ⟨.inl ⟨rfl, rfl⟩, trivial⟩ trivial fi_ ⟨⟨_, rfl⟩, ⟨_, rfl, ⟨.inl ⟨rfl, rfl⟩, ⟨.inl ⟨rfl, rfl⟩, trivial⟩⟩⟩, ⟨⟨_, rfl⟩, ⟨_, rfl, ⟨.inl ⟨rfl, rfl⟩, ⟨.inl ⟨rfl, rfl⟩, ⟨.inl ⟨rfl, rfl⟩, ⟨.inl ⟨rfl, rfl⟩, trivial⟩⟩⟩⟩⟩, trivial⟩⟩ rfl) ?_
  intro k x12_3 x1000000_9 x1000001_9 x1017000_13 x1017001_13 x1017002_13 x1017003_13 hk H; rcases k with _ | k; exact bD H; rw [aJ.l13] at H
  refine bT H (fun c H => ?_) (fun c H => ?_)
  revert H; refine aK (fun t8481 A H => (cmk (cQ.ac A) rfl rfl (nd_ H (fun c H => (Or.inr (Or.inl ?_))))))
  revert H; refine aK (fun t8482 A H => (bQ [0] (bF.ac A) ⟨rfl, trivial⟩ rfl rfl rfl rfl rfl (iX ⟨rfl, ⟨kF rfl lm_ lm_, trivial⟩⟩) rfl rfl (Or.inr (Or.inl ?_))))
  revert H; refine aK (fun t8483 A H => (bQ [0] (bF.ac A) ⟨rfl, trivial⟩ rfl rfl rfl rfl rfl (iX ⟨rfl, ⟨kF rfl lm_ lm_, trivial⟩⟩) rfl rfl (Or.inr (Or.inl ?_))))
  revert H; refine aK (fun t8484 A H => (fM (dA.ac A) (bW (gC (bR (bS rfl) (bR (bS rfl) (bR (bS rfl) (bR (bS rfl) (gB)))))) (bW (gP lm_ lm_) (fE))) (Or.inl rfl) rfl rfl (Nat.le_of_ble_eq_true rfl) (cu 502 [(0, .bp 0 0), (2, .bp 1 0), (3, .bp 17 0), (12, .int .i64 x12_3)] [(0, .box [(bP t8483.2.1), .int .i64 t8483.2.2]), (1, .box [.nil, .nil, .nil, .nil]), (17, .box [(aG t8484.1), (aE t8484.2.1), (aD t8484.2.2.1), (aC t8484.2.2.2)])] rfl rfl rfl (⟨(k, wrap64 (x12_3 + 1), t8483.2.1, t8483.2.2, t8484.1, t8484.2.1, t8484.2.2.1, t8484.2.2.2), [], ⟨H, lt_⟩, lt_, (bG ⟨.inl ⟨rfl, rfl⟩, trivial⟩ trivial fi_ ⟨⟨_, rfl⟩, ⟨_, rfl, ⟨.inl ⟨rfl, rfl⟩, ⟨.inl ⟨rfl, rfl⟩, trivial⟩⟩⟩, ⟨⟨_, rfl⟩, ⟨_, rfl, ⟨.inl ⟨rfl, rfl⟩, ⟨.inl ⟨rfl, rfl⟩, ⟨.inl ⟨rfl, rfl⟩, ⟨.inl ⟨rfl, rfl⟩, trivial⟩⟩⟩⟩⟩, trivial⟩⟩ rfl)⟩))))
  revert H; refine aK (fun t8485 A H => (cmk (dV.ac A) rfl rfl (cu 422 [(2, .bp 1 0)] [(0, .box [(bP x1000000_9), .int .i64 x1000001_9]), (1, .box [(aG t8485.1), (aE t8485.2.1), (aD t8485.2.2.1), (aC t8485.2.2.2)])] rfl rfl rfl ?_)))
  cases H
  exact eT [some 0] [] ((rta rfl)) ⟨rfl, trivial⟩ rfl
  revert H; refine aK (fun t8486 A H => (cmk (dV.ac A) rfl rfl (cu 374 [(2, .bp 1 0)] [(0, .box [(bP t8468.2.1), .int .i64 t8468.2.2]), (1, .box [(aG t8486.1), (aE t8486.2.1), (aD t8486.2.2.1), (aC t8486.2.2.2)])] rfl rfl rfl ?_)))
  cases H
  exact eT [some 0] [] ((rta rfl)) ⟨rfl, trivial⟩ rfl
theorem aT.j0_sq {F : (Exit → St → Prop) → St → Prop} {hv : List Tmp} {K : St → Prop} {Q : Exit → St → Prop} {σ : St} {r : (List ByteArray) × (List aF) × (List aB) × (List aA) × (List Int) × Int} {KK : Nat}
    (h1 : F (fun e σ' => match e with | .normal => ∃ (y : Nat × (List ByteArray) × (List aF) × (List aB) × (List aA) × (List Int) × Int) (rn : List (Option Nat)), (aT.j0 y.1 y.2.2.2.2.2.1 y.2.2.2.2.2.2 y.2.1 y.2.2.1 y.2.2.2.1 y.2.2.2.2.1 = some r ∧ y.1 < KK) ∧ cM σ σ' [33, 25, 26, 27, 28, 1, 0] [] [(33, .box [.own 0 y.2.1.length, .own 1 y.2.2.1.length, .own 2 y.2.2.2.1.length, .own 3 y.2.2.2.2.1.length]), (0, .box [(bP y.2.2.2.2.2.1), .int .i64 y.2.2.2.2.2.2])] [.arr 9 1 (y.2.1.map bB), .arr 66 2 (y.2.2.1.map aV), .arr 68 3 (y.2.2.2.1.map aS), .arr 53 4 (y.2.2.2.2.1.map aR)] rn | e => Q e σ') σ)
    (h2 : ∀ (k : Nat) (x1033000 : List ByteArray) (x1033001 : List aF) (x1033002 : List aB) (x1033003 : List aA) (x1000000 : List Int) (x1000001 : Int), k < KK → aT.j0 k x1000000 x1000001 x1033000 x1033001 x1033002 x1033003 = some r → dF σ hv [33, 25, 26, 27, 28, 1, 0] [] [(33, .box [.own 0 x1033000.length, .own 1 x1033001.length, .own 2 x1033002.length, .own 3 x1033003.length]), (0, .box [(bP x1000000), .int .i64 x1000001])] [.arr 9 1 (x1033000.map bB), .arr 66 2 (x1033001.map aV), .arr 68 3 (x1033002.map aS), .arr 53 4 (x1033003.map aR)] K) : Sq F hv K Q σ := by
  unfold Sq
  refine ⟨Nat × (List ByteArray) × (List aF) × (List aB) × (List aA) × (List Int) × Int, fun x => aT.j0 x.1 x.2.2.2.2.2.1 x.2.2.2.2.2.2 x.2.1 x.2.2.1 x.2.2.2.1 x.2.2.2.2.1 = some r ∧ x.1 < KK, [33, 25, 26, 27, 28, 1, 0], fun x => [], fun x => [(33, .box [.own 0 x.2.1.length, .own 1 x.2.2.1.length, .own 2 x.2.2.2.1.length, .own 3 x.2.2.2.2.1.length]), (0, .box [(bP x.2.2.2.2.2.1), .int .i64 x.2.2.2.2.2.2])], fun x => [.arr 9 1 (x.2.1.map bB), .arr 66 2 (x.2.2.1.map aV), .arr 68 3 (x.2.2.2.1.map aS), .arr 53 4 (x.2.2.2.2.1.map aR)], h1, ?_⟩
  rintro ⟨k, x1033000, x1033001, x1033002, x1033003, x1000000, x1000001⟩ ⟨H, hk⟩
  exact h2 k x1033000 x1033001 x1033002 x1033003 x1000000 x1000001 hk H
theorem aT.l0_lp {F : (Exit → St → Prop) → St → Prop} {hv : List Tmp} {Q : Exit → St → Prop} {σ : St} {r : (List ByteArray) × (List aF) × (List aB) × (List aA) × (List Int) × Int} {k : Nat} {t8666 : Int × (List Int) × Int} {x10 : Int} {x1033000_1 : List ByteArray} {x1033001_1 : List aF} {x1033002_1 : List aB} {x1033003_1 : List aA} (H : aT.l0 k x10 t8666 x1033000_1 x1033001_1 x1033002_1 x1033003_1 = some r) (rn : List (Option Nat)) (h1 : cM σ σ [25, 26, 27, 28, 33] [(10, .int .i64 x10)] [(33, .box [.own 0 x1033000_1.length, .own 1 x1033001_1.length, .own 2 x1033002_1.length, .own 3 x1033003_1.length])] [.arr 9 1 (x1033000_1.map bB), .arr 66 2 (x1033001_1.map aV), .arr 68 3 (x1033002_1.map aS), .arr 53 4 (x1033003_1.map aR)] rn)
    (h2 : ∀ (k0 : Nat) (x10 : Int) (x1033000_1 : List ByteArray) (x1033001_1 : List aF) (x1033002_1 : List aB) (x1033003_1 : List aA), k0 < k + 1 → aT.l0 k0 x10 t8666 x1033000_1 x1033001_1 x1033002_1 x1033003_1 = some r → dF σ hv [25, 26, 27, 28, 33] [(10, .int .i64 x10)] [(33, .box [.own 0 x1033000_1.length, .own 1 x1033001_1.length, .own 2 x1033002_1.length, .own 3 x1033003_1.length])] [.arr 9 1 (x1033000_1.map bB), .arr 66 2 (x1033001_1.map aV), .arr 68 3 (x1033002_1.map aS), .arr 53 4 (x1033003_1.map aR)] (F (fun e σ' => match e with | .normal => ∃ (y : Nat × Int × (List ByteArray) × (List aF) × (List aB) × (List aA)) (rn : List (Option Nat)), (aT.l0 y.1 y.2.1 t8666 y.2.2.1 y.2.2.2.1 y.2.2.2.2.1 y.2.2.2.2.2 = some r ∧ y.1 < k + 1) ∧ y.1 < k0 ∧ cM σ σ' [25, 26, 27, 28, 33] [(10, .int .i64 y.2.1)] [(33, .box [.own 0 y.2.2.1.length, .own 1 y.2.2.2.1.length, .own 2 y.2.2.2.2.1.length, .own 3 y.2.2.2.2.2.length])] [.arr 9 1 (y.2.2.1.map bB), .arr 66 2 (y.2.2.2.1.map aV), .arr 68 3 (y.2.2.2.2.1.map aS), .arr 53 4 (y.2.2.2.2.2.map aR)] rn | e => Q e σ'))) : Lp F hv Q σ := by
  unfold Lp
  refine ⟨Nat × Int × (List ByteArray) × (List aF) × (List aB) × (List aA), fun x => aT.l0 x.1 x.2.1 t8666 x.2.2.1 x.2.2.2.1 x.2.2.2.2.1 x.2.2.2.2.2 = some r ∧ x.1 < k + 1, fun x => x.1, [25, 26, 27, 28, 33], fun x => [(10, .int .i64 x.2.1)], fun x => [(33, .box [.own 0 x.2.2.1.length, .own 1 x.2.2.2.1.length, .own 2 x.2.2.2.2.1.length, .own 3 x.2.2.2.2.2.length])], fun x => [.arr 9 1 (x.2.2.1.map bB), .arr 66 2 (x.2.2.2.1.map aV), .arr 68 3 (x.2.2.2.2.1.map aS), .arr 53 4 (x.2.2.2.2.2.map aR)], ⟨(k, x10, x1033000_1, x1033001_1, x1033002_1, x1033003_1), rn, ⟨H, Nat.lt_succ_self _⟩, h1⟩, ?_⟩
  rintro ⟨k, x10, x1033000_1, x1033001_1, x1033002_1, x1033003_1⟩ ⟨H, hk⟩
  exact h2 k x10 x1033000_1 x1033001_1 x1033002_1 x1033003_1 hk H
theorem aT.l1_lp {F : (Exit → St → Prop) → St → Prop} {hv : List Tmp} {Q : Exit → St → Prop} {σ : St} {r : (List ByteArray) × (List aF) × (List aB) × (List aA) × (List Int) × Int} {k : Nat} {t8669 : Int × (List Int) × Int} {x12 : Int} {x1033000_2 : List ByteArray} {x1033001_2 : List aF} {x1033002_2 : List aB} {x1033003_2 : List aA} (H : aT.l1 k x12 t8669 x1033000_2 x1033001_2 x1033002_2 x1033003_2 = some r) (rn : List (Option Nat)) (h1 : cM σ σ [25, 26, 27, 28, 33] [(12, .int .i64 x12)] [(33, .box [.own 0 x1033000_2.length, .own 1 x1033001_2.length, .own 2 x1033002_2.length, .own 3 x1033003_2.length])] [.arr 9 1 (x1033000_2.map bB), .arr 66 2 (x1033001_2.map aV), .arr 68 3 (x1033002_2.map aS), .arr 53 4 (x1033003_2.map aR)] rn)
    (h2 : ∀ (k0 : Nat) (x12 : Int) (x1033000_2 : List ByteArray) (x1033001_2 : List aF) (x1033002_2 : List aB) (x1033003_2 : List aA), k0 < k + 1 → aT.l1 k0 x12 t8669 x1033000_2 x1033001_2 x1033002_2 x1033003_2 = some r → dF σ hv [25, 26, 27, 28, 33] [(12, .int .i64 x12)] [(33, .box [.own 0 x1033000_2.length, .own 1 x1033001_2.length, .own 2 x1033002_2.length, .own 3 x1033003_2.length])] [.arr 9 1 (x1033000_2.map bB), .arr 66 2 (x1033001_2.map aV), .arr 68 3 (x1033002_2.map aS), .arr 53 4 (x1033003_2.map aR)] (F (fun e σ' => match e with | .normal => ∃ (y : Nat × Int × (List ByteArray) × (List aF) × (List aB) × (List aA)) (rn : List (Option Nat)), (aT.l1 y.1 y.2.1 t8669 y.2.2.1 y.2.2.2.1 y.2.2.2.2.1 y.2.2.2.2.2 = some r ∧ y.1 < k + 1) ∧ y.1 < k0 ∧ cM σ σ' [25, 26, 27, 28, 33] [(12, .int .i64 y.2.1)] [(33, .box [.own 0 y.2.2.1.length, .own 1 y.2.2.2.1.length, .own 2 y.2.2.2.2.1.length, .own 3 y.2.2.2.2.2.length])] [.arr 9 1 (y.2.2.1.map bB), .arr 66 2 (y.2.2.2.1.map aV), .arr 68 3 (y.2.2.2.2.1.map aS), .arr 53 4 (y.2.2.2.2.2.map aR)] rn | e => Q e σ'))) : Lp F hv Q σ := by
  unfold Lp
  refine ⟨Nat × Int × (List ByteArray) × (List aF) × (List aB) × (List aA), fun x => aT.l1 x.1 x.2.1 t8669 x.2.2.1 x.2.2.2.1 x.2.2.2.2.1 x.2.2.2.2.2 = some r ∧ x.1 < k + 1, fun x => x.1, [25, 26, 27, 28, 33], fun x => [(12, .int .i64 x.2.1)], fun x => [(33, .box [.own 0 x.2.2.1.length, .own 1 x.2.2.2.1.length, .own 2 x.2.2.2.2.1.length, .own 3 x.2.2.2.2.2.length])], fun x => [.arr 9 1 (x.2.2.1.map bB), .arr 66 2 (x.2.2.2.1.map aV), .arr 68 3 (x.2.2.2.2.1.map aS), .arr 53 4 (x.2.2.2.2.2.map aR)], ⟨(k, x12, x1033000_2, x1033001_2, x1033002_2, x1033003_2), rn, ⟨H, Nat.lt_succ_self _⟩, h1⟩, ?_⟩
  rintro ⟨k, x12, x1033000_2, x1033001_2, x1033002_2, x1033003_2⟩ ⟨H, hk⟩
  exact h2 k x12 x1033000_2 x1033001_2 x1033002_2 x1033003_2 hk H
theorem aT.l2_lp {F : (Exit → St → Prop) → St → Prop} {hv : List Tmp} {Q : Exit → St → Prop} {σ : St} {r : (List ByteArray) × (List aF) × (List aB) × (List aA) × (List Int) × Int} {k : Nat} {t8672 : Int × (List Int) × Int} {x14 : Int} {x1033000_3 : List ByteArray} {x1033001_3 : List aF} {x1033002_3 : List aB} {x1033003_3 : List aA} (H : aT.l2 k x14 t8672 x1033000_3 x1033001_3 x1033002_3 x1033003_3 = some r) (rn : List (Option Nat)) (h1 : cM σ σ [25, 26, 27, 28, 33] [(14, .int .i64 x14)] [(33, .box [.own 0 x1033000_3.length, .own 1 x1033001_3.length, .own 2 x1033002_3.length, .own 3 x1033003_3.length])] [.arr 9 1 (x1033000_3.map bB), .arr 66 2 (x1033001_3.map aV), .arr 68 3 (x1033002_3.map aS), .arr 53 4 (x1033003_3.map aR)] rn)
    (h2 : ∀ (k0 : Nat) (x14 : Int) (x1033000_3 : List ByteArray) (x1033001_3 : List aF) (x1033002_3 : List aB) (x1033003_3 : List aA), k0 < k + 1 → aT.l2 k0 x14 t8672 x1033000_3 x1033001_3 x1033002_3 x1033003_3 = some r → dF σ hv [25, 26, 27, 28, 33] [(14, .int .i64 x14)] [(33, .box [.own 0 x1033000_3.length, .own 1 x1033001_3.length, .own 2 x1033002_3.length, .own 3 x1033003_3.length])] [.arr 9 1 (x1033000_3.map bB), .arr 66 2 (x1033001_3.map aV), .arr 68 3 (x1033002_3.map aS), .arr 53 4 (x1033003_3.map aR)] (F (fun e σ' => match e with | .normal => ∃ (y : Nat × Int × (List ByteArray) × (List aF) × (List aB) × (List aA)) (rn : List (Option Nat)), (aT.l2 y.1 y.2.1 t8672 y.2.2.1 y.2.2.2.1 y.2.2.2.2.1 y.2.2.2.2.2 = some r ∧ y.1 < k + 1) ∧ y.1 < k0 ∧ cM σ σ' [25, 26, 27, 28, 33] [(14, .int .i64 y.2.1)] [(33, .box [.own 0 y.2.2.1.length, .own 1 y.2.2.2.1.length, .own 2 y.2.2.2.2.1.length, .own 3 y.2.2.2.2.2.length])] [.arr 9 1 (y.2.2.1.map bB), .arr 66 2 (y.2.2.2.1.map aV), .arr 68 3 (y.2.2.2.2.1.map aS), .arr 53 4 (y.2.2.2.2.2.map aR)] rn | e => Q e σ'))) : Lp F hv Q σ := by
  unfold Lp
  refine ⟨Nat × Int × (List ByteArray) × (List aF) × (List aB) × (List aA), fun x => aT.l2 x.1 x.2.1 t8672 x.2.2.1 x.2.2.2.1 x.2.2.2.2.1 x.2.2.2.2.2 = some r ∧ x.1 < k + 1, fun x => x.1, [25, 26, 27, 28, 33], fun x => [(14, .int .i64 x.2.1)], fun x => [(33, .box [.own 0 x.2.2.1.length, .own 1 x.2.2.2.1.length, .own 2 x.2.2.2.2.1.length, .own 3 x.2.2.2.2.2.length])], fun x => [.arr 9 1 (x.2.2.1.map bB), .arr 66 2 (x.2.2.2.1.map aV), .arr 68 3 (x.2.2.2.2.1.map aS), .arr 53 4 (x.2.2.2.2.2.map aR)], ⟨(k, x14, x1033000_3, x1033001_3, x1033002_3, x1033003_3), rn, ⟨H, Nat.lt_succ_self _⟩, h1⟩, ?_⟩
  rintro ⟨k, x14, x1033000_3, x1033001_3, x1033002_3, x1033003_3⟩ ⟨H, hk⟩
  exact h2 k x14 x1033000_3 x1033001_3 x1033002_3 x1033003_3 hk H
theorem aT.j1_sq {F : (Exit → St → Prop) → St → Prop} {hv : List Tmp} {K : St → Prop} {Q : Exit → St → Prop} {σ : St} {r : (List ByteArray) × (List aF) × (List aB) × (List aA) × (List Int) × Int} {KK : Nat} {t8586 : (List ByteArray) × (List aF) × (List aB) × (List aA)} {t8651 : Int × (List Int) × Int}
    (h1 : F (fun e σ' => match e with | .normal => ∃ (y : Nat × Bool) (rn : List (Option Nat)), (aT.j1 y.1 y.2 t8586 t8651 = some r ∧ y.1 < KK) ∧ cM σ σ' [] [(137, .bool y.2)] [] [] rn | e => Q e σ') σ)
    (h2 : ∀ (k : Nat) (x137 : Bool), k < KK → aT.j1 k x137 t8586 t8651 = some r → dF σ hv [] [(137, .bool x137)] [] [] K) : Sq F hv K Q σ := by
  unfold Sq
  refine ⟨Nat × Bool, fun x => aT.j1 x.1 x.2 t8586 t8651 = some r ∧ x.1 < KK, [], fun x => [(137, .bool x.2)], fun x => [], fun x => [], h1, ?_⟩
  rintro ⟨k, x137⟩ ⟨H, hk⟩
  exact h2 k x137 hk H

end Go.Proofs.Ytjhkgbfmigfmfaa.GV

