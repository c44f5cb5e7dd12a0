import Derived.Test.YtnobkcplpbkigaaGreatDoorZFnPlantText0
namespace Go.Proofs.YtnobkcplpbkigaaGreatDoor.Pure
open Go Go.RowKit Go.Aw Go.Proofs.YtnobkcplpbkigaaGreatDoor.PT
set_option linter.unusedVariables false
set_option linter.unusedSimpArgs false
theorem aO {α : Type} {c : Prop} {d : Decidable c} {g f : Nat → Option α} {r : α} (h : c) (k : Ev g r) : Ev (fun n => @ite _ c d (g n) (f n)) r := Ev.congr (fun _ => if_pos h) k
theorem bT {α : Type} {c : Prop} {d : Decidable c} {g f : Nat → Option α} {r : α} (h : ¬ c) (k : Ev f r) : Ev (fun n => @ite _ c d (g n) (f n)) r := Ev.congr (fun _ => if_neg h) k
theorem aX {α : Type} {a r : α} (h : a = r) : Ev (fun _ => some a) r := h ▸ Ev.now a
theorem oJ {α β : Type} {g : Option α} {a : α} {r : β} {f : Nat → α → Option β} (h : g = some a) (k : Ev (fun n => f n a) r) : Ev (fun n => g.bind (f n)) r := by
  subst h; exact k
theorem fF {α : Type} {g : Nat → Option α} {a r : α} (k : Ev g a) (h : a = r) : Ev g r := h ▸ k
theorem aY {α : Type} {c : Prop} {d : Decidable c} {g f : Nat → Option α} {r : α} (h : c → Ev g r) (k : ¬ c → Ev f r) : Ev (fun n => @ite _ c d (g n) (f n)) r := by
  by_cases q : c
  · exact aO q (h q)
  · exact bT q (k q)
theorem w64 {x : Int} (h0 : -9223372036854775808 ≤ x) (h1 : x ≤ 9223372036854775807) : wrap64 x = x := by unfold wrap64; omega
theorem dN {i n : Nat} (h : i < n) (hn : n ≤ 9223372036854775807) : wrap64 ((i : Int) + 1) = ((i + 1 : Nat) : Int) := by unfold wrap64; omega
theorem sV {i : Nat} (h : ¬ i = 0) (hi : i ≤ 9223372036854775807) : wrap64 ((i : Int) - 1) = ((i - 1 : Nat) : Int) := by unfold wrap64; omega
theorem gZ {α : Type} (d : α) (xs : List α) (i : Nat) (h : i < xs.length) : xs.getD i d = xs[i] := by
  rw [List.getD_eq_getElem?_getD, List.getElem?_eq_getElem h]; rfl
theorem kY {α : Type} (d : α) (xs : List α) (i : Nat) (h : i < xs.length) : xs.getD i d ∈ xs := by
  rw [gZ d xs i h]; exact List.getElem_mem h
theorem sT {α : Type} (d : α) (xs : List α) (i j : Nat) (v : α) (h : i < xs.length) : (xs.set i v).getD j d = if j = i then v else xs.getD j d := by
  rw [List.getD_eq_getElem?_getD, List.getD_eq_getElem?_getD, List.getElem?_set]
  by_cases e : i = j
  · subst e; simp [h]
  · rw [if_neg e, if_neg (fun q => e q.symm)]
theorem eZ {α : Type} (d : α) (xs : List α) (i : Nat) : aP d xs (i : Int) = xs.getD i d := by simp [aP]
theorem aKW (xs : List Int) (i : Nat) : rd xs (i : Int) = xs.getD i 0 := by simp [rd]
theorem aGF {α β : Type} (e : β) (d : α) (f : α → β) (l : List α) (i : Nat) (h : i < l.length) : (l.map f).getD i e = f (l.getD i d) := by
  rw [gZ e _ i (by simpa using h), gZ d l i h, List.getElem_map]
theorem eO {α : Type} (d : α) (l : List α) {P : Nat → List α → Prop} (h0 : P l.length []) (hs : ∀ i x r, i < l.length → l.getD i d = x → x ∈ l → l.drop (i + 1) = r → P (i + 1) r → P i (x :: r)) : P 0 l := by
  have key : ∀ (n i : Nat), i + n = l.length → P i (l.drop i) := fun n => by
    induction n with
    | zero =>
      intro i hi
      have e : i = l.length := by omega
      subst e; rw [List.drop_length]; exact h0
    | succ n ih =>
      intro i hi
      have hlt : i < l.length := by omega
      have e : l.drop i = l.getD i d :: l.drop (i + 1) := by rw [List.drop_eq_getElem_cons hlt, gZ d l i hlt]
      rw [e]
      exact hs i _ _ hlt rfl (kY d l i hlt) rfl (ih (i + 1) (by omega))
  simpa using key l.length 0 (by omega)
def ahead {α : Type} (d : α) (l : List α) (i : Nat) : Option α := if i = 0 then none else some (l.getD (i - 1) d)
theorem jS {α : Type} (d : α) (l : List α) : ahead d l 0 = none := rfl
theorem jR {α : Type} (d : α) (l : List α) (i : Nat) : ahead d l (i + 1) = some (l.getD i d) := by simp [ahead]
theorem kS {α : Type} (d : α) (l : List α) (i : Nat) (h : ¬ i = 0) : ahead d l i = some (l.getD (i - 1) d) := if_neg h
theorem lV : ∀ x : List UInt8, Op.bytesLess x x = false
  | [] => rfl
  | a :: x => by simp [Op.bytesLess, lV x]
theorem mI : ∀ x y : List UInt8, Op.bytesLess x y = true → Op.bytesLess y x = false
  | [], [], _ => rfl
  | [], _ :: _, _ => rfl
  | _ :: _, [], h => by simp [Op.bytesLess] at h
  | a :: x, b :: y, h => by
    simp only [Op.bytesLess, Bool.or_eq_true, Bool.and_eq_true, decide_eq_true_eq, beq_iff_eq] at h
    simp only [Op.bytesLess, Bool.or_eq_false_iff, Bool.and_eq_false_iff, decide_eq_false_iff_not, beq_eq_false_iff_ne]
    rcases h with h | ⟨rfl, h⟩
    · exact ⟨UInt8.lt_asymm h, .inl (fun e => by subst e; exact UInt8.lt_irrefl _ h)⟩
    · exact ⟨UInt8.lt_irrefl _, .inr (mI x y h)⟩
theorem rB : ∀ x y : List UInt8, Op.bytesLess x y = true ∨ x = y ∨ Op.bytesLess y x = true
  | [], [] => .inr (.inl rfl)
  | [], _ :: _ => .inl rfl
  | _ :: _, [] => .inr (.inr rfl)
  | a :: x, b :: y => by
    simp only [Op.bytesLess, Bool.or_eq_true, Bool.and_eq_true, decide_eq_true_eq, beq_iff_eq, List.cons.injEq]
    rcases UInt8.lt_or_lt_of_ne (a := a) (b := b) |> fun f => (Classical.em (a = b)).imp id f with rfl | h | h
    · rcases rB x y with q | rfl | q
      · exact .inl (.inr ⟨rfl, q⟩)
      · exact .inr (.inl ⟨rfl, rfl⟩)
      · exact .inr (.inr (.inr ⟨rfl, q⟩))
    · exact .inl (.inl h)
    · exact .inr (.inr (.inl h))
theorem lU : ∀ x y z : List UInt8, Op.bytesLess x y = true → Op.bytesLess y z = true → Op.bytesLess x z = true
  | [], _, _ :: _, _, _ => rfl
  | [], [], [], h, _ => h
  | [], _ :: _, [], _, h => by simp [Op.bytesLess] at h
  | _ :: _, [], _, h, _ => by simp [Op.bytesLess] at h
  | _ :: _, _ :: _, [], _, h => by simp [Op.bytesLess] at h
  | a :: x, b :: y, c :: z, h, k => by
    simp only [Op.bytesLess, Bool.or_eq_true, Bool.and_eq_true, decide_eq_true_eq, beq_iff_eq] at h k ⊢
    rcases h with h | ⟨rfl, h⟩
    · rcases k with k | ⟨rfl, k⟩
      · exact .inl (UInt8.lt_trans h k)
      · exact .inl h
    · rcases k with k | ⟨rfl, k⟩
      · exact .inl k
      · exact .inr ⟨rfl, lU x y z h k⟩
theorem zZ {a b : ByteArray} (h : a.toList = b.toList) : a = b := by
  apply ByteArray.ext
  apply Array.ext'
  simpa [ByteArray.toList_eq] using h
theorem cR {a b : ByteArray} : a.toList = b.toList ↔ a = b := ⟨zZ, fun h => h ▸ rfl⟩
def lt (a b : ByteArray) : Bool := Op.bytesLess a.toList b.toList
theorem qZ (a : ByteArray) : lt a a = false := lV _
theorem lM {a b : ByteArray} (h : lt a b = true) : lt b a = false := mI _ _ h
theorem lt_trans {a b c : ByteArray} (h : lt a b = true) (k : lt b c = true) : lt a c = true := lU _ _ _ h k
theorem mP (a b : ByteArray) : lt a b = true ∨ a = b ∨ lt b a = true := (rB a.toList b.toList).imp id (·.imp zZ id)
theorem nI {a b : ByteArray} (h : lt a b = true) : a ≠ b := fun e => by rw [e, qZ] at h; cases h
def rJ (a0 a1 b0 b1 : ByteArray) : Bool := lt a0 b0 || (decide (a0 = b0) && lt a1 b1)
theorem fI {α : Type} {b : Bool} {g f : Nat → Option α} {r : α} (h : b = true → Ev g r) (k : b = false → Ev f r) : Ev (fun n => if b = true then g n else f n) r := by
  cases b
  · exact bT (by simp) (k rfl)
  · exact aO rfl (h rfl)
def okc (c : Int) : Bool := (decide (97 ≤ c) && decide (c ≤ 122)) || ((decide (48 ≤ c) && decide (c ≤ 57)) || decide (c = 45))
theorem aKK {c : Int} (h : 97 ≤ c ∧ c ≤ 122 ∨ 48 ≤ c ∧ c ≤ 57 ∨ c = 45) : okc c = true := by simp [okc]; omega
theorem aKS {c : Int} (h : ¬ (97 ≤ c ∧ c ≤ 122 ∨ 48 ≤ c ∧ c ≤ 57 ∨ c = 45)) : okc c = false := by
  rw [← Bool.not_eq_true]; intro q; apply h; simp [okc] at q; omega
def mG (s : ByteArray) (i : Nat) : Bool := decide (∀ j, j < s.size → i ≤ j → okc (bt s (j : Int)) = true)
theorem pW (s : ByteArray) (i : Nat) (h : i < s.size) : mG s i = (okc (bt s (i : Int)) && mG s (i + 1)) := by
  unfold mG
  rw [Bool.eq_iff_iff, Bool.and_eq_true, decide_eq_true_iff, decide_eq_true_iff]
  refine ⟨fun q => ⟨q i h (Nat.le_refl _), fun j hj hi => q j hj (by omega)⟩, fun q j hj hi => ?_⟩
  by_cases e : j = i
  · rw [e]; exact q.1
  · exact q.2 j hj (by omega)
theorem sB (s : ByteArray) : mG s s.size = true := by
  unfold mG
  rw [decide_eq_true_iff]
  intro j hj hi; omega
def dK (s : ByteArray) : Bool := decide (1 ≤ s.size ∧ s.size ≤ 8) && mG s 0
theorem aBN (n : Nat) {P : Nat → Prop} (h0 : P n) (hs : ∀ i, i < n → P (i + 1) → P i) : P 0 := by
  have key : ∀ (m i : Nat), i + m = n → P i := fun m => by
    induction m with
    | zero => intro i hi; have e : i = n := by omega
              subst e; exact h0
    | succ m ih => intro i hi; exact hs i (by omega) (ih (i + 1) (by omega))
  exact key n 0 (by omega)
def dE {α : Type} (p : α → α → Bool) : Option α → List α → Bool
  | _, [] => true
  | none, x :: r => dE p (some x) r
  | some y, x :: r => p y x && dE p (some x) r
def kA (l : List ByteArray) : Bool := l.all dK && dE lt none l
def iQ (l : List ByteArray) (s : ByteArray) : Bool := l.any fun x => decide (x = s)
theorem iY {l : List ByteArray} {s : ByteArray} : iQ l s = true ↔ s ∈ l := by
  unfold iQ
  rw [List.any_eq_true]
  exact ⟨fun ⟨x, h, e⟩ => by simp at e; exact e ▸ h, fun h => ⟨s, h, by simp⟩⟩
def inB (a b c : Int) : Bool := decide (b ≤ a ∧ a ≤ c)
theorem aBO {a b c : Int} (h : b ≤ a ∧ a ≤ c) : inB a b c = true := decide_eq_true h
theorem aMK {a b c : Int} (h : ¬ (b ≤ a ∧ a ≤ c)) : inB a b c = false := decide_eq_false h
theorem mE (a b c : Int) : Ev (fun _ => fO.f a b c) (inB a b c) := by
  unfold fO.f inB
  refine aY (fun h => aX (decide_eq_decide.2 (by omega))) (fun h => aX ?_)
  symm; apply decide_eq_false; omega
theorem dY (s : ByteArray) : Ev (fun k => aZ.f k s) (dK s) := by
  unfold aZ.f dK
  refine Ev.bind (mE _ _ _) (fI (fun h => ?_) (fun h => aX ?_))
  · have hs : 1 ≤ s.size ∧ s.size ≤ 8 := by have : inB _ _ _ = true := h; unfold inB at this; have := of_decide_eq_true this; omega
    rw [decide_eq_true hs, Bool.true_and]
    refine aBN s.size (P := fun i => Ev (fun k => aZ.l0 k s (i : Int)) (mG s i))
      (by refine Ev.step (fun k => by rw [aZ.l0]) ?_; exact bT (by omega) (aX (sB s).symm)) (fun i hi ih => ?_)
    refine Ev.step (fun k => by rw [aZ.l0]) (aO (by omega) (aO (by omega) ?_))
    rw [dN hi (by omega), pW s i hi]
    generalize bt s (i : Int) = c
    repeat' (first | (refine aY (fun _ => ?_) (fun _ => ?_)) | (rw [aKK (by omega), Bool.true_and]; exact ih) | (rw [aKS (by omega)]; exact aX rfl))
  · have hs : ¬ (1 ≤ s.size ∧ s.size ≤ 8) := fun q => by have : inB _ _ _ = false := h; unfold inB at this; have := of_decide_eq_false this; omega
    rw [decide_eq_false hs]; rfl
theorem mA (l : List ByteArray) (s : ByteArray) (hn : l.length ≤ 140737488351232) : Ev (fun k => dR.f k l s) (iQ l s) := by
  unfold dR.f iQ
  refine eO ByteArray.empty l (P := fun i r => Ev (fun k => dR.l0 k l s (i : Int)) (r.any fun x => decide (x = s)))
    (by refine Ev.step (fun k => by rw [dR.l0]) ?_; exact bT (by omega) (aX rfl)) (fun i x r hi hx _ _ ih => ?_)
  refine Ev.step (fun k => by rw [dR.l0]) (aO (by omega) (aO (by omega) ?_))
  rw [dN hi (by omega), eZ, hx]
  refine aY (fun c => aX ?_) (fun c => fF ih ?_)
  · simp [cR.1 c]
  · simp [show ¬ x = s from fun e => c (cR.2 e)]
theorem fP (s : ByteArray) (hn : s.size ≤ 140737488351232) : Ev (fun k => bZ.f k s) (dK s) := by
  unfold bZ.f dK
  refine aBN s.size (P := fun i => Ev (fun k => bZ.l0 k s (i : Int)) (decide (1 ≤ s.size ∧ s.size ≤ 8) && mG s i))
    (by
      refine Ev.step (fun k => by rw [bZ.l0]) (bT (by omega) ?_)
      rw [sB, Bool.and_true]
      refine aY (fun h => aX (decide_eq_decide.2 (by omega))) (fun h => aX ?_)
      symm; apply decide_eq_false; omega) (fun i hi ih => ?_)
  refine Ev.step (fun k => by rw [bZ.l0]) (aO (by omega) (aO (by omega) ?_))
  rw [dN hi (by omega), pW s i hi]
  generalize bt s (i : Int) = c
  repeat' (first | (refine aY (fun _ => ?_) (fun _ => ?_)) | (rw [aKK (by omega), Bool.true_and]; exact ih) | (rw [aKS (by omega), Bool.false_and, Bool.and_false]; exact aX rfl))
theorem aAZ {α : Type} (p : α → α → Bool) (x : α) (r : List α) : dE p none (x :: r) = dE p (some x) r := rfl
theorem aEE (l : List ByteArray) (hn : l.length ≤ 140737488351232) : Ev (fun k => eA.f k l) (dE lt none l) := by
  unfold eA.f
  have key : ∀ r i, l.drop (i + 1) = r → i < l.length → Ev (fun k => eA.l0 k l ((i + 1 : Nat) : Int)) (dE lt (some (l.getD i ByteArray.empty)) r) := fun r => by
    induction r with
    | nil =>
      intro i hd hi
      have : l.length ≤ i + 1 := List.drop_eq_nil_iff.1 hd
      refine Ev.step (fun k => by rw [eA.l0]) ?_
      exact bT (by omega) (aX rfl)
    | cons x r ih =>
      intro i hd hi
      have hlt : i + 1 < l.length := by
        refine Nat.lt_of_not_le fun hle => ?_
        rw [List.drop_eq_nil_iff.2 hle] at hd; cases hd
      have e := List.drop_eq_getElem_cons hlt
      rw [hd] at e; injection e with e1 e2
      have hx : l.getD (i + 1) ByteArray.empty = x := by rw [gZ _ l _ hlt]; exact e1.symm
      refine Ev.step (fun k => by rw [eA.l0]) (aO (by omega) ?_)
      have hw : wrap64 (((i + 1 : Nat) : Int) - 1) = ((i : Nat) : Int) := by unfold wrap64; omega
      rw [hw, eZ, eZ, hx, dN hlt (by omega)]
      refine aO (by omega) (aO (by omega) (aO (by omega) (fI (fun c => ?_) (fun c => aX ?_))))
      · have c : lt (l.getD i ByteArray.empty) x = true := c
        have := ih (i + 1) e2.symm hlt
        rw [hx] at this
        simp only [dE, c, Bool.true_and]; exact this
      · have c : lt (l.getD i ByteArray.empty) x = false := c
        simp only [dE, c, Bool.false_and]
  cases l with
  | nil =>
    refine Ev.step (fun k => by rw [eA.l0]) ?_
    exact bT (show ¬ (1 : Int) < ((0 : Nat) : Int) by omega) (aX rfl)
  | cons x r =>
    rw [aAZ]
    exact key r 0 rfl (by simp)
theorem aEP (l : List ByteArray) (hn : l.length ≤ 140737488351232) (h : ∀ x ∈ l, x.size ≤ 140737488351232) : Ev (fun k => eR.f k l) (kA l) := by
  unfold eR.f kA
  refine eO ByteArray.empty l (P := fun i r => Ev (fun k => eR.l0 k l (i : Int)) (r.all dK && dE lt none l))
    (by refine Ev.step (fun k => by rw [eR.l0]) ?_; exact bT (by omega) (Ev.bind (aEE l hn) (aX rfl))) (fun i x r hi hx hm _ ih => ?_)
  refine Ev.step (fun k => by rw [eR.l0]) (aO (by omega) (aO (by omega) ?_))
  rw [dN hi (by omega), eZ, hx]
  refine Ev.bind (fP x (h x hm)) (fI (fun c => ?_) (fun c => aX ?_))
  · simpa [c] using ih
  · simp [c]
theorem uA (l : List ByteArray) (s : ByteArray) (hn : l.length ≤ 140737488351232) : Ev (fun k => gF.f k l s) (iQ l s) := by
  have key : ∃ v : Int, (decide (v ≥ 0) = iQ l s) ∧ Ev (fun k => bH.f k l s) v := by
    unfold bH.f iQ
    refine eO ByteArray.empty l (P := fun i r => ∃ v : Int, (decide (v ≥ 0) = r.any fun x => decide (x = s)) ∧ Ev (fun k => bH.l0 k l s (i : Int)) v)
      ⟨-1, rfl, Ev.step (fun k => by rw [bH.l0]) (bT (by omega) (aX rfl))⟩ (fun i x r hi hx _ _ ih => ?_)
    obtain ⟨v, hv, he⟩ := ih
    by_cases c : x = s
    · refine ⟨(i : Int), by simp [c], Ev.step (fun k => by rw [bH.l0]) ?_⟩
      rw [eZ, hx]
      exact aO (by omega) (aO (by omega) (aO (by rw [c]) (aX rfl)))
    · refine ⟨v, by simpa [c] using hv, Ev.step (fun k => by rw [bH.l0]) ?_⟩
      rw [eZ, hx, dN hi (by omega)]
      exact aO (by omega) (aO (by omega) (bT (fun q => c (zZ q).symm) he))
  obtain ⟨v, hv, he⟩ := key
  unfold gF.f eJ.f
  exact Ev.bind (Ev.bind he (aX hv)) (aX rfl)
theorem rdF (l : List aD) (i : Nat) : aQ l (i : Int) = l.getD i cW := by unfold aQ; rw [Int.toNat_natCast]
theorem rdP (l : List aB) (i : Nat) : aL l (i : Int) = l.getD i dB := by unfold aL; rw [Int.toNat_natCast]
theorem rdV (l : List aA) (i : Nat) : aG l (i : Int) = l.getD i cJ := by unfold aG; rw [Int.toNat_natCast]
def fR (x y : aD) : Bool := rJ x.f0 x.f1 y.f0 y.f1
def pU (s : List ByteArray) (x : aD) : Bool := lt x.f0 x.f1 && (iQ s x.f0 && iQ s x.f1)
def nM (s : List ByteArray) (f : List aD) : Bool := f.all (pU s) && dE fR none f
def eX (x y : aB) : Bool := lt x.f0 y.f0
def hZ (x : aB) : Bool := dK x.f0 && (inB x.f1 0 1000 && dK x.f2)
def kU (p : List aB) : Bool := p.all hZ && dE eX none p
def dQ (p : List aB) (x : ByteArray) : Bool := p.any fun y => decide (y.f0 = x)
def eM (x y : aA) : Bool := lt x.f0 y.f0
def iW (p : List aB) (x : aA) : Bool := dK x.f0 && (lt x.f1 x.f2 && (dQ p x.f1 && (dQ p x.f2 && dK x.f3)))
def jP (p : List aB) (v : List aA) : Bool := v.all (iW p) && dE eM none v
def lE (s : List ByteArray) (f : List aD) (p : List aB) (v : List aA) : Bool :=
  (decide (s.length ≤ 8) && decide (f.length ≤ 12)) && ((kA s && nM s f) && ((decide (p.length ≤ 14) && kU p) && (decide (v.length ≤ 18) && jP p v)))
theorem iZ (a0 a1 b0 b1 : ByteArray) : Ev (fun _ => fK.f a0 a1 b0 b1) (rJ a0 a1 b0 b1) := by
  unfold fK.f
  repeat' (first
    | with_reducible refine aO (by omega) ?_
    | with_reducible refine bT (by omega) ?_
    | with_reducible refine fI (fun c => ?_) (fun c => ?_)
    | with_reducible refine aY (fun c => ?_) (fun c => ?_))
  all_goals (first
    | (with_reducible refine aX ?_; simp_all [dE, lt, cR, rJ]; done)
    | (with_reducible refine fF (ih) ?_; simp_all [dE, lt, cR, rJ]; done))
theorem aAA (s : List ByteArray) (f : List aD) (hs : s.length ≤ 140737488351232) (hf : f.length ≤ 140737488351232) : Ev (fun k => bI.l1 k s f 0) (nM s f) := by
  refine eO cW f (P := fun i r => Ev (fun k => bI.l1 k s f (i : Int)) (r.all (pU s) && dE fR (ahead cW f i) r))
    (by refine Ev.step (fun k => by rw [bI.l1]) ?_; exact bT (by omega) (aX rfl)) (fun i x r hi hx _ _ ih => ?_)
  refine Ev.step (fun k => by rw [bI.l1]) (aO (by omega) (aO (by omega) ?_))
  rw [dN hi (by omega), rdF, hx]
  rw [jR, hx] at ih
  clear hx
  by_cases z : i = 0
  · subst z
    rw [jS]
    repeat' (first
      | with_reducible refine Ev.bind (mA _ _ hs) ?_
      | with_reducible refine aO (by omega) ?_
      | with_reducible refine bT (by omega) ?_
      | with_reducible refine fI (fun c => ?_) (fun c => ?_)
      | with_reducible refine aY (fun c => ?_) (fun c => ?_))
    all_goals (first
      | (with_reducible refine aX ?_; simp_all [dE, lt, cR, pU, fR]; done)
      | (with_reducible refine fF (ih) ?_; simp_all [dE, lt, cR, pU, fR]; done))
  · rw [sV z (by omega), rdF, kS _ _ _ z]
    generalize f.getD (i - 1) cW = y
    repeat' (first
      | with_reducible refine Ev.bind (mA _ _ hs) ?_
      | with_reducible refine Ev.bind (iZ _ _ _ _) ?_
      | with_reducible refine aO (by omega) ?_
      | with_reducible refine bT (by omega) ?_
      | with_reducible refine fI (fun c => ?_) (fun c => ?_)
      | with_reducible refine aY (fun c => ?_) (fun c => ?_))
    all_goals (first
      | (with_reducible refine aX ?_; simp_all [dE, lt, cR, pU, fR]; done)
      | (with_reducible refine fF (ih) ?_; simp_all [dE, lt, cR, pU, fR]; done))
theorem yU (s : List ByteArray) (f : List aD) (p : List aB) (v : List aA) (hs : s.length ≤ 140737488351232) (hf : f.length ≤ 140737488351232) :
    Ev (fun k => bI.f k s f p v) ((decide (s.length ≤ 8) && decide (f.length ≤ 12)) && (kA s && nM s f)) := by
  have L1 := aAA s f hs hf
  generalize nM s f = T at L1 ⊢
  have L0 : Ev (fun k => bI.l0 k s f 0) (kA s && T) := by
    refine eO ByteArray.empty s (P := fun i r => Ev (fun k => bI.l0 k s f (i : Int)) ((r.all dK && dE lt (ahead ByteArray.empty s i) r) && T))
      (by refine Ev.step (fun k => by rw [bI.l0]) ?_; exact bT (by omega) L1) (fun i x r hi hx _ _ ih => ?_)
    refine Ev.step (fun k => by rw [bI.l0]) (aO (by omega) (aO (by omega) ?_))
    rw [dN hi (by omega), eZ, hx]
    rw [jR, hx] at ih
    clear hx L1
    by_cases z : i = 0
    · subst z
      rw [jS]
      repeat' (first
        | with_reducible refine Ev.bind (dY _) ?_
        | with_reducible refine aO (by omega) ?_
        | with_reducible refine bT (by omega) ?_
        | with_reducible refine fI (fun c => ?_) (fun c => ?_)
        | with_reducible refine aY (fun c => ?_) (fun c => ?_))
      all_goals (first
        | (with_reducible refine aX ?_; simp_all [dE, lt, cR]; done)
        | (with_reducible refine fF (ih) ?_; simp_all [dE, lt, cR]; done))
    · rw [sV z (by omega), eZ, kS _ _ _ z]
      generalize s.getD (i - 1) ByteArray.empty = y
      repeat' (first
        | with_reducible refine Ev.bind (dY _) ?_
        | with_reducible refine aO (by omega) ?_
        | with_reducible refine bT (by omega) ?_
        | with_reducible refine fI (fun c => ?_) (fun c => ?_)
        | with_reducible refine aY (fun c => ?_) (fun c => ?_))
      all_goals (first
        | (with_reducible refine aX ?_; simp_all [dE, lt, cR]; done)
        | (with_reducible refine fF (ih) ?_; simp_all [dE, lt, cR]; done))
  unfold bI.f
  refine aY (fun c => aX ?_) (fun c => aY (fun d => aX ?_) (fun d => fF L0 ?_))
  · rw [decide_eq_false (by omega : ¬ s.length ≤ 8)]; rfl
  · rw [decide_eq_false (by omega : ¬ f.length ≤ 12), Bool.and_false]; rfl
  · rw [decide_eq_true (by omega : s.length ≤ 8), decide_eq_true (by omega : f.length ≤ 12)]; rfl
theorem zQ (s : List ByteArray) (f : List aD) (p : List aB) (v : List aA) (hp : p.length ≤ 140737488351232) :
    Ev (fun k => cZ.f k s f p v) (decide (p.length ≤ 14) && kU p) := by
  unfold cZ.f
  refine aY (fun c => aX (by rw [decide_eq_false (by omega : ¬ p.length ≤ 14)]; rfl)) (fun c => ?_)
  rw [decide_eq_true (by omega : p.length ≤ 14), Bool.true_and]
  refine eO dB p (P := fun i r => Ev (fun k => cZ.l0 k p (i : Int)) (r.all hZ && dE eX (ahead dB p i) r))
    (by refine Ev.step (fun k => by rw [cZ.l0]) ?_; exact bT (by omega) (aX rfl)) (fun i x r hi hx _ _ ih => ?_)
  refine Ev.step (fun k => by rw [cZ.l0]) (aO (by omega) (aO (by omega) ?_))
  rw [dN hi (by omega), rdP, hx]
  rw [jR, hx] at ih
  clear hx
  by_cases z : i = 0
  · subst z
    rw [jS]
    repeat' (first
      | with_reducible refine Ev.bind (dY _) ?_
      | with_reducible refine Ev.bind (mE _ _ _) ?_
      | with_reducible refine aO (by omega) ?_
      | with_reducible refine bT (by omega) ?_
      | with_reducible refine fI (fun c => ?_) (fun c => ?_)
      | with_reducible refine aY (fun c => ?_) (fun c => ?_))
    all_goals (first
      | (with_reducible refine aX ?_; simp_all [dE, lt, cR, hZ, eX]; done)
      | (with_reducible refine fF (ih) ?_; simp_all [dE, lt, cR, hZ, eX]; done))
  · rw [sV z (by omega), rdP, kS _ _ _ z]
    generalize p.getD (i - 1) dB = y
    repeat' (first
      | with_reducible refine Ev.bind (dY _) ?_
      | with_reducible refine Ev.bind (mE _ _ _) ?_
      | with_reducible refine aO (by omega) ?_
      | with_reducible refine bT (by omega) ?_
      | with_reducible refine fI (fun c => ?_) (fun c => ?_)
      | with_reducible refine aY (fun c => ?_) (fun c => ?_))
    all_goals (first
      | (with_reducible refine aX ?_; simp_all [dE, lt, cR, hZ, eX]; done)
      | (with_reducible refine fF (ih) ?_; simp_all [dE, lt, cR, hZ, eX]; done))
def lJ (x : ByteArray) : List aB → Int → Int
  | [], _ => -1
  | y :: r, i => if y.f0 = x then i else lJ x r (i + 1)
theorem rU (x : ByteArray) : ∀ (r : List aB) (i : Int), 0 ≤ i → (decide (lJ x r i < 0) = !dQ r x) ∧ (dQ r x = true → i ≤ lJ x r i)
  | [], i, h => ⟨rfl, fun h => by simp [dQ] at h⟩
  | y :: r, i, h => by
    obtain ⟨h1, h2⟩ := rU x r (i + 1) (by omega)
    rw [show lJ x (y :: r) i = if y.f0 = x then i else lJ x r (i + 1) from rfl, show dQ (y :: r) x = (decide (y.f0 = x) || dQ r x) from rfl]
    by_cases c : y.f0 = x
    · rw [if_pos c, decide_eq_true c, Bool.true_or]
      exact ⟨decide_eq_false (by omega), fun _ => Int.le_refl _⟩
    · rw [if_neg c, decide_eq_false c, Bool.false_or]
      exact ⟨h1, fun q => by have := h2 q; omega⟩
theorem jU (s : List ByteArray) (f : List aD) (p : List aB) (v : List aA) (x : ByteArray) (hp : p.length ≤ 140737488351232) :
    Ev (fun k => cK.f k s f p v x) (lJ x p 0) := by
  unfold cK.f
  refine eO dB p (P := fun i r => Ev (fun k => cK.l0 k p x (i : Int)) (lJ x r (i : Int)))
    (by refine Ev.step (fun k => by rw [cK.l0]) ?_; exact bT (by omega) (aX rfl)) (fun i y r hi hx _ _ ih => ?_)
  refine Ev.step (fun k => by rw [cK.l0]) (aO (by omega) (aO (by omega) ?_))
  rw [dN hi (by omega), rdP, hx]
  unfold lJ
  refine aY (fun c => aX (by rw [if_pos (cR.1 c)])) (fun c => fF ih (by rw [if_neg (fun e => c (cR.2 e))]; push_cast; rfl))
theorem iX (x : ByteArray) (p : List aB) : (lJ x p 0 < 0) ↔ dQ p x = false := by
  have := (rU x p 0 (Int.le_refl _)).1
  cases h : dQ p x <;> rw [h] at this <;> simpa using this
theorem yO (s : List ByteArray) (f : List aD) (p : List aB) (v : List aA) (hp : p.length ≤ 140737488351232) (hv : v.length ≤ 140737488351232) :
    Ev (fun k => cY.f k s f p v) (decide (v.length ≤ 18) && jP p v) := by
  unfold cY.f
  refine aY (fun c => aX (by rw [decide_eq_false (by omega : ¬ v.length ≤ 18)]; rfl)) (fun c => ?_)
  rw [decide_eq_true (by omega : v.length ≤ 18), Bool.true_and]
  refine eO cJ v (P := fun i r => Ev (fun k => cY.l0 k s f p v (i : Int)) (r.all (iW p) && dE eM (ahead cJ v i) r))
    (by refine Ev.step (fun k => by rw [cY.l0]) ?_; exact bT (by omega) (aX rfl)) (fun i x r hi hx _ _ ih => ?_)
  refine Ev.step (fun k => by rw [cY.l0]) (aO (by omega) (aO (by omega) ?_))
  rw [dN hi (by omega), rdV, hx]
  rw [jR, hx] at ih
  clear hx
  by_cases z : i = 0
  · subst z
    rw [jS]
    repeat' (first
      | with_reducible refine Ev.bind (dY _) ?_
      | with_reducible refine Ev.bind (jU _ _ _ _ _ hp) ?_
      | with_reducible refine aO (by omega) ?_
      | with_reducible refine bT (by omega) ?_
      | with_reducible refine fI (fun c => ?_) (fun c => ?_)
      | with_reducible refine aY (fun c => ?_) (fun c => ?_))
    all_goals (first
      | (with_reducible refine aX ?_; simp_all [dE, lt, cR, iW, eM, iX]; done)
      | (with_reducible refine fF (ih) ?_; simp_all [dE, lt, cR, iW, eM, iX]; done))
  · rw [sV z (by omega), rdV, kS _ _ _ z]
    generalize v.getD (i - 1) cJ = y
    repeat' (first
      | with_reducible refine Ev.bind (dY _) ?_
      | with_reducible refine Ev.bind (jU _ _ _ _ _ hp) ?_
      | with_reducible refine aO (by omega) ?_
      | with_reducible refine bT (by omega) ?_
      | with_reducible refine fI (fun c => ?_) (fun c => ?_)
      | with_reducible refine aY (fun c => ?_) (fun c => ?_))
    all_goals (first
      | (with_reducible refine aX ?_; simp_all [dE, lt, cR, iW, eM, iX]; done)
      | (with_reducible refine fF (ih) ?_; simp_all [dE, lt, cR, iW, eM, iX]; done))
theorem wQ (s : List ByteArray) (f : List aD) (p : List aB) (v : List aA) (hs : s.length ≤ 140737488351232) (hf : f.length ≤ 140737488351232) (hp : p.length ≤ 140737488351232) (hv : v.length ≤ 140737488351232) :
    Ev (fun k => gK.f k s f p v) (lE s f p v) := by
  unfold gK.f lE
  have e1 := yU s f p v hs hf
  have e2 := zQ s f p v hp
  have e3 := yO s f p v hp hv
  rw [← Bool.and_assoc]
  generalize ((decide (s.length ≤ 8) && decide (f.length ≤ 12)) && (kA s && nM s f)) = b1 at e1 ⊢
  generalize (decide (p.length ≤ 14) && kU p) = b2 at e2 ⊢
  generalize (decide (v.length ≤ 18) && jP p v) = b3 at e3 ⊢
  repeat' (first
    | with_reducible refine Ev.bind (e1) ?_
    | with_reducible refine Ev.bind (e2) ?_
    | with_reducible refine Ev.bind (e3) ?_
    | with_reducible refine aO (by omega) ?_
    | with_reducible refine bT (by omega) ?_
    | with_reducible refine fI (fun c => ?_) (fun c => ?_)
    | with_reducible refine aY (fun c => ?_) (fun c => ?_))
  all_goals (first
    | (with_reducible refine aX ?_; simp_all [dE, lt, cR]; done)
    | (with_reducible refine fF (ih) ?_; simp_all [dE, lt, cR]; done))
def kH (x : aD) : bW := ⟨x.f0, x.f1⟩
theorem aLZ (l : List bW) (i : Nat) : cL l (i : Int) = l.getD i jV := by unfold cL; rw [Int.toNat_natCast]
theorem xW (s : List ByteArray) (f : List aD) (p : List aB) (v : List aA) (hf : f.length ≤ 4398046511104) :
    Ev (fun k => bK.f k s f p v) (f.map kH) := by
  unfold bK.f
  have key := eO cW f (P := fun i r => ∀ acc : List bW, acc.length = i → Ev (fun k => bK.l0 k f acc (i : Int)) (acc ++ r.map kH))
    (fun acc h => by refine Ev.step (fun k => by rw [bK.l0]) ?_; exact bT (by omega) (aX (by simp))) (fun i x r hi hx _ _ ih acc h => ?_)
  · simpa using key [] rfl
  refine Ev.step (fun k => by rw [bK.l0]) (aO (by omega) (aO (by omega) (aO (by omega) ?_)))
  rw [dN hi (by omega), rdF, hx]
  refine fF (ih _ (by simp [h])) (by simp [kH])
def pT (x y : bW) : Bool := rJ x.f0 x.f1 y.f0 y.f1
def rX (x : bW) : Bool := dK x.f0 && (dK x.f1 && lt x.f0 x.f1)
def xJ (l : List bW) : Bool := l.all rX && dE pT none l
theorem aIF {a0 a1 b0 b1 : ByteArray} (h : Op.bytesLess b0.toList a0.toList = false) : rJ a0 a1 b0 b1 = (decide (a0 = b0 → Op.bytesLess a1.toList b1.toList = true)) := by
  unfold rJ
  rcases mP a0 b0 with c | c | c
  · rw [c, decide_eq_true (fun e => absurd e (nI c))]; rfl
  · subst c; rw [qZ, decide_eq_true rfl]
    cases q : Op.bytesLess a1.toList b1.toList <;> simp [lt, q]
  · have : Op.bytesLess b0.toList a0.toList = true := c
    rw [h] at this; cases this
theorem aIC {a0 a1 b0 b1 : ByteArray} (h : Op.bytesLess b0.toList a0.toList = true) : rJ a0 a1 b0 b1 = false := by
  unfold rJ
  rw [lM h, decide_eq_false (fun e => nI h e.symm)]; rfl
theorem aDS (l : List bW) (a : Int) (hn : l.length ≤ 140737488351232) (h : ∀ x ∈ l, x.f0.size ≤ 140737488351232 ∧ x.f1.size ≤ 140737488351232) :
    Ev (fun k => dX.f k l a) (xJ l && decide ((l.length : Int) ≤ a)) := by
  unfold dX.f
  refine eO jV l (P := fun i r => Ev (fun k => dX.l0 k l a (i : Int)) ((r.all rX && dE pT (ahead jV l i) r) && decide ((l.length : Int) ≤ a)))
    (by refine Ev.step (fun k => by rw [dX.l0]) ?_; exact bT (by omega) (aX rfl)) (fun i x r hi hx hm _ ih => ?_)
  refine Ev.step (fun k => by rw [dX.l0]) (aO (by omega) (aO (by omega) ?_))
  obtain ⟨q0, q1⟩ := h x hm
  rw [dN hi (by omega), aLZ, hx]
  rw [jR, hx] at ih
  generalize decide ((l.length : Int) ≤ a) = D at ih ⊢
  clear hx h hm
  by_cases z : i = 0
  · subst z
    rw [jS]
    repeat' (first
      | with_reducible refine Ev.bind (fP _ q0) ?_
      | with_reducible refine Ev.bind (fP _ q1) ?_
      | with_reducible refine aO (by omega) ?_
      | with_reducible refine bT (by omega) ?_
      | with_reducible refine fI (fun c => ?_) (fun c => ?_)
      | with_reducible refine aY (fun c => ?_) (fun c => ?_))
    all_goals (first
      | (with_reducible refine aX ?_; simp_all [dE, lt, cR, rX, pT]; done)
      | (with_reducible refine fF (ih) ?_; simp_all [dE, lt, cR, rX, pT]; done))
  · rw [sV z (by omega), aLZ, kS _ _ _ z]
    generalize l.getD (i - 1) jV = y
    have hb := @aIF y.f0 y.f1 x.f0 x.f1
    have hc := @aIC y.f0 y.f1 x.f0 x.f1
    repeat' (first
      | with_reducible refine Ev.bind (fP _ q0) ?_
      | with_reducible refine Ev.bind (fP _ q1) ?_
      | with_reducible refine aO (by omega) ?_
      | with_reducible refine bT (by omega) ?_
      | with_reducible refine fI (fun c => ?_) (fun c => ?_)
      | with_reducible refine aY (fun c => ?_) (fun c => ?_))
    all_goals (first
      | (with_reducible refine aX ?_; simp_all [dE, lt, cR, rX, pT]; done)
      | (with_reducible refine fF (ih) ?_; simp_all [dE, lt, cR, rX, pT]; done))
def nH (x : ByteArray) : List aB → ByteArray × Int × ByteArray × Bool
  | [] => ((⟨#[]⟩ : ByteArray), 0, (⟨#[]⟩ : ByteArray), false)
  | y :: r => if y.f0 = x then (y.f0, y.f1, y.f2, true) else nH x r
theorem iV (x : ByteArray) : ∀ l : List aB, (nH x l).2.2.2 = dQ l x
  | [] => rfl
  | y :: r => by
    rw [show dQ (y :: r) x = (decide (y.f0 = x) || dQ r x) from rfl, ← iV x r, show nH x (y :: r) = if y.f0 = x then (y.f0, y.f1, y.f2, true) else nH x r from rfl]
    by_cases c : y.f0 = x
    · rw [if_pos c, decide_eq_true c]; rfl
    · rw [if_neg c, decide_eq_false c]; rfl
theorem mS (s : List ByteArray) (f : List aD) (p : List aB) (v : List aA) (x : ByteArray) (hp : p.length ≤ 140737488351232) :
    Ev (fun k => bN.f k s f p v x) (nH x p) := by
  unfold bN.f
  refine eO dB p (P := fun i r => Ev (fun k => bN.l0 k p x (i : Int)) (nH x r))
    (by refine Ev.step (fun k => by rw [bN.l0]) ?_; exact bT (by omega) (aX rfl)) (fun i y r hi hx _ _ ih => ?_)
  refine Ev.step (fun k => by rw [bN.l0]) (aO (by omega) (aO (by omega) ?_))
  rw [dN hi (by omega), rdP, hx]
  unfold nH
  refine aY (fun c => aX (by rw [if_pos (cR.1 c)])) (fun c => fF ih (by rw [if_neg (fun e => c (cR.2 e))]))
theorem uR (s : List ByteArray) (f : List aD) (p : List aB) (v : List aA) (hp : p.length ≤ 140737488351232) (hv : v.length ≤ 140737488351232)
    (hz : ∀ x ∈ v, x.f0.size ≤ 140737488351232 ∧ x.f3.size ≤ 140737488351232) : Ev (fun k => aU.l2 k s f p v 0) (jP p v) := by
  refine eO cJ v (P := fun i r => Ev (fun k => aU.l2 k s f p v (i : Int)) (r.all (iW p) && dE eM (ahead cJ v i) r))
    (by refine Ev.step (fun k => by rw [aU.l2]) ?_; exact bT (by omega) (aX rfl)) (fun i x r hi hx hm _ ih => ?_)
  obtain ⟨q0, q1⟩ := hz x hm
  rw [jR, hx] at ih
  have j0 : ∀ (b : Bool) (R : Bool), R = (!b && (r.all (iW p) && dE eM (some x) r)) → Ev (fun k => aU.j0 k s f p v (i : Int) b) R := fun b R hR => by
    subst hR
    refine Ev.step (fun k => by rw [aU.j0]) ?_
    rw [dN hi (by omega)]
    cases b
    · exact bT (by simp) ih
    · exact aO rfl (aX rfl)
  refine Ev.step (fun k => by rw [aU.l2]) (aO (by omega) (aO (by omega) ?_))
  rw [rdV, hx]
  refine Ev.bind (mS s f p v _ hp) (Ev.bind (mS s f p v _ hp) ?_)
  rw [iV, iV]
  clear hx hz hm
  by_cases z : i = 0
  · subst z
    rw [jS]
    repeat' (first | with_reducible refine Ev.bind (fP _ q0) ?_ | with_reducible refine Ev.bind (fP _ q1) ?_ | with_reducible refine aO (by omega) ?_ | with_reducible refine bT (by omega) ?_ | with_reducible refine fI (fun c => ?_) (fun c => ?_))
    all_goals (with_reducible refine j0 _ _ ?_; simp_all [dE, iW, lt])
  · rw [sV z (by omega), rdV, kS _ _ _ z]
    generalize v.getD (i - 1) cJ = y
    repeat' (first | with_reducible refine Ev.bind (fP _ q0) ?_ | with_reducible refine Ev.bind (fP _ q1) ?_ | with_reducible refine aO (by omega) ?_ | with_reducible refine bT (by omega) ?_ | with_reducible refine fI (fun c => ?_) (fun c => ?_))
    all_goals (with_reducible refine j0 _ _ ?_; first | (simp_all [dE, iW, eM, lt]; done) | (simp_all [dE, iW, eM, lt, Bool.and_left_comm]; done))
theorem uS (s : List ByteArray) (f : List aD) (p : List aB) (v : List aA) (hp : p.length ≤ 140737488351232) (hv : v.length ≤ 140737488351232)
    (hz : ∀ x ∈ v, x.f0.size ≤ 140737488351232 ∧ x.f3.size ≤ 140737488351232) (hy : ∀ x ∈ p, x.f0.size ≤ 140737488351232 ∧ x.f2.size ≤ 140737488351232) : Ev (fun k => aU.l1 k s f p v 0) (kU p && jP p v) := by
  have L2 := uR s f p v hp hv hz
  generalize jP p v = T at L2 ⊢
  refine eO dB p (P := fun i r => Ev (fun k => aU.l1 k s f p v (i : Int)) ((r.all hZ && dE eX (ahead dB p i) r) && T))
    (by refine Ev.step (fun k => by rw [aU.l1]) ?_; exact bT (by omega) L2) (fun i x r hi hx hm _ ih => ?_)
  refine Ev.step (fun k => by rw [aU.l1]) (aO (by omega) (aO (by omega) ?_))
  obtain ⟨q0, q1⟩ := hy x hm
  rw [dN hi (by omega), rdP, hx]
  rw [jR, hx] at ih
  clear hx hz hy hm L2
  by_cases d : 0 ≤ x.f1 ∧ x.f1 ≤ 1000
  · have hd := aBO d
    by_cases z : i = 0
    · subst z
      rw [jS]
      repeat' (first
        | with_reducible refine Ev.bind (fP _ q0) ?_
        | with_reducible refine Ev.bind (fP _ q1) ?_
        | with_reducible refine aO (by omega) ?_
        | with_reducible refine bT (by omega) ?_
        | with_reducible refine fI (fun c => ?_) (fun c => ?_)
        | with_reducible refine aY (fun c => ?_) (fun c => ?_))
      all_goals (first
        | (with_reducible refine aX ?_; simp_all [dE, lt, cR, hZ, eX]; done)
        | (with_reducible refine fF (ih) ?_; simp_all [dE, lt, cR, hZ, eX]; done))
    · rw [sV z (by omega), rdP, kS _ _ _ z]
      generalize p.getD (i - 1) dB = y
      repeat' (first
        | with_reducible refine Ev.bind (fP _ q0) ?_
        | with_reducible refine Ev.bind (fP _ q1) ?_
        | with_reducible refine aO (by omega) ?_
        | with_reducible refine bT (by omega) ?_
        | with_reducible refine fI (fun c => ?_) (fun c => ?_)
        | with_reducible refine aY (fun c => ?_) (fun c => ?_))
      all_goals (first
        | (with_reducible refine aX ?_; simp_all [dE, lt, cR, hZ, eX]; done)
        | (with_reducible refine fF (ih) ?_; simp_all [dE, lt, cR, hZ, eX]; done))
  · have hd := aMK d
    refine Ev.bind (fP _ q0) (fI (fun c => aY (fun c1 => aX ?_) (fun c1 => aO (by omega) (aX ?_))) (fun c => aX ?_))
    all_goals simp_all [hZ]
theorem uP (s : List ByteArray) (f : List aD) (p : List aB) (v : List aA) (hs : s.length ≤ 140737488351232) (hf : f.length ≤ 140737488351232) (hp : p.length ≤ 140737488351232) (hv : v.length ≤ 140737488351232)
    (hz : ∀ x ∈ v, x.f0.size ≤ 140737488351232 ∧ x.f3.size ≤ 140737488351232) (hy : ∀ x ∈ p, x.f0.size ≤ 140737488351232 ∧ x.f2.size ≤ 140737488351232) :
    Ev (fun k => aU.l0 k s f p v 0) (f.all (fun x => iQ s x.f0 && iQ s x.f1) && (kU p && jP p v)) := by
  have L1 := uS s f p v hp hv hz hy
  generalize (kU p && jP p v) = T at L1 ⊢
  refine eO cW f (P := fun i r => Ev (fun k => aU.l0 k s f p v (i : Int)) (r.all (fun x => iQ s x.f0 && iQ s x.f1) && T))
    (by refine Ev.step (fun k => by rw [aU.l0]) ?_; exact bT (by omega) L1) (fun i x r hi hx hm _ ih => ?_)
  refine Ev.step (fun k => by rw [aU.l0]) (aO (by omega) (aO (by omega) ?_))
  rw [dN hi (by omega), rdF, hx]
  clear hx hz hy hm L1
  repeat' (first
    | with_reducible refine Ev.bind (uA _ _ hs) ?_
    | with_reducible refine aO (by omega) ?_
    | with_reducible refine bT (by omega) ?_
    | with_reducible refine fI (fun c => ?_) (fun c => ?_)
    | with_reducible refine aY (fun c => ?_) (fun c => ?_))
  all_goals (first
    | (with_reducible refine aX ?_; simp_all [dE, lt, cR]; done)
    | (with_reducible refine fF (ih) ?_; simp_all [dE, lt, cR]; done))
theorem oN {s : List ByteArray} {x : ByteArray} (hn : kA s = true) (h : iQ s x = true) : dK x = true := by
  unfold kA at hn
  rw [Bool.and_eq_true] at hn
  exact List.all_eq_true.1 hn.1 x (iY.1 h)
theorem rH {α β : Type} {p : α → α → Bool} {q : β → β → Bool} (g : α → β) (h : ∀ x y, q (g x) (g y) = p x y) : ∀ (r : List α) (o : Option α), dE q (o.map g) (r.map g) = dE p o r
  | [], o => by cases o <;> rfl
  | x :: r, none => rH g h r (some x)
  | x :: r, some y => by
    show (q (g y) (g x) && dE q (some (g x)) (r.map g)) = (p y x && dE p (some x) r)
    rw [h]; congr 1; exact rH g h r (some x)
theorem yC (s : List ByteArray) (hn : kA s = true) : ∀ f : List aD, ((f.map kH).all rX && f.all (fun x => iQ s x.f0 && iQ s x.f1)) = f.all (pU s)
  | [] => rfl
  | x :: r => by
    rw [List.map_cons, List.all_cons, List.all_cons, List.all_cons, ← yC s hn r]
    have h0 := @oN s x.f0 hn
    have h1 := @oN s x.f1 hn
    unfold rX pU kH
    simp only
    generalize dK x.f0 = a0 at *
    generalize dK x.f1 = a1 at *
    generalize iQ s x.f0 = b0 at *
    generalize iQ s x.f1 = b1 at *
    generalize lt x.f0 x.f1 = c at *
    generalize List.all (List.map _ _) _ = d at *
    generalize List.all _ _ = d2 at *
    revert a0 a1 b0 b1 c d d2
    decide
theorem aDZ (s : List ByteArray) (f : List aD) (hn : kA s = true) : (xJ (f.map kH) && f.all (fun x => iQ s x.f0 && iQ s x.f1)) = nM s f := by
  unfold xJ nM
  rw [show dE pT none (f.map kH) = dE fR none f from rH kH (fun _ _ => rfl) f none]
  rw [← yC s hn f]
  generalize List.all (List.map _ _) _ = d at *
  generalize List.all _ _ = d2 at *
  generalize dE _ _ _ = d3 at *
  revert d d2 d3
  decide
structure SzP (s : List ByteArray) (f : List aD) (p : List aB) (v : List aA) : Prop where
  hs : s.length ≤ 140737488351232
  hf : f.length ≤ 4398046511104
  hp : p.length ≤ 140737488351232
  hv : v.length ≤ 140737488351232
  s1 : ∀ x ∈ s, x.size ≤ 140737488351232
  f1 : ∀ x ∈ f, x.f0.size ≤ 140737488351232 ∧ x.f1.size ≤ 140737488351232
  p1 : ∀ x ∈ p, x.f0.size ≤ 140737488351232 ∧ x.f2.size ≤ 140737488351232
  v1 : ∀ x ∈ v, x.f0.size ≤ 140737488351232 ∧ x.f3.size ≤ 140737488351232
theorem pX (s : List ByteArray) (f : List aD) (p : List aB) (v : List aA) (z : SzP s f p v) :
    Ev (fun k => aU.f k s f p v) (lE s f p v) := by
  unfold aU.f lE
  have hf := z.hf
  have e0 := uP s f p v z.hs (by omega) z.hp z.hv z.v1 z.p1
  have eN := aEP s z.hs z.s1
  have eF := aDS (f.map kH) 12 (by rw [List.length_map]; omega) (fun x hx => by obtain ⟨y, hy, rfl⟩ := List.mem_map.1 hx; exact z.f1 y hy)
  have eP := xW s f p v hf
  have hsame := aDZ s f
  rw [List.length_map, show decide ((f.length : Int) ≤ 12) = decide (f.length ≤ 12) from decide_eq_decide.2 (by omega)] at eF
  generalize xJ (f.map kH) = b1 at eF hsame
  generalize f.all (fun x => iQ s x.f0 && iQ s x.f1) = b2 at e0 hsame
  generalize nM s f = b3 at hsame ⊢
  generalize kU p = b4 at e0 ⊢
  generalize jP p v = b5 at e0 ⊢
  generalize kA s = b6 at eN hsame ⊢
  generalize decide (f.length ≤ 12) = b7 at eF ⊢
  refine aY (fun c => aX ?_) (fun c => Ev.bind eN (fI (fun c6 => ?_) (fun c6 => aX ?_)))
  · rw [decide_eq_false (by omega : ¬ s.length ≤ 8)]; rfl
  · subst c6
    have hsame := hsame rfl
    subst hsame
    rw [decide_eq_true (by omega : s.length ≤ 8)]
    refine Ev.bind eP (Ev.bind eF (fI (fun c1 => ?_) (fun c1 => aX ?_)))
    · rw [Bool.and_eq_true] at c1
      obtain ⟨rfl, rfl⟩ := c1
      refine aY (fun d => aX ?_) (fun d => aY (fun d2 => aX ?_) (fun d2 => fF e0 ?_))
      · rw [decide_eq_false (by omega : ¬ p.length ≤ 14)]; simp
      · rw [decide_eq_false (by omega : ¬ v.length ≤ 18)]; simp
      · rw [decide_eq_true (by omega : p.length ≤ 14), decide_eq_true (by omega : v.length ≤ 18)]; simp
    · clear e0 eN eF
      generalize decide (p.length ≤ 14) = d1
      generalize decide (v.length ≤ 18) = d2
      revert b1 b2 b4 b5 b7 d1 d2
      decide
  · subst c6; simp
def jF (l : List ByteArray) : Prop := l.Pairwise fun x y => lt x y = true
theorem tI {α : Type} {p : α → α → Bool} (ht : ∀ x y z, p x y = true → p y z = true → p x z = true) : ∀ (r : List α) (y : α), dE p (some y) r = true → (∀ x ∈ r, p y x = true) ∧ r.Pairwise fun x y => p x y = true
  | [], _, _ => ⟨fun x h => (by cases h), List.Pairwise.nil⟩
  | x :: r, y, h => by
    have h : (p y x && dE p (some x) r) = true := h
    rw [Bool.and_eq_true] at h
    obtain ⟨g1, g2⟩ := tI ht r x h.2
    refine ⟨fun z hz => ?_, List.pairwise_cons.2 ⟨g1, g2⟩⟩
    rcases List.mem_cons.1 hz with rfl | hz
    · exact h.1
    · exact ht _ _ _ h.1 (g1 z hz)
theorem nA {α : Type} {p : α → α → Bool} (ht : ∀ x y z, p x y = true → p y z = true → p x z = true) (l : List α) (h : dE p none l = true) : l.Pairwise fun x y => p x y = true := by
  cases l with
  | nil => exact List.Pairwise.nil
  | cons x r =>
    have h : dE p (some x) r = true := h
    obtain ⟨g1, g2⟩ := tI ht r x h
    exact List.pairwise_cons.2 ⟨g1, g2⟩
theorem tN : ∀ (l m : List ByteArray), jF l → jF m → (∀ x, x ∈ l ↔ x ∈ m) → l = m
  | [], [], _, _, _ => rfl
  | [], y :: m, _, _, h => by have := (h y).2 (List.mem_cons_self ..); cases this
  | x :: l, [], _, _, h => by have := (h x).1 (List.mem_cons_self ..); cases this
  | x :: l, y :: m, hl, hm, h => by
    obtain ⟨l1, l2⟩ := List.pairwise_cons.1 hl
    obtain ⟨m1, m2⟩ := List.pairwise_cons.1 hm
    have e : x = y := by
      rcases List.mem_cons.1 ((h x).1 (List.mem_cons_self ..)) with e | hx
      · exact e
      · rcases List.mem_cons.1 ((h y).2 (List.mem_cons_self ..)) with e | hy
        · exact e.symm
        · have := lM (l1 y hy); rw [m1 x hx] at this; cases this
    subst e
    congr 1
    refine tN l m l2 m2 (fun z => ⟨fun hz => ?_, fun hz => ?_⟩)
    · rcases List.mem_cons.1 ((h z).1 (List.mem_cons_of_mem _ hz)) with e | hz'
      · subst e; exact absurd rfl (nI (l1 z hz))
      · exact hz'
    · rcases List.mem_cons.1 ((h z).2 (List.mem_cons_of_mem _ hz)) with e | hz'
      · subst e; exact absurd rfl (nI (m1 z hz))
      · exact hz'
def kF (x : ByteArray) : List ByteArray → List ByteArray
  | [] => [x]
  | y :: r => if lt y x = true then y :: kF x r else if y = x then y :: r else x :: y :: r
theorem nT (x z : ByteArray) : ∀ l : List ByteArray, z ∈ kF x l ↔ z = x ∨ z ∈ l
  | [] => by simp [kF]
  | y :: r => by
    have ih := nT x z r
    unfold kF
    split
    · rw [List.mem_cons, ih, List.mem_cons]
      constructor
      · rintro (h | h | h)
        · exact .inr (.inl h)
        · exact .inl h
        · exact .inr (.inr h)
      · rintro (h | h | h)
        · exact .inr (.inl h)
        · exact .inl h
        · exact .inr (.inr h)
    · split
      · rename_i e
        subst e
        rw [List.mem_cons]
        exact ⟨fun h => .inr h, fun h => h.elim .inl id⟩
      · rw [List.mem_cons]
theorem oL (x : ByteArray) : ∀ l : List ByteArray, jF l → jF (kF x l)
  | [], _ => List.pairwise_singleton _ _
  | y :: r, h => by
    obtain ⟨h1, h2⟩ := List.pairwise_cons.1 h
    unfold kF
    split
    · rename_i c
      refine List.pairwise_cons.2 ⟨fun z hz => ?_, oL x r h2⟩
      rcases (nT x z r).1 hz with rfl | hz
      · exact c
      · exact h1 z hz
    · rename_i c
      split
      · exact h
      · rename_i e
        have hlt : lt x y = true := by
          rcases mP x y with q | q | q
          · exact q
          · exact absurd q.symm e
          · exact absurd q c
        refine List.pairwise_cons.2 ⟨fun z hz => ?_, h⟩
        rcases List.mem_cons.1 hz with rfl | hz
        · exact hlt
        · exact lt_trans hlt (h1 z hz)
theorem wI {l : List ByteArray} (h : jF l) : l.Nodup := List.Pairwise.imp (fun h => nI h) h
theorem aFZ (a : List ByteArray) (h : a.length ≤ 4611686018427387903) (hn : a.Nodup) : ∃ r, Ev (fun _ => sort_Strings.f a) r ∧ jF r ∧ ∀ x, x ∈ r ↔ x ∈ a := by
  have e : mB a = some (rW a) := by unfold mB; rw [if_pos (by omega)]
  refine ⟨rW a, ?_, aFY e hn, aDM e⟩
  unfold sort_Strings.f
  rw [e]
  exact Ev.now _
def xZ (a b : List ByteArray) : List ByteArray := b.foldl (fun l x => kF x l) a
theorem rY : ∀ (b a : List ByteArray), jF a → jF (xZ a b)
  | [], _, h => h
  | x :: b, a, h => rY b _ (oL x a h)
theorem yZ (z : ByteArray) : ∀ (b a : List ByteArray), z ∈ xZ a b ↔ z ∈ a ∨ z ∈ b
  | [], a => by simp [xZ]
  | x :: b, a => by
    rw [show xZ a (x :: b) = xZ (kF x a) b from rfl, yZ z b, nT, List.mem_cons]
    constructor
    · rintro ((h | h) | h)
      · exact .inr (.inl h)
      · exact .inl h
      · exact .inr (.inr h)
    · rintro (h | h | h)
      · exact .inl (.inr h)
      · exact .inl (.inl h)
      · exact .inr h
theorem aHZ {a b c : List ByteArray} (hc : jF c) (ha : jF a) (h : ∀ x, x ∈ c ↔ x ∈ a ∨ x ∈ b) : c = xZ a b :=
  tN _ _ hc (rY b a ha) (fun x => by rw [h, yZ])
theorem aGY (a b : List ByteArray) (ha : a.Nodup) (h : a.length + b.length ≤ 8796093022207) : ∃ r, Ev (fun k => eQ.f k a b) r ∧ jF r ∧ ∀ x, x ∈ r ↔ x ∈ a ∨ x ∈ b := by
  have key := eO ByteArray.empty b (P := fun i d => i + d.length = b.length → ∀ acc : List ByteArray, acc.Nodup → acc.length ≤ a.length + i → ∃ r, Ev (fun k => eQ.l0 k a b acc (i : Int)) r ∧ jF r ∧ ∀ x, x ∈ r ↔ x ∈ acc ∨ x ∈ d)
    (fun _ acc hnd hacc => by
      obtain ⟨r, h1, h2, h3⟩ := aFZ acc (by omega) hnd
      refine ⟨r, Ev.step (fun k => by rw [eQ.l0]) (bT (by omega) (Ev.bind h1 (aX rfl))), h2, fun x => by rw [h3]; simp⟩)
    (fun i y d hi hy hm hd ih hl acc hnd hacc => by
      rw [List.length_cons] at hl
      have hh := uA acc y (by omega)
      cases c : iQ acc y with
      | true =>
        rw [c] at hh
        obtain ⟨r, h1, h2, h3⟩ := ih (by omega) acc hnd (by omega)
        refine ⟨r, Ev.step (fun k => by rw [eQ.l0]) (aO (by omega) (aO (by omega) ?_)), h2, fun x => ?_⟩
        · rw [dN hi (by omega), eZ, hy]
          exact Ev.bind hh (aO rfl h1)
        · rw [h3, List.mem_cons]
          have := iY.1 c
          constructor
          · rintro (q | q)
            · exact .inl q
            · exact .inr (.inr q)
          · rintro (q | q | q)
            · exact .inl q
            · exact .inl (q ▸ this)
            · exact .inr q
      | false =>
        rw [c] at hh
        have hni : y ∉ acc := fun q => by rw [iY.2 q] at c; cases c
        obtain ⟨r, h1, h2, h3⟩ := ih (by omega) (acc ++ [y]) (List.nodup_append.2 ⟨hnd, by simp, fun u hu v hv e => by rw [List.mem_singleton] at hv; subst hv; exact hni (e ▸ hu)⟩) (by rw [List.length_append, List.length_singleton]; omega)
        refine ⟨r, Ev.step (fun k => by rw [eQ.l0]) (aO (by omega) (aO (by omega) ?_)), h2, fun x => ?_⟩
        · rw [dN hi (by omega), eZ, hy]
          exact Ev.bind hh (bT (by simp) (aO (by omega) h1))
        · rw [h3, List.mem_cons, List.mem_append, List.mem_singleton, or_assoc])
  obtain ⟨r, h1, h2, h3⟩ := key (by omega) a ha (by omega)
  refine ⟨r, ?_, h2, h3⟩
  unfold eQ.f
  exact aO (by omega) h1
theorem aIQ (a b : List ByteArray) (ha : jF a) (h : a.length + b.length ≤ 8796093022207) : Ev (fun k => eQ.f k a b) (xZ a b) := by
  obtain ⟨r, h1, h2, h3⟩ := aGY a b (wI ha) h
  exact aHZ h2 ha h3 ▸ h1
theorem lQ {n : Nat} (h : n < 10) : Lib.decDigits n = [UInt8.ofNat (48 + n)] := by rw [Lib.decDigits, dif_pos h]
theorem qA {n : Nat} (h : ¬ n < 10) : Lib.decDigits n = Lib.decDigits (n / 10) ++ [UInt8.ofNat (48 + n % 10)] := by rw [Lib.decDigits, dif_neg h]
theorem wG : ∀ (m n : Nat), n ≤ m → (Lib.decDigits n).length ≤ n + 1
  | m, n, h => by
    by_cases c : n < 10
    · rw [lQ c]; simp
    · rw [qA c]
      have := wG (n / 10) (n / 10) (Nat.le_refl _)
      simp; omega
termination_by m n => n
decreasing_by omega
def mD (n : Int) : ByteArray := ⟨(Lib.decDigits n.toNat).toArray⟩
theorem oR {n : Int} (h0 : 0 ≤ n) (h : n ≤ 10000) : (mD n).size ≤ 10001 := by
  have := wG n.toNat n.toNat (Nat.le_refl _)
  show (Lib.decDigits n.toNat).toArray.size ≤ 10001
  rw [List.size_toArray]; omega
theorem aIS (n : Int) (h : 0 ≤ n) (h1 : n ≤ 10000) : Ev (fun _ => strconv_Itoa.f n) (mD n) := by
  unfold strconv_Itoa.f wA
  rw [if_pos ⟨by omega, by omega⟩]
  exact aX (by unfold aKL Lib.itoa mD; rw [if_neg (by omega)])
theorem dig (d : Int) (h0 : 0 ≤ d) (h1 : d < 10) : UInt8.ofNat (IntKind.wrap .u8 (wrap64 (48 + d))).toNat = UInt8.ofNat (48 + d.toNat) := by
  have : d = 0 ∨ d = 1 ∨ d = 2 ∨ d = 3 ∨ d = 4 ∨ d = 5 ∨ d = 6 ∨ d = 7 ∨ d = 8 ∨ d = 9 := by omega
  rcases this with rfl | rfl | rfl | rfl | rfl | rfl | rfl | rfl | rfl | rfl <;> decide +kernel
theorem aLB (a b : List UInt8) : (⟨a.toArray⟩ : ByteArray) ++ ⟨b.toArray⟩ = ⟨(a ++ b).toArray⟩ := by
  apply ByteArray.ext
  simp [ByteArray.data_append]
theorem gN : ∀ (m : Nat) (n : Int), 0 ≤ n → n ≤ 10000 → n.toNat ≤ m → Ev (fun k => cN.f k n) (mD n)
  | m, n, h0, h1, hm => by
    refine Ev.step (fun k => by rw [cN.f]) ?_
    by_cases c : n < 10
    · refine aO c (aX ?_)
      unfold mD
      rw [lQ (by omega), dig n h0 c]
    · have e1 : wrap64 (Int.tdiv n 10) = n / 10 := by rw [Int.tdiv_eq_ediv_of_nonneg h0]; exact w64 (by omega) (by omega)
      have e2 : Int.tmod n 10 = n % 10 := Int.tmod_eq_emod_of_nonneg h0
      rw [e1, e2, dig (n % 10) (by omega) (by omega)]
      have hs := oR (n := n / 10) (by omega) (by omega)
      refine bT c (Ev.bind (gN (n / 10).toNat (n / 10) (by omega) (by omega) (Nat.le_refl _)) (aO ?_ (aX ?_)))
      · have : (⟨#[UInt8.ofNat (48 + (n % 10).toNat)]⟩ : ByteArray).size = 1 := rfl
        rw [this]; omega
      · unfold mD
        rw [qA (n := n.toNat) (by omega), show (n / 10).toNat = n.toNat / 10 by omega, show (n % 10).toNat = n.toNat % 10 by omega]
        exact aLB _ _
termination_by m n => n.toNat
decreasing_by omega
theorem z1 : (⟨#[32]⟩ : ByteArray).size = 1 := rfl
theorem zn : (⟨#[10]⟩ : ByteArray).size = 1 := rfl
theorem z0 : (⟨#[]⟩ : ByteArray).size = 0 := rfl
theorem zs : (⟨#[115, 116, 117, 102, 102, 32]⟩ : ByteArray).size = 6 := rfl
theorem zf : (⟨#[102, 111, 101, 32]⟩ : ByteArray).size = 4 := rfl
theorem zp : (⟨#[118, 101, 115, 115, 101, 108, 32]⟩ : ByteArray).size = 7 := rfl
theorem zj : (⟨#[106, 111, 105, 110, 116, 32]⟩ : ByteArray).size = 6 := rfl
theorem zv : (⟨#[118, 97, 108, 118, 101, 32]⟩ : ByteArray).size = 6 := rfl
def kJ (x : ByteArray) : ByteArray := (⟨#[115, 116, 117, 102, 102, 32]⟩ : ByteArray) ++ (x ++ (⟨#[10]⟩ : ByteArray))
def jO (x : aD) : ByteArray := (⟨#[102, 111, 101, 32]⟩ : ByteArray) ++ (x.f0 ++ ((⟨#[32]⟩ : ByteArray) ++ (x.f1 ++ (⟨#[10]⟩ : ByteArray))))
def iN (x : aB) : ByteArray := if x.f1 > 0 then (⟨#[118, 101, 115, 115, 101, 108, 32]⟩ : ByteArray) ++ (x.f0 ++ ((⟨#[32]⟩ : ByteArray) ++ (mD x.f1 ++ ((⟨#[32]⟩ : ByteArray) ++ (x.f2 ++ (⟨#[10]⟩ : ByteArray)))))) else (⟨#[106, 111, 105, 110, 116, 32]⟩ : ByteArray) ++ (x.f0 ++ ((⟨#[32]⟩ : ByteArray) ++ (x.f2 ++ (⟨#[10]⟩ : ByteArray))))
def iH (x : aA) : ByteArray := (⟨#[118, 97, 108, 118, 101, 32]⟩ : ByteArray) ++ (x.f0 ++ ((⟨#[32]⟩ : ByteArray) ++ (x.f1 ++ ((⟨#[32]⟩ : ByteArray) ++ (x.f2 ++ ((⟨#[32]⟩ : ByteArray) ++ (x.f3 ++ (⟨#[10]⟩ : ByteArray))))))))
def cat {α : Type} (g : α → ByteArray) : List α → ByteArray → ByteArray
  | [], a => a
  | x :: r, a => cat g r (a ++ g x)
theorem oK {α : Type} (g : α → ByteArray) (c : Nat) : ∀ (l : List α) (a : ByteArray), (∀ x ∈ l, (g x).size ≤ c) → (cat g l a).size ≤ a.size + l.length * c
  | [], a, _ => by simp [cat]
  | x :: r, a, h => by
    have h1 := h x (List.mem_cons_self ..)
    have h2 := oK g c r (a ++ g x) (fun y hy => h y (List.mem_cons_of_mem _ hy))
    rw [ByteArray.size_append] at h2
    rw [cat, List.length_cons, Nat.add_mul]
    omega
theorem mN {α β : Type} {f : Nat → α → Option β} {a b : α} {r : β} (h : Ev (fun k => f k b) r) (e : a = b) : Ev (fun k => f k a) r := e ▸ h
structure PrV (x : aA) : Prop where
  a0 : x.f0.size ≤ 8
  a1 : x.f1.size ≤ 8
  a2 : x.f2.size ≤ 8
  a3 : x.f3.size ≤ 8
structure PrP (x : aB) : Prop where
  a0 : x.f0.size ≤ 8
  a2 : x.f2.size ≤ 8
  b1 : 0 ≤ x.f1 ∧ x.f1 ≤ 1000
structure aKH (s : List ByteArray) (f : List aD) (p : List aB) (v : List aA) : Prop where
  ls : s.length ≤ 100
  lf : f.length ≤ 100
  lp : p.length ≤ 100
  lv : v.length ≤ 100
  s : ∀ x ∈ s, x.size ≤ 8
  f : ∀ x ∈ f, x.f0.size ≤ 8 ∧ x.f1.size ≤ 8
  p : ∀ x ∈ p, PrP x
  v : ∀ x ∈ v, PrV x
theorem jA {s : ByteArray} (h : dK s = true) : s.size ≤ 8 := by
  unfold dK at h
  rw [Bool.and_eq_true, decide_eq_true_iff] at h
  exact h.1.2
theorem qB {a b c : Int} (h : inB a b c = true) : b ≤ a ∧ a ≤ c := of_decide_eq_true h
theorem pH {p : List aB} (h : ∀ x ∈ p, hZ x = true) {x : ByteArray} (hx : dQ p x = true) : x.size ≤ 8 := by
  unfold dQ at hx
  rw [List.any_eq_true] at hx
  obtain ⟨y, hy, e⟩ := hx
  have e := of_decide_eq_true e
  have := h y hy
  unfold hZ at this
  rw [Bool.and_eq_true] at this
  rw [← e]; exact jA this.1
theorem sY {x : ByteArray} (h : x.size ≤ 8) : (kJ x).size ≤ 20000 := by
  unfold kJ
  simp only [ByteArray.size_append, zs, zn]; omega
theorem uD {x : aD} (h : x.f0.size ≤ 8 ∧ x.f1.size ≤ 8) : (jO x).size ≤ 20000 := by
  obtain ⟨h1, h2⟩ := h
  unfold jO
  simp only [ByteArray.size_append, zf, z1, zn]; omega
theorem pQ {x : aB} (h : PrP x) : (iN x).size ≤ 20000 := by
  have h1 := oR h.b1.1 (by have := h.b1.2; omega)
  have := h.a0; have := h.a2
  unfold iN
  split <;> (simp only [ByteArray.size_append, zp, zj, z1, zn]; omega)
theorem tC {x : aA} (h : PrV x) : (iH x).size ≤ 20000 := by
  have := h.a0; have := h.a1; have := h.a2; have := h.a3
  unfold iH
  simp only [ByteArray.size_append, zv, z1, zn]; omega
section
variable (s : List ByteArray) (f : List aD) (p : List aB) (v : List aA) (h : aKH s f p v)
include h
theorem aMT (acc : ByteArray) (ha : acc.size ≤ 10000000) : Ev (fun k => aS.l3 k v acc 0) (cat iH v acc) := by
  have key := eO cJ v (P := fun i r => i ≤ v.length → ∀ acc : ByteArray, acc.size ≤ 10000000 + i * 20000 → Ev (fun k => aS.l3 k v acc (i : Int)) (cat iH r acc))
    (fun _ acc _ => by refine Ev.step (fun k => by rw [aS.l3]) ?_; exact bT (by omega) (aX rfl)) (fun i x r hi hx hm _ ih _ acc ha => ?_)
  · exact key (by omega) _ (by omega)
  have hv := h.v x hm
  have hs := tC hv
  have := hv.a0; have := hv.a1; have := hv.a2; have := hv.a3; have := h.lv
  refine Ev.step (fun k => by rw [aS.l3]) (aO (by omega) (aO (by omega) ?_))
  rw [rdV, hx, dN hi (by omega)]
  repeat' (first | (refine aO ?hh ?_; (case hh => ((try simp only [ByteArray.size_append, zv, z1, zn]); omega))) | fail)
  exact mN (f := fun k a => aS.l3 k v a ((i + 1 : Nat) : Int)) (ih (by omega) _ (by rw [ByteArray.size_append]; omega)) (by simp only [iH, ByteArray.append_assoc])
theorem aNC (acc : ByteArray) (ha : acc.size ≤ 10000000) : Ev (fun k => aT.l3 k v acc 0) (cat iH v acc) := by
  have key := eO cJ v (P := fun i r => i ≤ v.length → ∀ acc : ByteArray, acc.size ≤ 10000000 + i * 20000 → Ev (fun k => aT.l3 k v acc (i : Int)) (cat iH r acc))
    (fun _ acc _ => by refine Ev.step (fun k => by rw [aT.l3]) ?_; exact bT (by omega) (aX rfl)) (fun i x r hi hx hm _ ih _ acc ha => ?_)
  · exact key (by omega) _ (by omega)
  have hv := h.v x hm
  have hs := tC hv
  have := hv.a0; have := hv.a1; have := hv.a2; have := hv.a3; have := h.lv
  refine Ev.step (fun k => by rw [aT.l3]) (aO (by omega) (aO (by omega) ?_))
  rw [rdV, hx, dN hi (by omega)]
  repeat' (first | (refine aO ?hh ?_; (case hh => ((try simp only [ByteArray.size_append, zv, z1, zn]); omega))) | fail)
  exact mN (f := fun k a => aT.l3 k v a ((i + 1 : Nat) : Int)) (ih (by omega) _ (by rw [ByteArray.size_append]; omega)) (by simp only [iH, ByteArray.append_assoc])
theorem aMF (acc : ByteArray) (ha : acc.size ≤ 7000000) : Ev (fun k => aS.l2 k p v acc 0) (cat iH v (cat iN p acc)) := by
  have key := eO dB p (P := fun i r => i ≤ p.length → ∀ acc : ByteArray, acc.size ≤ 7000000 + i * 20000 → Ev (fun k => aS.l2 k p v acc (i : Int)) (cat iH v (cat iN r acc)))
    (fun _ acc hac => by have := h.lp; refine Ev.step (fun k => by rw [aS.l2]) ?_; exact bT (by omega) (aMT s f p v h acc (by omega))) (fun i x r hi hx hm _ ih _ acc ha => ?_)
  · exact key (by omega) _ (by omega)
  have hp := h.p x hm
  have hs := pQ hp
  have hd := oR hp.b1.1 (by have := hp.b1.2; omega)
  have hb := hp.b1
  have := hp.a0; have := hp.a2; have := h.lp
  refine Ev.step (fun k => by rw [aS.l2]) (aO (by omega) (aO (by omega) ?_))
  rw [rdP, hx, dN hi (by omega)]
  refine aY (fun c => ?_) (fun c => ?_)
  · repeat' (first | (refine aO ?hh ?_; (case hh => ((try simp only [ByteArray.size_append, zp, z1, zn]); omega))) | fail)
    refine Ev.bind (gN _ _ hb.1 (by omega) (Nat.le_refl _)) ?_
    repeat' (first | (refine aO ?hh ?_; (case hh => ((try simp only [ByteArray.size_append, zp, z1, zn]); omega))) | fail)
    exact mN (f := fun k a => aS.l2 k p v a ((i + 1 : Nat) : Int)) (ih (by omega) _ (by rw [ByteArray.size_append]; omega)) (by simp only [iN, if_pos c, ByteArray.append_assoc])
  · repeat' (first | (refine aO ?hh ?_; (case hh => ((try simp only [ByteArray.size_append, zj, z1, zn]); omega))) | fail)
    exact mN (f := fun k a => aS.l2 k p v a ((i + 1 : Nat) : Int)) (ih (by omega) _ (by rw [ByteArray.size_append]; omega)) (by simp only [iN, if_neg c, ByteArray.append_assoc])
theorem aMP (acc : ByteArray) (ha : acc.size ≤ 7000000) : Ev (fun k => aT.l2 k p v acc 0) (cat iH v (cat iN p acc)) := by
  have key := eO dB p (P := fun i r => i ≤ p.length → ∀ acc : ByteArray, acc.size ≤ 7000000 + i * 20000 → Ev (fun k => aT.l2 k p v acc (i : Int)) (cat iH v (cat iN r acc)))
    (fun _ acc hac => by have := h.lp; refine Ev.step (fun k => by rw [aT.l2]) ?_; exact bT (by omega) (aNC s f p v h acc (by omega))) (fun i x r hi hx hm _ ih _ acc ha => ?_)
  · exact key (by omega) _ (by omega)
  have hp := h.p x hm
  have hs := pQ hp
  have hd := oR hp.b1.1 (by have := hp.b1.2; omega)
  have hb := hp.b1
  have := hp.a0; have := hp.a2; have := h.lp
  refine Ev.step (fun k => by rw [aT.l2]) (aO (by omega) (aO (by omega) ?_))
  rw [rdP, hx, dN hi (by omega)]
  refine aY (fun c => ?_) (fun c => ?_)
  · repeat' (first | (refine aO ?hh ?_; (case hh => ((try simp only [ByteArray.size_append, zp, z1, zn]); omega))) | fail)
    refine Ev.bind (aIS _ hb.1 (by omega)) ?_
    repeat' (first | (refine aO ?hh ?_; (case hh => ((try simp only [ByteArray.size_append, zp, z1, zn]); omega))) | fail)
    exact mN (f := fun k a => aT.l2 k p v a ((i + 1 : Nat) : Int)) (ih (by omega) _ (by rw [ByteArray.size_append]; omega)) (by simp only [iN, if_pos c, ByteArray.append_assoc])
  · repeat' (first | (refine aO ?hh ?_; (case hh => ((try simp only [ByteArray.size_append, zj, z1, zn]); omega))) | fail)
    exact mN (f := fun k a => aT.l2 k p v a ((i + 1 : Nat) : Int)) (ih (by omega) _ (by rw [ByteArray.size_append]; omega)) (by simp only [iN, if_neg c, ByteArray.append_assoc])
theorem aNG (acc : ByteArray) (ha : acc.size ≤ 4000000) : Ev (fun k => aS.l1 k f p v acc 0) (cat iH v (cat iN p (cat jO f acc))) := by
  have key := eO cW f (P := fun i r => i ≤ f.length → ∀ acc : ByteArray, acc.size ≤ 4000000 + i * 20000 → Ev (fun k => aS.l1 k f p v acc (i : Int)) (cat iH v (cat iN p (cat jO r acc))))
    (fun _ acc hac => by have := h.lf; refine Ev.step (fun k => by rw [aS.l1]) ?_; exact bT (by omega) (aMF s f p v h acc (by omega))) (fun i x r hi hx hm _ ih _ acc ha => ?_)
  · exact key (by omega) _ (by omega)
  obtain ⟨h1, h2⟩ := h.f x hm
  have hs := uD ⟨h1, h2⟩
  have := h.lf
  refine Ev.step (fun k => by rw [aS.l1]) (aO (by omega) ?_)
  rw [rdF, hx, dN hi (by omega)]
  repeat' (first | (refine aO ?hh ?_; (case hh => ((try simp only [ByteArray.size_append, zf, z1, zn]); omega))) | fail)
  exact mN (f := fun k a => aS.l1 k f p v a ((i + 1 : Nat) : Int)) (ih (by omega) _ (by rw [ByteArray.size_append]; omega)) (by simp only [jO, ByteArray.append_assoc])
theorem aNA (acc : ByteArray) (ha : acc.size ≤ 4000000) : Ev (fun k => aT.l1 k f p v acc 0) (cat iH v (cat iN p (cat jO f acc))) := by
  have key := eO cW f (P := fun i r => i ≤ f.length → ∀ acc : ByteArray, acc.size ≤ 4000000 + i * 20000 → Ev (fun k => aT.l1 k f p v acc (i : Int)) (cat iH v (cat iN p (cat jO r acc))))
    (fun _ acc hac => by have := h.lf; refine Ev.step (fun k => by rw [aT.l1]) ?_; exact bT (by omega) (aMP s f p v h acc (by omega))) (fun i x r hi hx hm _ ih _ acc ha => ?_)
  · exact key (by omega) _ (by omega)
  obtain ⟨h1, h2⟩ := h.f x hm
  have hs := uD ⟨h1, h2⟩
  have := h.lf
  refine Ev.step (fun k => by rw [aT.l1]) (aO (by omega) ?_)
  rw [rdF, hx, dN hi (by omega)]
  repeat' (first | (refine aO ?hh ?_; (case hh => ((try simp only [ByteArray.size_append, zf, z1, zn]); omega))) | fail)
  exact mN (f := fun k a => aT.l1 k f p v a ((i + 1 : Nat) : Int)) (ih (by omega) _ (by rw [ByteArray.size_append]; omega)) (by simp only [jO, ByteArray.append_assoc])
theorem aMY (acc : ByteArray) (ha : acc.size ≤ 1000000) : Ev (fun k => aS.l0 k s f p v acc 0) (cat iH v (cat iN p (cat jO f (cat kJ s acc)))) := by
  have key := eO ByteArray.empty s (P := fun i r => i ≤ s.length → ∀ acc : ByteArray, acc.size ≤ 1000000 + i * 20000 → Ev (fun k => aS.l0 k s f p v acc (i : Int)) (cat iH v (cat iN p (cat jO f (cat kJ r acc)))))
    (fun _ acc hac => by have := h.ls; refine Ev.step (fun k => by rw [aS.l0]) ?_; exact bT (by omega) (aNG s f p v h acc (by omega))) (fun i x r hi hx hm _ ih _ acc ha => ?_)
  · exact key (by omega) _ (by omega)
  have h1 := h.s x hm
  have hs := sY h1
  have := h.ls
  refine Ev.step (fun k => by rw [aS.l0]) (aO (by omega) ?_)
  rw [eZ, hx, dN hi (by omega)]
  repeat' (first | (refine aO ?hh ?_; (case hh => ((try simp only [ByteArray.size_append, zs, z1, zn]); omega))) | fail)
  exact mN (f := fun k a => aS.l0 k s f p v a ((i + 1 : Nat) : Int)) (ih (by omega) _ (by rw [ByteArray.size_append]; omega)) (by simp only [kJ, ByteArray.append_assoc])
theorem aMN (acc : ByteArray) (ha : acc.size ≤ 1000000) : Ev (fun k => aT.l0 k s f p v acc 0) (cat iH v (cat iN p (cat jO f (cat kJ s acc)))) := by
  have key := eO ByteArray.empty s (P := fun i r => i ≤ s.length → ∀ acc : ByteArray, acc.size ≤ 1000000 + i * 20000 → Ev (fun k => aT.l0 k s f p v acc (i : Int)) (cat iH v (cat iN p (cat jO f (cat kJ r acc)))))
    (fun _ acc hac => by have := h.ls; refine Ev.step (fun k => by rw [aT.l0]) ?_; exact bT (by omega) (aNA s f p v h acc (by omega))) (fun i x r hi hx hm _ ih _ acc ha => ?_)
  · exact key (by omega) _ (by omega)
  have h1 := h.s x hm
  have hs := sY h1
  have := h.ls
  refine Ev.step (fun k => by rw [aT.l0]) (aO (by omega) ?_)
  rw [eZ, hx, dN hi (by omega)]
  repeat' (first | (refine aO ?hh ?_; (case hh => ((try simp only [ByteArray.size_append, zs, z1, zn]); omega))) | fail)
  exact mN (f := fun k a => aT.l0 k s f p v a ((i + 1 : Nat) : Int)) (ih (by omega) _ (by rw [ByteArray.size_append]; omega)) (by simp only [kJ, ByteArray.append_assoc])
end
def kT (s : List ByteArray) (f : List aD) (p : List aB) (v : List aA) : ByteArray := cat iH v (cat iN p (cat jO f (cat kJ s (⟨#[]⟩ : ByteArray))))
theorem aBR {s : List ByteArray} {f : List aD} {p : List aB} {v : List aA} (h : lE s f p v = true) : aKH s f p v := by
  simp only [lE, Bool.and_eq_true, decide_eq_true_eq] at h
  obtain ⟨⟨l1, l2⟩, ⟨hn, hf⟩, ⟨l3, hp⟩, l4, hv⟩ := h
  have hn' := hn
  unfold kA at hn'
  unfold nM at hf
  unfold kU at hp
  unfold jP at hv
  rw [Bool.and_eq_true] at hn' hf hp hv
  have hpl := List.all_eq_true.1 hp.1
  refine ⟨by omega, by omega, by omega, by omega, fun x hx => jA (List.all_eq_true.1 hn'.1 x hx), fun x hx => ?_, fun x hx => ?_, fun x hx => ?_⟩
  · have := List.all_eq_true.1 hf.1 x hx
    simp only [pU, Bool.and_eq_true] at this
    exact ⟨jA (oN hn this.2.1), jA (oN hn this.2.2)⟩
  · have := hpl x hx
    simp only [hZ, Bool.and_eq_true] at this
    have h2 := qB this.2.1
    exact ⟨jA this.1, jA this.2.2, by omega⟩
  · have := List.all_eq_true.1 hv.1 x hx
    simp only [iW, Bool.and_eq_true] at this
    exact ⟨jA this.1, pH hpl this.2.2.1, pH hpl this.2.2.2.1, jA this.2.2.2.2⟩
theorem aGS (a b : Nat) (ha : a < 2 ^ 62) (hb : b < 2 ^ 62) : aBC .i64 (a : Int) (b : Int) = ((a ^^^ b : Nat) : Int) := by
  have hx : a ^^^ b < 2 ^ 62 := Nat.xor_lt_two_pow ha hb
  have ha' : a % 2 ^ IntKind.i64.bits = a := Nat.mod_eq_of_lt (Nat.lt_trans ha (by decide))
  have hb' : b % 2 ^ IntKind.i64.bits = b := Nat.mod_eq_of_lt (Nat.lt_trans hb (by decide))
  have e : aBC .i64 (a : Int) (b : Int) = IntKind.i64.wrap ((a ^^^ b : Nat) : Int) := by
    simp only [aBC, BitVec.ofInt_natCast, BitVec.toNat_xor, BitVec.toNat_ofNat, ha', hb']
  rw [e, IntKind.wrap_i64]
  generalize a ^^^ b = n at hx ⊢
  have : (2 : Nat) ^ 62 = 4611686018427387904 := by decide
  omega
theorem aAK {a b : Int} (h0 : 0 ≤ a) (h1 : a ≤ 1000000000000000) (h2 : 0 ≤ b) (h3 : b ≤ 1000000000000000) : 0 ≤ aBC .i64 a b := by
  obtain ⟨m, rfl⟩ : ∃ m : Nat, a = (m : Int) := ⟨a.toNat, by omega⟩
  obtain ⟨n, rfl⟩ : ∃ n : Nat, b = (n : Int) := ⟨b.toNat, by omega⟩
  rw [aGS m n (by have : (2 : Nat) ^ 62 = 4611686018427387904 := by decide
                  omega) (by have : (2 : Nat) ^ 62 = 4611686018427387904 := by decide
                             omega)]
  omega
structure iE (b : List Int) : Prop where
  len : b.length ≤ 2000
  byte : ∀ i, i < b.length → 0 ≤ b.getD i 0 ∧ b.getD i 0 ≤ 255
theorem iE.rd {b : List Int} (h : iE b) (i : Int) (h0 : 0 ≤ i) (h1 : i < b.length) : 0 ≤ rd b i ∧ rd b i ≤ 255 := by
  obtain ⟨n, rfl⟩ : ∃ n : Nat, i = (n : Int) := ⟨i.toNat, by omega⟩
  rw [aKW]
  exact h.byte n (by omega)
theorem eY {b : List Int} (hb : iE b) (p n : Int) (hp : 0 ≤ p) (hp1 : p ≤ 1000000000) (hn : n ≤ 1000000000) :
    ∃ v, (0 ≤ v ∧ (1 ≤ n → v < n) ∧ (n < 1 → v = 0)) ∧ aW.f b p n = some (v, b, p + 1) := by
  unfold aW.f
  have hw : wrap64 (wrap64 (p + 1) - 1) = p := by rw [w64 (x := p + 1) (by omega) (by omega), w64 (by omega) (by omega)]; omega
  rw [hw, w64 (x := p + 1) (by omega) (by omega)]
  by_cases c : n < 1
  · exact ⟨0, ⟨by omega, by omega, by omega⟩, by rw [if_pos c]⟩
  by_cases e : (b.length : Int) = 0
  · exact ⟨0, ⟨by omega, by omega, by omega⟩, by rw [if_neg c, if_pos e]⟩
  have hl := hb.len
  have fin : ∀ x : Int, 0 ≤ x → (0 ≤ Int.tmod x n ∧ (1 ≤ n → Int.tmod x n < n) ∧ (n < 1 → Int.tmod x n = 0)) := fun x hx => by
    rw [Int.tmod_eq_emod_of_nonneg hx]
    exact ⟨Int.emod_nonneg _ (by omega), fun _ => Int.emod_lt_of_pos _ (by omega), fun q => by omega⟩
  rw [if_neg c, if_neg e]
  by_cases q : p < (b.length : Int)
  · have hr := hb.rd p hp q
    exact ⟨_, fin (wrap64 (rd b p)) (by rw [w64 (by omega) (by omega)]; omega), by rw [if_pos q, if_pos hp, if_pos (by omega)]⟩
  have h7 : wrap64 (wrap64 (p * 7) + 3) = p * 7 + 3 := by rw [w64 (x := p * 7) (by omega) (by omega), w64 (by omega) (by omega)]
  have m1 : Int.tmod p (b.length : Int) = p % (b.length : Int) := Int.tmod_eq_emod_of_nonneg hp
  have m2 : Int.tmod (p * 7 + 3) (b.length : Int) = (p * 7 + 3) % (b.length : Int) := Int.tmod_eq_emod_of_nonneg (by omega)
  have d1 : Int.tdiv p (b.length : Int) = p / (b.length : Int) := Int.tdiv_eq_ediv_of_nonneg hp
  have r1 := Int.emod_nonneg p e
  have r2 := Int.emod_lt_of_pos p (show (0 : Int) < (b.length : Int) by omega)
  have r3 := Int.emod_nonneg (p * 7 + 3) e
  have r4 := Int.emod_lt_of_pos (p * 7 + 3) (show (0 : Int) < (b.length : Int) by omega)
  have v1 := hb.rd _ r1 r2
  have v2 := hb.rd _ r3 r4
  have dv0 : 0 ≤ p / (b.length : Int) := Int.ediv_nonneg hp (by omega)
  have dv1 : p / (b.length : Int) ≤ p := Int.ediv_le_self _ hp
  rw [h7, m1, m2, d1, if_neg q, if_pos e, if_pos r1, if_pos r2, if_pos r3, if_pos r4, if_pos (show n ≠ 0 by omega)]
  generalize rd b (p % (b.length : Int)) = u1 at *
  generalize rd b ((p * 7 + 3) % (b.length : Int)) = u2 at *
  generalize p / (b.length : Int) = u3 at *
  rw [w64 (x := u1) (by omega) (by omega), w64 (x := u2) (by omega) (by omega), w64 (x := u1 * 131) (by omega) (by omega), w64 (x := u2 * 1117) (by omega) (by omega), w64 (x := u1 * 131 + u2 * 1117) (by omega) (by omega), w64 (x := p * 29) (by omega) (by omega),
    w64 (x := u1 * 131 + u2 * 1117 + p * 29) (by omega) (by omega), w64 (x := u3) (by omega) (by omega), w64 (x := u3 * 53) (by omega) (by omega), w64 (x := u1 * 131 + u2 * 1117 + p * 29 + u3 * 53) (by omega) (by omega)]
  obtain ⟨x, hx⟩ : ∃ x, u1 * 131 + u2 * 1117 + p * 29 + u3 * 53 = x := ⟨_, rfl⟩
  rw [hx]
  have x0 : 0 ≤ x := by omega
  have x1 : x ≤ 1000000000000 := by omega
  have y0 : 0 ≤ Int.tdiv x 64 ∧ Int.tdiv x 64 ≤ x := by rw [Int.tdiv_eq_ediv_of_nonneg x0]; exact ⟨Int.ediv_nonneg x0 (by omega), Int.ediv_le_self _ x0⟩
  rw [w64 (x := Int.tdiv x 64) (by omega) (by omega)]
  exact ⟨_, fin _ (aAK x0 (by omega) y0.1 (by omega)), rfl⟩
theorem kK {b : List Int} (hb : iE b) (p : Int) (hp : 0 ≤ p) (hp1 : p ≤ 1000000000) (l : List ByteArray) (h1 : 1 ≤ l.length) (h2 : l.length ≤ 1000000) : ∃ s ∈ l, bS.f b p l = some (s, b, p + 1) := by
  unfold bS.f
  obtain ⟨v, ⟨v0, v1, _⟩, e⟩ := eY hb p (l.length : Int) hp hp1 (by omega)
  have v1 := v1 (by omega)
  obtain ⟨n, rfl⟩ : ∃ n : Nat, v = (n : Int) := ⟨v.toNat, by omega⟩
  refine ⟨l.getD n ByteArray.empty, kY _ _ _ (by omega), ?_⟩
  rw [e]
  simp only [Option.bind_some]
  rw [if_pos v0, if_pos v1, eZ]
theorem aJR (l : List Int) (h : ∀ x ∈ l, 0 ≤ x ∧ x ≤ 255) : ∃ b, iE b ∧ jB.f l = some (b, 0) := by
  unfold jB.f
  by_cases c : (l.length : Int) > 2000
  · refine ⟨l.take 2000, ⟨by simp; omega, fun i hi => ?_⟩, by rw [if_pos c, if_pos (by omega)]; rfl⟩
    exact h _ (List.mem_of_mem_take (kY 0 _ i hi))
  · exact ⟨l, ⟨by omega, fun i hi => h _ (kY 0 _ i hi)⟩, by rw [if_neg c]⟩
theorem aFU {l : List Int} (h : ∀ x ∈ l, (Lit.int .u8 x).wf = true) : ∀ x ∈ l, 0 ≤ x ∧ x ≤ 255 := fun x hx => by
  have := h x hx
  simpa [Lit.wf, IntKind.min, IntKind.max, IntKind.signed, IntKind.bits] using this
def ExP {α : Type} (g : Nat → Option α) (Q : α → Prop) : Prop := ∃ q, Ev g q ∧ Q q
theorem dF {α : Type} {a : α} {Q : α → Prop} (h : Q a) : ExP (fun _ => some a) Q := ⟨a, Ev.now a, h⟩
theorem cU {α β : Type} {g : Option α} {a : α} {f : Nat → α → Option β} {Q : β → Prop} (h : g = some a) (k : ExP (fun n => f n a) Q) : ExP (fun n => g.bind (f n)) Q := by subst h; exact k
theorem eD {α β : Type} {g : Nat → Option α} {f : Nat → α → Option β} {R : α → Prop} {Q : β → Prop} (h : ExP g R) (k : ∀ a, R a → ExP (fun n => f n a) Q) : ExP (fun n => (g n).bind (f n)) Q := by
  obtain ⟨a, h1, h2⟩ := h
  obtain ⟨q, e, hq⟩ := k a h2
  exact ⟨q, Ev.bind h1 e, hq⟩
theorem cO {α : Type} {c : Prop} {d : Decidable c} {g f : Nat → Option α} {Q : α → Prop} (h : c → ExP g Q) (k : ¬ c → ExP f Q) : ExP (fun n => @ite _ c d (g n) (f n)) Q := by
  by_cases q : c
  · exact (h q).imp fun _ e => ⟨aO q e.1, e.2⟩
  · exact (k q).imp fun _ e => ⟨bT q e.1, e.2⟩
theorem bA {α : Type} {c : Prop} {d : Decidable c} {g f : Nat → Option α} {Q : α → Prop} (h : c) (k : ExP g Q) : ExP (fun n => @ite _ c d (g n) (f n)) Q := k.imp fun _ e => ⟨aO h e.1, e.2⟩
theorem dP {α : Type} {c : Prop} {d : Decidable c} {g f : Nat → Option α} {Q : α → Prop} (h : ¬ c) (k : ExP f Q) : ExP (fun n => @ite _ c d (g n) (f n)) Q := k.imp fun _ e => ⟨bT h e.1, e.2⟩
theorem bU {α : Type} {g f : Nat → Option α} {Q : α → Prop} (h : ∀ k, g (k + 1) = f k) (k : ExP f Q) : ExP g Q := k.imp fun _ e => ⟨Ev.step h e.1, e.2⟩
theorem lW {α : Type} {g : Nat → Option α} {Q R : α → Prop} (h : ExP g Q) (k : ∀ a, Q a → R a) : ExP g R := h.imp fun a e => ⟨e.1, k a e.2⟩
theorem fM {α β : Type} {g : Nat → Option α} {a : α} {f : Nat → α → Option β} {Q : β → Prop} (h : Ev g a) (k : ExP (fun n => f n a) Q) : ExP (fun n => (g n).bind (f n)) Q := by
  obtain ⟨q, e, hq⟩ := k
  exact ⟨q, Ev.bind h e, hq⟩
structure PD (m : Nat) (s : List ByteArray) (f : List aD) (p : List aB) (v : List aA) : Prop where
  ls : s.length ≤ 8 + m
  lf : f.length ≤ 12 + m
  lp : p.length ≤ 14 + m
  lv : v.length ≤ 18 + m
  s1 : ∀ x ∈ s, x.size ≤ 1000
  f1 : ∀ x ∈ f, x.f0.size ≤ 1000 ∧ x.f1.size ≤ 1000
  p1 : ∀ x ∈ p, x.f0.size ≤ 1000 ∧ x.f2.size ≤ 1000
  v1 : ∀ x ∈ v, x.f0.size ≤ 1000 ∧ x.f1.size ≤ 1000 ∧ x.f2.size ≤ 1000 ∧ x.f3.size ≤ 1000
abbrev PC := List ByteArray × List aD × List aB × List aA × Int
def QC (t : PC) : Prop := PD 0 t.1 t.2.1 t.2.2.1 t.2.2.2.1
theorem aBH {t : PC} (h : QC t) : QC (t.1, t.2.1, t.2.2.1, t.2.2.2.1, t.2.2.2.2) := h
theorem tW {s : List ByteArray} {f : List aD} {p : List aB} {v : List aA} (h : PD 0 s f p v) (c : Int) : QC (s, f, p, v, c) := h
theorem oZ {α : Type} {P : α → Prop} {l : List α} {x : α} (n : Nat) (h : ∀ y ∈ l, P y) (hx : P x) : ∀ y ∈ (([] ++ l.take n) ++ [x]) ++ l.drop n, P y := fun y hy => by
  rcases List.mem_append.1 hy with hy | hy
  · rcases List.mem_append.1 hy with hy | hy
    · exact h y (List.mem_of_mem_take hy)
    · rw [List.mem_singleton] at hy; subst hy; exact hx
  · exact h y (List.mem_of_mem_drop hy)
theorem oQ {α : Type} (l : List α) (x : α) (n : Nat) : ((([] ++ l.take n) ++ [x]) ++ l.drop n).length = l.length + 1 := by
  simp only [List.nil_append, List.length_append, List.length_take, List.length_drop, List.length_cons, List.length_nil]; omega
theorem iD {ws : List ByteArray} (h : ∀ w ∈ ws, w.size ≤ 1000) (i : Nat) : (aP ByteArray.empty ws (i : Int)).size ≤ 1000 := by
  rw [eZ]
  by_cases c : i < ws.length
  · exact h _ (kY ByteArray.empty ws i c)
  · rw [List.getD_eq_getElem?_getD, List.getElem?_eq_none (by omega)]; show 0 ≤ 1000; omega
theorem zV (a : ByteArray) : ExP (fun k => bG.f k a) (fun _ => True) := by
  unfold bG.f
  refine fM (mE _ _ _) (cO (fun c => ?_) (fun _ => dF trivial))
  have ha : a.size ≤ 4 := by have := of_decide_eq_true c; omega
  have L0 : ExP (fun k => bG.l0 k a 0 0) (fun _ => True) := by
    refine aBN a.size (P := fun i => ∀ n : Int, ExP (fun k => bG.l0 k a n (i : Int)) (fun _ => True)) (fun n => ?_) (fun i hi ih n => ?_) 0
    · refine bU (fun k => by rw [bG.l0]) ?_
      repeat' (first
        | with_reducible exact dF (trivial)
        | with_reducible refine bA (by omega) ?_
        | with_reducible refine dP (by omega) ?_
        | with_reducible refine cO (fun _ => ?_) (fun _ => ?_))
    · refine bU (fun k => by rw [bG.l0]) ?_
      rw [dN hi (by omega)]
      repeat' (first
        | with_reducible exact (ih _)
        | with_reducible exact dF (trivial)
        | with_reducible refine bA (by omega) ?_
        | with_reducible refine dP (by omega) ?_
        | with_reducible refine cO (fun _ => ?_) (fun _ => ?_))
  have L1 : ExP (fun k => bG.l1 k a 0 0) (fun _ => True) := by
    refine aBN a.size (P := fun i => ∀ n : Int, ExP (fun k => bG.l1 k a n (i : Int)) (fun _ => True)) (fun n => ?_) (fun i hi ih n => ?_) 0
    · refine bU (fun k => by rw [bG.l1]) ?_
      repeat' (first
        | with_reducible exact dF (trivial)
        | with_reducible refine bA (by omega) ?_
        | with_reducible refine dP (by omega) ?_
        | with_reducible refine cO (fun _ => ?_) (fun _ => ?_))
    · refine bU (fun k => by rw [bG.l1]) ?_
      rw [dN hi (by omega)]
      repeat' (first
        | with_reducible exact (ih _)
        | with_reducible exact dF (trivial)
        | with_reducible refine bA (by omega) ?_
        | with_reducible refine dP (by omega) ?_
        | with_reducible refine cO (fun _ => ?_) (fun _ => ?_))
  repeat' (first
    | with_reducible exact dF (trivial)
    | with_reducible exact (L0)
    | with_reducible exact (L1)
    | with_reducible refine bA (by omega) ?_
    | with_reducible refine dP (by omega) ?_
    | with_reducible refine cO (fun _ => ?_) (fun _ => ?_))
section
variable {s : List ByteArray} {f : List aD} {p : List aB} {v : List aA} {ws : List ByteArray} (h : PD 0 s f p v) (hw : ∀ w ∈ ws, w.size ≤ 1000)
include h hw
theorem aAI : ExP (fun k => dD.f k s f p v ws) QC := by
  obtain ⟨ls, lf, lp, lv, s1, f1, p1, v1⟩ := h
  have h : PD 0 s f p v := ⟨ls, lf, lp, lv, s1, f1, p1, v1⟩
  have w1 := iD hw 1
  have L : s.length ≤ 7 → ExP (fun k => dD.l0 k s f p v ws 0) QC := fun hs => by
    have fin : ∀ n : Nat, QC ((([] ++ s.take n) ++ [aP ByteArray.empty ws 1]) ++ s.drop n, f, p, v, 0) := fun n => ⟨by dsimp only; rw [oQ]; omega, lf, lp, lv, oZ n s1 w1, f1, p1, v1⟩
    refine eO ByteArray.empty s (P := fun i _ => ExP (fun k => dD.l0 k s f p v ws (i : Int)) QC) ?_ (fun i x r hi hx hm _ ih => ?_)
    · refine bU (fun k => by rw [dD.l0]) ?_
      rw [Int.toNat_natCast]
      repeat' (first
        | with_reducible exact dF (fin _)
        | with_reducible refine bA (by omega) ?_
        | with_reducible refine dP (by omega) ?_
        | with_reducible refine cO (fun _ => ?_) (fun _ => ?_))
    · refine bU (fun k => by rw [dD.l0]) ?_
      rw [Int.toNat_natCast, dN hi (by omega)]
      repeat' (first
        | with_reducible exact (ih)
        | with_reducible exact dF (fin _)
        | with_reducible refine bA (by omega) ?_
        | with_reducible refine dP (by omega) ?_
        | with_reducible refine cO (fun _ => ?_) (fun _ => ?_))
  unfold dD.f
  repeat' (first
    | with_reducible refine fM (dY _) ?_
    | with_reducible refine fM (mA _ _ (by omega)) ?_
    | with_reducible exact dF (tW h _)
    | with_reducible exact (L (by omega))
    | with_reducible refine bA (by omega) ?_
    | with_reducible refine dP (by omega) ?_
    | with_reducible refine cO (fun _ => ?_) (fun _ => ?_))
omit hw in
theorem aEN (a b : ByteArray) : ExP (fun k => dG.f k s f p v a b) (fun _ => True) := by
  obtain ⟨ls, lf, lp, lv, s1, f1, p1, v1⟩ := h
  unfold dG.f
  refine eO cW f (P := fun i _ => ExP (fun k => dG.l0 k f a b (i : Int)) (fun _ => True)) ?_ (fun i x r hi hx hm _ ih => ?_)
  · refine bU (fun k => by rw [dG.l0]) ?_
    repeat' (first
      | with_reducible exact dF (trivial)
      | with_reducible refine bA (by omega) ?_
      | with_reducible refine dP (by omega) ?_
      | with_reducible refine cO (fun _ => ?_) (fun _ => ?_))
  · refine bU (fun k => by rw [dG.l0]) ?_
    rw [dN hi (by omega)]
    repeat' (first
      | with_reducible exact (ih)
      | with_reducible exact dF (trivial)
      | with_reducible refine bA (by omega) ?_
      | with_reducible refine dP (by omega) ?_
      | with_reducible refine cO (fun _ => ?_) (fun _ => ?_))
theorem aGZ : ExP (fun k => cD.f k s f p v ws) QC := by
  have hF := fun a b => aEN h a b
  obtain ⟨ls, lf, lp, lv, s1, f1, p1, v1⟩ := h
  have h : PD 0 s f p v := ⟨ls, lf, lp, lv, s1, f1, p1, v1⟩
  have w1 := iD hw 1
  have w2 := iD hw 2
  have L0 : f.length ≤ 11 → ExP (fun k => cD.l0 k s f p v ws 0) QC := fun hs => by
    have fin : ∀ n : Nat, QC (s, (([] ++ f.take n) ++ [(⟨aP ByteArray.empty ws 2, aP ByteArray.empty ws 1⟩ : aD)]) ++ f.drop n, p, v, 0) := fun n => ⟨ls, by dsimp only; rw [oQ]; omega, lp, lv, s1, oZ n f1 ⟨w2, w1⟩, p1, v1⟩
    refine eO cW f (P := fun i _ => ExP (fun k => cD.l0 k s f p v ws (i : Int)) QC) ?_ (fun i x r hi hx hm _ ih => ?_)
    · refine bU (fun k => by rw [cD.l0]) ?_
      rw [Int.toNat_natCast]
      repeat' (first
        | with_reducible refine fM (iZ _ _ _ _) ?_
        | with_reducible exact dF (fin _)
        | with_reducible refine bA (by omega) ?_
        | with_reducible refine dP (by omega) ?_
        | with_reducible refine cO (fun _ => ?_) (fun _ => ?_))
    · refine bU (fun k => by rw [cD.l0]) ?_
      rw [Int.toNat_natCast, dN hi (by omega)]
      repeat' (first
        | with_reducible refine fM (iZ _ _ _ _) ?_
        | with_reducible exact (ih)
        | with_reducible exact dF (fin _)
        | with_reducible refine bA (by omega) ?_
        | with_reducible refine dP (by omega) ?_
        | with_reducible refine cO (fun _ => ?_) (fun _ => ?_))
  have L1 : f.length ≤ 11 → ExP (fun k => cD.l1 k s f p v ws 0) QC := fun hs => by
    have fin : ∀ n : Nat, QC (s, (([] ++ f.take n) ++ [(⟨aP ByteArray.empty ws 1, aP ByteArray.empty ws 2⟩ : aD)]) ++ f.drop n, p, v, 0) := fun n => ⟨ls, by dsimp only; rw [oQ]; omega, lp, lv, s1, oZ n f1 ⟨w1, w2⟩, p1, v1⟩
    refine eO cW f (P := fun i _ => ExP (fun k => cD.l1 k s f p v ws (i : Int)) QC) ?_ (fun i x r hi hx hm _ ih => ?_)
    · refine bU (fun k => by rw [cD.l1]) ?_
      rw [Int.toNat_natCast]
      repeat' (first
        | with_reducible refine fM (iZ _ _ _ _) ?_
        | with_reducible exact dF (fin _)
        | with_reducible refine bA (by omega) ?_
        | with_reducible refine dP (by omega) ?_
        | with_reducible refine cO (fun _ => ?_) (fun _ => ?_))
    · refine bU (fun k => by rw [cD.l1]) ?_
      rw [Int.toNat_natCast, dN hi (by omega)]
      repeat' (first
        | with_reducible refine fM (iZ _ _ _ _) ?_
        | with_reducible exact (ih)
        | with_reducible exact dF (fin _)
        | with_reducible refine bA (by omega) ?_
        | with_reducible refine dP (by omega) ?_
        | with_reducible refine cO (fun _ => ?_) (fun _ => ?_))
  unfold cD.f
  repeat' (first
    | with_reducible refine fM (dY _) ?_
    | with_reducible refine eD (hF _ _) (fun t ht => ?_)
    | with_reducible refine fM (mA _ _ (by omega)) ?_
    | with_reducible exact dF (tW h _)
    | with_reducible exact (L0 (by omega))
    | with_reducible exact (L1 (by omega))
    | with_reducible refine bA (by omega) ?_
    | with_reducible refine dP (by omega) ?_
    | with_reducible refine cO (fun _ => ?_) (fun _ => ?_))
omit hw in
theorem pG (a : ByteArray) (n : Int) (c : ByteArray) (ha : a.size ≤ 1000) (hc : c.size ≤ 1000) : ExP (fun k => bY.f k s f p v a n c) QC := by
  obtain ⟨ls, lf, lp, lv, s1, f1, p1, v1⟩ := h
  have h : PD 0 s f p v := ⟨ls, lf, lp, lv, s1, f1, p1, v1⟩
  have L : p.length ≤ 13 → ExP (fun k => bY.l0 k s f p v a n c 0) QC := fun hs => by
    have fin : ∀ j : Nat, QC (s, f, (([] ++ p.take j) ++ [(⟨a, n, c⟩ : aB)]) ++ p.drop j, v, 0) := fun j => ⟨ls, lf, by dsimp only; rw [oQ]; omega, lv, s1, f1, oZ j p1 ⟨ha, hc⟩, v1⟩
    refine eO dB p (P := fun i _ => ExP (fun k => bY.l0 k s f p v a n c (i : Int)) QC) ?_ (fun i x r hi hx hm _ ih => ?_)
    · refine bU (fun k => by rw [bY.l0]) ?_
      rw [Int.toNat_natCast]
      repeat' (first
        | with_reducible exact dF (fin _)
        | with_reducible refine bA (by omega) ?_
        | with_reducible refine dP (by omega) ?_
        | with_reducible refine cO (fun _ => ?_) (fun _ => ?_))
    · refine bU (fun k => by rw [bY.l0]) ?_
      rw [Int.toNat_natCast, dN hi (by omega)]
      repeat' (first
        | with_reducible exact (ih)
        | with_reducible exact dF (fin _)
        | with_reducible refine bA (by omega) ?_
        | with_reducible refine dP (by omega) ?_
        | with_reducible refine cO (fun _ => ?_) (fun _ => ?_))
  unfold bY.f
  repeat' (first
    | with_reducible refine fM (jU _ _ _ _ _ (by omega)) ?_
    | with_reducible exact dF (tW h _)
    | with_reducible exact (L (by omega))
    | with_reducible refine bA (by omega) ?_
    | with_reducible refine dP (by omega) ?_
    | with_reducible refine cO (fun _ => ?_) (fun _ => ?_))
theorem yK : ExP (fun k => gC.f k s f p v ws) QC := by
  have hP := fun n => pG h (aP ByteArray.empty ws 1) n (aP ByteArray.empty ws 3) (iD hw 1) (iD hw 3)
  have hN := fun a => zV a
  unfold gC.f
  repeat' (first
    | with_reducible refine fM (dY _) ?_
    | with_reducible refine eD (hN _) (fun t ht => ?_)
    | with_reducible refine fM (mE _ _ _) ?_
    | with_reducible refine eD (hP _) (fun t ht => ?_)
    | with_reducible exact dF (tW h _)
    | with_reducible exact dF (aBH ht)
    | with_reducible refine bA (by omega) ?_
    | with_reducible refine dP (by omega) ?_
    | with_reducible refine cO (fun _ => ?_) (fun _ => ?_))
theorem aBF : ExP (fun k => gO.f k s f p v ws) QC := by
  have hP := pG h (aP ByteArray.empty ws 1) 0 (aP ByteArray.empty ws 2) (iD hw 1) (iD hw 2)
  unfold gO.f
  repeat' (first
    | with_reducible refine fM (dY _) ?_
    | with_reducible refine eD (hP) (fun t ht => ?_)
    | with_reducible exact dF (tW h _)
    | with_reducible exact dF (aBH ht)
    | with_reducible refine bA (by omega) ?_
    | with_reducible refine dP (by omega) ?_
    | with_reducible refine cO (fun _ => ?_) (fun _ => ?_))
omit hw in
theorem zY (a : ByteArray) : ExP (fun k => dH.f k s f p v a) (fun _ => True) := by
  obtain ⟨ls, lf, lp, lv, s1, f1, p1, v1⟩ := h
  unfold dH.f
  refine eO cJ v (P := fun i _ => ExP (fun k => dH.l0 k v a (i : Int)) (fun _ => True)) ?_ (fun i x r hi hx hm _ ih => ?_)
  · refine bU (fun k => by rw [dH.l0]) ?_
    repeat' (first
      | with_reducible exact dF (trivial)
      | with_reducible refine bA (by omega) ?_
      | with_reducible refine dP (by omega) ?_
      | with_reducible refine cO (fun _ => ?_) (fun _ => ?_))
  · refine bU (fun k => by rw [dH.l0]) ?_
    rw [dN hi (by omega)]
    repeat' (first
      | with_reducible exact (ih)
      | with_reducible exact dF (trivial)
      | with_reducible refine bA (by omega) ?_
      | with_reducible refine dP (by omega) ?_
      | with_reducible refine cO (fun _ => ?_) (fun _ => ?_))
theorem aAR : ExP (fun k => bL.f k s f p v ws) QC := by
  have hV := fun a => zY h a
  obtain ⟨ls, lf, lp, lv, s1, f1, p1, v1⟩ := h
  have h : PD 0 s f p v := ⟨ls, lf, lp, lv, s1, f1, p1, v1⟩
  have w1 := iD hw 1
  have w2 := iD hw 2
  have w3 := iD hw 3
  have w4 := iD hw 4
  have L0 : v.length ≤ 17 → ExP (fun k => bL.l0 k s f p v ws 0) QC := fun hs => by
    have fin : ∀ n : Nat, QC (s, f, p, (([] ++ v.take n) ++ [(⟨aP ByteArray.empty ws 1, aP ByteArray.empty ws 3, aP ByteArray.empty ws 2, aP ByteArray.empty ws 4⟩ : aA)]) ++ v.drop n, 0) := fun n => ⟨ls, lf, lp, by dsimp only; rw [oQ]; omega, s1, f1, p1, oZ n v1 ⟨w1, w3, w2, w4⟩⟩
    refine eO cJ v (P := fun i _ => ExP (fun k => bL.l0 k s f p v ws (i : Int)) QC) ?_ (fun i x r hi hx hm _ ih => ?_)
    · refine bU (fun k => by rw [bL.l0]) ?_
      rw [Int.toNat_natCast]
      repeat' (first
        | with_reducible exact dF (fin _)
        | with_reducible refine bA (by omega) ?_
        | with_reducible refine dP (by omega) ?_
        | with_reducible refine cO (fun _ => ?_) (fun _ => ?_))
    · refine bU (fun k => by rw [bL.l0]) ?_
      rw [Int.toNat_natCast, dN hi (by omega)]
      repeat' (first
        | with_reducible exact (ih)
        | with_reducible exact dF (fin _)
        | with_reducible refine bA (by omega) ?_
        | with_reducible refine dP (by omega) ?_
        | with_reducible refine cO (fun _ => ?_) (fun _ => ?_))
  have L1 : v.length ≤ 17 → ExP (fun k => bL.l1 k s f p v ws 0) QC := fun hs => by
    have fin : ∀ n : Nat, QC (s, f, p, (([] ++ v.take n) ++ [(⟨aP ByteArray.empty ws 1, aP ByteArray.empty ws 2, aP ByteArray.empty ws 3, aP ByteArray.empty ws 4⟩ : aA)]) ++ v.drop n, 0) := fun n => ⟨ls, lf, lp, by dsimp only; rw [oQ]; omega, s1, f1, p1, oZ n v1 ⟨w1, w2, w3, w4⟩⟩
    refine eO cJ v (P := fun i _ => ExP (fun k => bL.l1 k s f p v ws (i : Int)) QC) ?_ (fun i x r hi hx hm _ ih => ?_)
    · refine bU (fun k => by rw [bL.l1]) ?_
      rw [Int.toNat_natCast]
      repeat' (first
        | with_reducible exact dF (fin _)
        | with_reducible refine bA (by omega) ?_
        | with_reducible refine dP (by omega) ?_
        | with_reducible refine cO (fun _ => ?_) (fun _ => ?_))
    · refine bU (fun k => by rw [bL.l1]) ?_
      rw [Int.toNat_natCast, dN hi (by omega)]
      repeat' (first
        | with_reducible exact (ih)
        | with_reducible exact dF (fin _)
        | with_reducible refine bA (by omega) ?_
        | with_reducible refine dP (by omega) ?_
        | with_reducible refine cO (fun _ => ?_) (fun _ => ?_))
  unfold bL.f
  repeat' (first
    | with_reducible refine fM (dY _) ?_
    | with_reducible refine eD (hV _) (fun t ht => ?_)
    | with_reducible refine fM (jU _ _ _ _ _ (by omega)) ?_
    | with_reducible exact dF (tW h _)
    | with_reducible exact (L0 (by omega))
    | with_reducible exact (L1 (by omega))
    | with_reducible refine bA (by omega) ?_
    | with_reducible refine dP (by omega) ?_
    | with_reducible refine cO (fun _ => ?_) (fun _ => ?_))
theorem gU (h0 : 1 ≤ ws.length) : ExP (fun k => cV.f k s f p v ws) (fun t => PD 0 t.1 t.2.1 t.2.2.1 t.2.2.2) := by
  have e1 := aAI h hw
  have e2 := aGZ h hw
  have e3 := yK h hw
  have e4 := aBF h hw
  have e5 := aAR h hw
  have hP : ExP (fun k => gW.f k s f p v ws) QC := by
    unfold gW.f
    repeat' (first
      | with_reducible refine eD (e1) (fun t ht => ?_)
      | with_reducible refine eD (e2) (fun t ht => ?_)
      | with_reducible refine eD (e3) (fun t ht => ?_)
      | with_reducible refine eD (e4) (fun t ht => ?_)
      | with_reducible refine eD (e5) (fun t ht => ?_)
      | with_reducible exact dF (tW h _)
      | with_reducible exact dF (aBH ht)
      | with_reducible refine bA (by omega) ?_
      | with_reducible refine dP (by omega) ?_
      | with_reducible refine cO (fun _ => ?_) (fun _ => ?_))
  unfold cV.f
  exact eD hP (fun t ht => cO (fun _ => dF ht) (fun _ => dF h))
end
theorem jX {m : Nat} (hm : m ≤ 10) {s : List ByteArray} {f : List aD} {p : List aB} {v : List aA} (h : PD m s f p v) : dT.f s f p v = some (s, f, p, v) := by
  obtain ⟨ls, lf, lp, lv, _⟩ := h
  unfold dT.f
  rw [if_pos (by omega), if_pos (by omega), if_pos (by omega), if_pos (by omega)]; rfl
abbrev TPl := List ByteArray × List aD × List aB × List aA × List Int × Int
def QD (m : Nat) (b : List Int) (hi : Int) (t : TPl) : Prop := PD m t.1 t.2.1 t.2.2.1 t.2.2.2.1 ∧ t.2.2.2.2.1 = b ∧ 0 ≤ t.2.2.2.2.2 ∧ t.2.2.2.2.2 ≤ hi
theorem pY {n : Int} (h0 : 0 ≤ n) (h : n ≤ 100) : (mD n).size ≤ 101 := by
  have := wG n.toNat n.toNat (Nat.le_refl _)
  show (_ : List UInt8).toArray.size ≤ 101
  rw [List.size_toArray]; omega
theorem ws3 {a b c : ByteArray} (ha : a.size ≤ 1000) (hb : b.size ≤ 1000) (hc : c.size ≤ 1000) : ∀ w ∈ [a, b, c], w.size ≤ 1000 := fun w hw => by
  simp only [List.mem_cons, List.mem_nil_iff, or_false] at hw
  rcases hw with rfl | rfl | rfl <;> assumption
theorem ws4 {a b c d : ByteArray} (ha : a.size ≤ 1000) (hb : b.size ≤ 1000) (hc : c.size ≤ 1000) (hd : d.size ≤ 1000) : ∀ w ∈ [a, b, c, d], w.size ≤ 1000 := fun w hw => by
  simp only [List.mem_cons, List.mem_nil_iff, or_false] at hw
  rcases hw with rfl | rfl | rfl | rfl <;> assumption
theorem ws5 {a b c d e : ByteArray} (ha : a.size ≤ 1000) (hb : b.size ≤ 1000) (hc : c.size ≤ 1000) (hd : d.size ≤ 1000) (he : e.size ≤ 1000) : ∀ w ∈ [a, b, c, d, e], w.size ≤ 1000 := fun w hw => by
  simp only [List.mem_cons, List.mem_nil_iff, or_false] at hw
  rcases hw with rfl | rfl | rfl | rfl | rfl <;> assumption
theorem qN {p : List aB} (h : ∀ x ∈ p, x.f0.size ≤ 1000 ∧ x.f2.size ≤ 1000) (a : Int) (h0 : 0 ≤ a) (h1 : a < p.length) : (aL p a).f0.size ≤ 1000 := by
  obtain ⟨n, rfl⟩ : ∃ n : Nat, a = (n : Int) := ⟨a.toNat, by omega⟩
  rw [rdP]
  exact (h _ (kY dB p n (by omega))).1
theorem pS {l : List ByteArray} {s : ByteArray} (h : s ∈ l) (hl : (l.all fun x => decide (x.size ≤ 1000)) = true) : s.size ≤ 1000 := of_decide_eq_true (List.all_eq_true.1 hl s h)
theorem aKI {b : List Int} (hb : iE b) : ∀ (m i : Nat) (s : List ByteArray) (f : List aD) (p : List aB) (v : List aA) (q : Int), i + m = 40 → PD 0 s f p v → 0 ≤ q → q + 2 * m ≤ 100000 → ExP (fun k => aJ.l5 k (i : Int) b q s f p v) (QD 0 b 100000)
  | 0, i, s, f, p, v, q, hi, h, h0, hq => by
    refine bU (fun k => by rw [aJ.l5]) (dP (by omega) ?_)
    exact cU (jX (by omega) h) (dF ⟨h, rfl, h0, by dsimp only; omega⟩)
  | m + 1, i, s, f, p, v, q, hi, h, h0, hq => by
    refine bU (fun k => by rw [aJ.l5]) (bA (by omega) (fM (gN i (i : Int) (by omega) (by omega) (by omega)) ?_))
    have hds := pY (n := (i : Int)) (by omega) (by omega)
    have z1 : (⟨#[121]⟩ : ByteArray).size = 1 := rfl
    refine bA (by omega) ?_
    obtain ⟨x, hx, e1⟩ := kK hb q h0 (by omega) ([(⟨#[121, 48]⟩ : ByteArray), (⟨#[121, 49]⟩ : ByteArray), (⟨#[121, 50]⟩ : ByteArray), (⟨#[121, 51]⟩ : ByteArray)] : List ByteArray) (by decide) (by decide)
    refine cU e1 ?_
    dsimp only
    obtain ⟨y, hy, e2⟩ := kK hb (q + 1) (by omega) (by omega) ([(⟨#[121, 48]⟩ : ByteArray), (⟨#[121, 49]⟩ : ByteArray), (⟨#[121, 50]⟩ : ByteArray), (⟨#[97]⟩ : ByteArray)] : List ByteArray) (by decide) (by decide)
    refine cU e2 ?_
    dsimp only
    refine eD (gU h (ws5 (by decide) (by rw [ByteArray.size_append]; omega) (pS hx (by decide)) (pS hy (by decide)) (by decide)) (by simp)) (fun t ht => ?_)
    rw [dN (n := 100) (by omega) (by omega)]
    exact aKI hb m (i + 1) _ _ _ _ _ (by omega) ht (by omega) (by omega)
theorem aKU {b : List Int} (hb : iE b) (t0 : Int × List Int × Int) (hb0 : t0.2.1 = b) (h00 : 0 ≤ t0.2.2) (h01 : t0.2.2 ≤ 90000) : ∀ (m i : Nat) (s : List ByteArray) (f : List aD) (p : List aB) (v : List aA), i + m = 20 → PD 0 s f p v → ExP (fun k => aJ.l4 k (i : Int) s f p v t0) (QD 0 b 100000)
  | 0, i, s, f, p, v, hi, h => by
    refine bU (fun k => by rw [aJ.l4]) (dP (by omega) ?_)
    rw [hb0]
    exact aKI hb 40 0 s f p v _ (by omega) h h00 (by omega)
  | m + 1, i, s, f, p, v, hi, h => by
    refine bU (fun k => by rw [aJ.l4]) (bA (by omega) (fM (gN i (i : Int) (by omega) (by omega) (by omega)) ?_))
    have hds := pY (n := (i : Int)) (by omega) (by omega)
    have z1 : (⟨#[121]⟩ : ByteArray).size = 1 := rfl
    refine bA (by omega) (eD (gU h (ws3 (by decide) (by rw [ByteArray.size_append]; omega) (by decide)) (by simp)) (fun t ht => ?_))
    rw [dN (n := 100) (by omega) (by omega)]
    exact aKU hb t0 hb0 h00 h01 m (i + 1) _ _ _ _ (by omega) ht
theorem aJW {b : List Int} (hb : iE b) : ∀ (m i : Nat) (s : List ByteArray) (f : List aD) (p : List aB) (v : List aA) (q : Int), i + m = 40 → PD 0 s f p v → 0 ≤ q → q + 2 * m ≤ 100000 → ExP (fun k => aJ.l7 k (i : Int) b q s f p v) (QD 0 b 100000)
  | 0, i, s, f, p, v, q, hi, h, h0, hq => by
    refine bU (fun k => by rw [aJ.l7]) (dP (by omega) ?_)
    exact cU (jX (by omega) h) (dF ⟨h, rfl, h0, by dsimp only; omega⟩)
  | m + 1, i, s, f, p, v, q, hi, h, h0, hq => by
    refine bU (fun k => by rw [aJ.l7]) (bA (by omega) (fM (gN i (i : Int) (by omega) (by omega) (by omega)) ?_))
    have hds := pY (n := (i : Int)) (by omega) (by omega)
    have z1 : (⟨#[121]⟩ : ByteArray).size = 1 := rfl
    refine bA (by omega) ?_
    obtain ⟨x, hx, e1⟩ := kK hb q h0 (by omega) ([(⟨#[121, 48]⟩ : ByteArray), (⟨#[121, 49]⟩ : ByteArray), (⟨#[121, 50]⟩ : ByteArray), (⟨#[121, 51]⟩ : ByteArray)] : List ByteArray) (by decide) (by decide)
    refine cU e1 ?_
    dsimp only
    obtain ⟨y, hy, e2⟩ := kK hb (q + 1) (by omega) (by omega) ([(⟨#[121, 48]⟩ : ByteArray), (⟨#[121, 49]⟩ : ByteArray), (⟨#[121, 50]⟩ : ByteArray), (⟨#[97]⟩ : ByteArray)] : List ByteArray) (by decide) (by decide)
    refine cU e2 ?_
    dsimp only
    refine eD (gU h (ws5 (by decide) (by rw [ByteArray.size_append]; omega) (pS hx (by decide)) (pS hy (by decide)) (by decide)) (by simp)) (fun t ht => ?_)
    rw [dN (n := 100) (by omega) (by omega)]
    exact aJW hb m (i + 1) _ _ _ _ _ (by omega) ht (by omega) (by omega)
theorem aKF {b : List Int} (hb : iE b) (t0 : Int × List Int × Int) (hb0 : t0.2.1 = b) (h00 : 0 ≤ t0.2.2) (h01 : t0.2.2 ≤ 90000) : ∀ (m i : Nat) (s : List ByteArray) (f : List aD) (p : List aB) (v : List aA), i + m = 20 → PD 0 s f p v → ExP (fun k => aJ.l6 k (i : Int) s f p v t0) (QD 0 b 100000)
  | 0, i, s, f, p, v, hi, h => by
    refine bU (fun k => by rw [aJ.l6]) (dP (by omega) ?_)
    rw [hb0]
    exact aJW hb 40 0 s f p v _ (by omega) h h00 (by omega)
  | m + 1, i, s, f, p, v, hi, h => by
    refine bU (fun k => by rw [aJ.l6]) (bA (by omega) (fM (gN i (i : Int) (by omega) (by omega) (by omega)) ?_))
    have hds := pY (n := (i : Int)) (by omega) (by omega)
    have z1 : (⟨#[121]⟩ : ByteArray).size = 1 := rfl
    refine bA (by omega) (eD (gU h (ws3 (by decide) (by rw [ByteArray.size_append]; omega) (by decide)) (by simp)) (fun t ht => ?_))
    rw [dN (n := 100) (by omega) (by omega)]
    exact aKF hb t0 hb0 h00 h01 m (i + 1) _ _ _ _ (by omega) ht
theorem aFM {b : List Int} (hb : iE b) : ∀ (m i : Nat) (s : List ByteArray) (f : List aD) (p : List aB) (v : List aA) (q : Int), i + m = 40 → PD 0 s f p v → 0 ≤ q → q + 2 * m ≤ 100000 → ExP (fun k => aJ.l11 k (i : Int) b q s f p v) (QD 0 b 100000)
  | 0, i, s, f, p, v, q, hi, h, h0, hq => by
    refine bU (fun k => by rw [aJ.l11]) (dP (by omega) ?_)
    exact cU (jX (by omega) h) (dF ⟨h, rfl, h0, by dsimp only; omega⟩)
  | m + 1, i, s, f, p, v, q, hi, h, h0, hq => by
    refine bU (fun k => by rw [aJ.l11]) (bA (by omega) (fM (gN i (i : Int) (by omega) (by omega) (by omega)) ?_))
    have hds := pY (n := (i : Int)) (by omega) (by omega)
    have z1 : (⟨#[121]⟩ : ByteArray).size = 1 := rfl
    refine bA (by omega) ?_
    obtain ⟨x, hx, e1⟩ := kK hb q h0 (by omega) ([(⟨#[121, 48]⟩ : ByteArray), (⟨#[121, 49]⟩ : ByteArray), (⟨#[121, 50]⟩ : ByteArray), (⟨#[121, 51]⟩ : ByteArray)] : List ByteArray) (by decide) (by decide)
    refine cU e1 ?_
    dsimp only
    obtain ⟨y, hy, e2⟩ := kK hb (q + 1) (by omega) (by omega) ([(⟨#[121, 48]⟩ : ByteArray), (⟨#[121, 49]⟩ : ByteArray), (⟨#[121, 50]⟩ : ByteArray), (⟨#[97]⟩ : ByteArray)] : List ByteArray) (by decide) (by decide)
    refine cU e2 ?_
    dsimp only
    refine eD (gU h (ws5 (by decide) (by rw [ByteArray.size_append]; omega) (pS hx (by decide)) (pS hy (by decide)) (by decide)) (by simp)) (fun t ht => ?_)
    rw [dN (n := 100) (by omega) (by omega)]
    exact aFM hb m (i + 1) _ _ _ _ _ (by omega) ht (by omega) (by omega)
theorem aHT {b : List Int} (hb : iE b) (t0 : Int × List Int × Int) (hb0 : t0.2.1 = b) (h00 : 0 ≤ t0.2.2) (h01 : t0.2.2 ≤ 90000) : ∀ (m i : Nat) (s : List ByteArray) (f : List aD) (p : List aB) (v : List aA), i + m = 20 → PD 0 s f p v → ExP (fun k => aJ.l10 k (i : Int) s f p v t0) (QD 0 b 100000)
  | 0, i, s, f, p, v, hi, h => by
    refine bU (fun k => by rw [aJ.l10]) (dP (by omega) ?_)
    rw [hb0]
    exact aFM hb 40 0 s f p v _ (by omega) h h00 (by omega)
  | m + 1, i, s, f, p, v, hi, h => by
    refine bU (fun k => by rw [aJ.l10]) (bA (by omega) (fM (gN i (i : Int) (by omega) (by omega) (by omega)) ?_))
    have hds := pY (n := (i : Int)) (by omega) (by omega)
    have z1 : (⟨#[121]⟩ : ByteArray).size = 1 := rfl
    refine bA (by omega) (eD (gU h (ws3 (by decide) (by rw [ByteArray.size_append]; omega) (by decide)) (by simp)) (fun t ht => ?_))
    rw [dN (n := 100) (by omega) (by omega)]
    exact aHT hb t0 hb0 h00 h01 m (i + 1) _ _ _ _ (by omega) ht
theorem aGG {b : List Int} (hb : iE b) : ∀ (m i : Nat) (s : List ByteArray) (f : List aD) (p : List aB) (v : List aA) (q : Int), i + m = 40 → PD 0 s f p v → 0 ≤ q → q + 2 * m ≤ 100000 → ExP (fun k => aJ.l13 k (i : Int) b q s f p v) (QD 0 b 100000)
  | 0, i, s, f, p, v, q, hi, h, h0, hq => by
    refine bU (fun k => by rw [aJ.l13]) (dP (by omega) ?_)
    exact cU (jX (by omega) h) (dF ⟨h, rfl, h0, by dsimp only; omega⟩)
  | m + 1, i, s, f, p, v, q, hi, h, h0, hq => by
    refine bU (fun k => by rw [aJ.l13]) (bA (by omega) (fM (gN i (i : Int) (by omega) (by omega) (by omega)) ?_))
    have hds := pY (n := (i : Int)) (by omega) (by omega)
    have z1 : (⟨#[121]⟩ : ByteArray).size = 1 := rfl
    refine bA (by omega) ?_
    obtain ⟨x, hx, e1⟩ := kK hb q h0 (by omega) ([(⟨#[121, 48]⟩ : ByteArray), (⟨#[121, 49]⟩ : ByteArray), (⟨#[121, 50]⟩ : ByteArray), (⟨#[121, 51]⟩ : ByteArray)] : List ByteArray) (by decide) (by decide)
    refine cU e1 ?_
    dsimp only
    obtain ⟨y, hy, e2⟩ := kK hb (q + 1) (by omega) (by omega) ([(⟨#[121, 48]⟩ : ByteArray), (⟨#[121, 49]⟩ : ByteArray), (⟨#[121, 50]⟩ : ByteArray), (⟨#[97]⟩ : ByteArray)] : List ByteArray) (by decide) (by decide)
    refine cU e2 ?_
    dsimp only
    refine eD (gU h (ws5 (by decide) (by rw [ByteArray.size_append]; omega) (pS hx (by decide)) (pS hy (by decide)) (by decide)) (by simp)) (fun t ht => ?_)
    rw [dN (n := 100) (by omega) (by omega)]
    exact aGG hb m (i + 1) _ _ _ _ _ (by omega) ht (by omega) (by omega)
theorem aFI {b : List Int} (hb : iE b) (t0 : Int × List Int × Int) (hb0 : t0.2.1 = b) (h00 : 0 ≤ t0.2.2) (h01 : t0.2.2 ≤ 90000) : ∀ (m i : Nat) (s : List ByteArray) (f : List aD) (p : List aB) (v : List aA), i + m = 20 → PD 0 s f p v → ExP (fun k => aJ.l12 k (i : Int) s f p v t0) (QD 0 b 100000)
  | 0, i, s, f, p, v, hi, h => by
    refine bU (fun k => by rw [aJ.l12]) (dP (by omega) ?_)
    rw [hb0]
    exact aGG hb 40 0 s f p v _ (by omega) h h00 (by omega)
  | m + 1, i, s, f, p, v, hi, h => by
    refine bU (fun k => by rw [aJ.l12]) (bA (by omega) (fM (gN i (i : Int) (by omega) (by omega) (by omega)) ?_))
    have hds := pY (n := (i : Int)) (by omega) (by omega)
    have z1 : (⟨#[121]⟩ : ByteArray).size = 1 := rfl
    refine bA (by omega) (eD (gU h (ws3 (by decide) (by rw [ByteArray.size_append]; omega) (by decide)) (by simp)) (fun t ht => ?_))
    rw [dN (n := 100) (by omega) (by omega)]
    exact aFI hb t0 hb0 h00 h01 m (i + 1) _ _ _ _ (by omega) ht
theorem aKT {b : List Int} (hb : iE b) : ∀ (m : Nat) (s : List ByteArray) (f : List aD) (p : List aB) (v : List aA) (q : Int), m ≤ 13 → PD 0 s f p v → 0 ≤ q → q + 10 * m ≤ 80000 → ExP (fun k => aJ.l3 k (m : Int) b q s f p v) (QD 0 b 100000)
  | 0, s, f, p, v, q, hm, h, h0, hq => by
    refine bU (fun k => by rw [aJ.l3]) (dP (by omega) ?_)
    obtain ⟨w, _, e⟩ := eY hb q 24 h0 (by omega) (by omega)
    refine cU e (cO (fun _ => ?_) (fun _ => cU (jX (by omega) h) (dF ⟨h, rfl, by dsimp only; omega, by dsimp only; omega⟩)))
    exact aKF hb (w, b, q + 1) rfl (by dsimp only; omega) (by dsimp only; omega) 20 0 s f p v (by omega) h
  | m + 1, s, f, p, v, q, hm, h, h0, hq => by
    have hlp := h.lp
    refine bU (fun k => by rw [aJ.l3]) (bA (by omega) (cO (fun hl => ?_) (fun _ => ?_)))
    · obtain ⟨w, ⟨w0, w1, _⟩, e⟩ := eY hb q 16 h0 (by omega) (by omega)
      have w1 := w1 (by omega)
      refine cU e ?_
      dsimp only
      refine fM (gN w.toNat w (by omega) (by omega) (by omega)) ?_
      have hds := pY (n := w) (by omega) (by omega)
      have z1 : (⟨#[120]⟩ : ByteArray).size = 1 := rfl
      refine bA (by omega) ?_
      obtain ⟨x, ⟨x0, x1, _⟩, e1⟩ := eY hb (q + 1) (p.length : Int) (by omega) (by omega) (by omega)
      have x1 := x1 (by omega)
      refine cU e1 (bA x0 (bA x1 ?_))
      dsimp only
      obtain ⟨y, ⟨y0, y1, _⟩, e2⟩ := eY hb (q + 1 + 1) (p.length : Int) (by omega) (by omega) (by omega)
      have y1 := y1 (by omega)
      refine cU e2 (bA y0 (bA y1 ?_))
      dsimp only
      obtain ⟨z, hz, e3⟩ := kK hb (q + 1 + 1 + 1) (by omega) (by omega) ([(⟨#[101, 97, 115, 116]⟩ : ByteArray), (⟨#[119, 101, 115, 116]⟩ : ByteArray)] : List ByteArray) (by decide) (by decide)
      refine cU e3 ?_
      dsimp only
      refine eD (gU h (ws5 (by decide) (by rw [ByteArray.size_append]; omega) (qN h.p1 x x0 x1) (qN h.p1 y y0 y1) (pS hz (by decide))) (by simp)) (fun t ht => ?_)
      rw [show wrap64 (((m + 1 : Nat) : Int) - 1) = (m : Int) by unfold wrap64; omega]
      exact aKT hb m _ _ _ _ _ (by omega) ht (by omega) (by omega)
    · obtain ⟨w, _, e⟩ := eY hb q 24 h0 (by omega) (by omega)
      refine cU e (cO (fun _ => ?_) (fun _ => cU (jX (by omega) h) (dF ⟨h, rfl, by dsimp only; omega, by dsimp only; omega⟩)))
      exact aKU hb (w, b, q + 1) rfl (by dsimp only; omega) (by dsimp only; omega) 20 0 s f p v (by omega) h
theorem aKO {b : List Int} (hb : iE b) (i : Nat) (hi : i < 9) (fl : Bool) (s0 : ByteArray) (hs0 : s0.size ≤ 1000) (s : List ByteArray) (f : List aD) (p : List aB) (v : List aA) (q : Int) (h : PD 0 s f p v) (h0 : 0 ≤ q) (hq : q ≤ 70000)
    (K : ∀ (s : List ByteArray) (f : List aD) (p : List aB) (v : List aA) (q' : Int), PD 0 s f p v → q ≤ q' → q' ≤ q + 1 → ExP (fun k => aJ.l2 k ((i + 1 : Nat) : Int) b q' s f p v) (QD 0 b 100000)) : ExP (fun k => aJ.j0 k (i : Int) fl s f p v (s0, b, q)) (QD 0 b 100000) := by
  have hz : ∀ w ∈ ([(⟨#[97]⟩ : ByteArray), (⟨#[98]⟩ : ByteArray), (⟨#[106, 49]⟩ : ByteArray), (⟨#[106, 50]⟩ : ByteArray), (⟨#[106, 51]⟩ : ByteArray), (⟨#[107, 45, 107]⟩ : ByteArray), (⟨#[118, 49]⟩ : ByteArray), (⟨#[118, 50]⟩ : ByteArray), (⟨#[122]⟩ : ByteArray)] : List ByteArray), w.size ≤ 1000 := fun w hw => pS hw (by decide)
  refine bU (fun k => by rw [aJ.j0]) (cO (fun _ => bA (by omega) (bA (by omega) ?_)) (fun _ => bA (by omega) (bA (by omega) ?_)))
  · rw [dN (n := 100) (by omega) (by omega)]
    exact eD (gU h (ws3 (by decide) (iD hz i) hs0) (by simp)) (fun t ht => K _ _ _ _ _ ht (by dsimp only; omega) (by dsimp only; omega))
  · rw [dN (n := 100) (by omega) (by omega)]
    obtain ⟨w, ⟨w0, w1, _⟩, e⟩ := eY hb q 60 h0 (by omega) (by omega)
    have w1 := w1 (by omega)
    refine cU e ?_
    dsimp only
    rw [show wrap64 (1 + w) = 1 + w from w64 (by omega) (by omega)]
    refine fM (gN (1 + w).toNat (1 + w) (by omega) (by omega) (by omega)) ?_
    have hds := pY (n := 1 + w) (by omega) (by omega)
    exact eD (gU h (ws4 (by decide) (iD hz i) (by omega) hs0) (by simp)) (fun t ht => K _ _ _ _ _ ht (by omega) (by omega))
theorem aHS {b : List Int} (hb : iE b) : ∀ (m i : Nat) (s : List ByteArray) (f : List aD) (p : List aB) (v : List aA) (q : Int), i + m = 9 → PD 0 s f p v → 0 ≤ q → q + 5 * m ≤ 60000 → ExP (fun k => aJ.l2 k (i : Int) b q s f p v) (QD 0 b 100000)
  | 0, i, s, f, p, v, q, hi, h, h0, hq => by
    refine bU (fun k => by rw [aJ.l2]) (dP (by omega) ?_)
    obtain ⟨w, ⟨w0, w1, _⟩, e⟩ := eY hb q 13 h0 (by omega) (by omega)
    have w1 := w1 (by omega)
    obtain ⟨n, rfl⟩ : ∃ n : Nat, w = (n : Int) := ⟨w.toNat, by omega⟩
    refine cU e ?_
    exact aKT hb n s f p v (q + 1) (by omega) h (by omega) (by omega)
  | m + 1, i, s, f, p, v, q, hi, h, h0, hq => by
    refine bU (fun k => by rw [aJ.l2]) (bA (by omega) ?_)
    obtain ⟨w, _, e⟩ := eY hb q 6 h0 (by omega) (by omega)
    refine cU e ?_
    dsimp only
    rw [dN (n := 100) (by omega) (by omega)]
    refine cO (fun _ => aHS hb m (i + 1) _ _ _ _ _ (by omega) h (by omega) (by omega)) (fun _ => ?_)
    obtain ⟨z, hz, e3⟩ := kK hb (q + 1) (by omega) (by omega) ([(⟨#[101, 97, 115, 116]⟩ : ByteArray), (⟨#[119, 101, 115, 116]⟩ : ByteArray)] : List ByteArray) (by decide) (by decide)
    refine cU e3 ?_
    have K : ∀ (s : List ByteArray) (f : List aD) (p : List aB) (v : List aA) (q' : Int), PD 0 s f p v → q + 1 + 1 ≤ q' → q' ≤ q + 1 + 1 + 1 → ExP (fun k => aJ.l2 k ((i + 1 : Nat) : Int) b q' s f p v) (QD 0 b 100000) := fun s f p v q' h h1 h2 => aHS hb m (i + 1) s f p v q' (by omega) h (by omega) (by omega)
    have hzs := pS hz (by decide)
    exact cO (fun _ => aKO hb i (by omega) _ z hzs s f p v _ h (by omega) (by omega) K) (fun _ => aKO hb i (by omega) _ z hzs s f p v _ h (by omega) (by omega) K)
theorem aKM {b : List Int} (hb : iE b) : ∀ (m : Nat) (s : List ByteArray) (f : List aD) (p : List aB) (v : List aA) (q : Int), m ≤ 13 → PD 0 s f p v → 0 ≤ q → q + 10 * m ≤ 80000 → ExP (fun k => aJ.l9 k (m : Int) b q s f p v) (QD 0 b 100000)
  | 0, s, f, p, v, q, hm, h, h0, hq => by
    refine bU (fun k => by rw [aJ.l9]) (dP (by omega) ?_)
    obtain ⟨w, _, e⟩ := eY hb q 24 h0 (by omega) (by omega)
    refine cU e (cO (fun _ => ?_) (fun _ => cU (jX (by omega) h) (dF ⟨h, rfl, by dsimp only; omega, by dsimp only; omega⟩)))
    exact aFI hb (w, b, q + 1) rfl (by dsimp only; omega) (by dsimp only; omega) 20 0 s f p v (by omega) h
  | m + 1, s, f, p, v, q, hm, h, h0, hq => by
    have hlp := h.lp
    refine bU (fun k => by rw [aJ.l9]) (bA (by omega) (cO (fun hl => ?_) (fun _ => ?_)))
    · obtain ⟨w, ⟨w0, w1, _⟩, e⟩ := eY hb q 16 h0 (by omega) (by omega)
      have w1 := w1 (by omega)
      refine cU e ?_
      dsimp only
      refine fM (gN w.toNat w (by omega) (by omega) (by omega)) ?_
      have hds := pY (n := w) (by omega) (by omega)
      have z1 : (⟨#[120]⟩ : ByteArray).size = 1 := rfl
      refine bA (by omega) ?_
      obtain ⟨x, ⟨x0, x1, _⟩, e1⟩ := eY hb (q + 1) (p.length : Int) (by omega) (by omega) (by omega)
      have x1 := x1 (by omega)
      refine cU e1 (bA x0 (bA x1 ?_))
      dsimp only
      obtain ⟨y, ⟨y0, y1, _⟩, e2⟩ := eY hb (q + 1 + 1) (p.length : Int) (by omega) (by omega) (by omega)
      have y1 := y1 (by omega)
      refine cU e2 (bA y0 (bA y1 ?_))
      dsimp only
      obtain ⟨z, hz, e3⟩ := kK hb (q + 1 + 1 + 1) (by omega) (by omega) ([(⟨#[101, 97, 115, 116]⟩ : ByteArray), (⟨#[119, 101, 115, 116]⟩ : ByteArray)] : List ByteArray) (by decide) (by decide)
      refine cU e3 ?_
      dsimp only
      refine eD (gU h (ws5 (by decide) (by rw [ByteArray.size_append]; omega) (qN h.p1 x x0 x1) (qN h.p1 y y0 y1) (pS hz (by decide))) (by simp)) (fun t ht => ?_)
      rw [show wrap64 (((m + 1 : Nat) : Int) - 1) = (m : Int) by unfold wrap64; omega]
      exact aKM hb m _ _ _ _ _ (by omega) ht (by omega) (by omega)
    · obtain ⟨w, _, e⟩ := eY hb q 24 h0 (by omega) (by omega)
      refine cU e (cO (fun _ => ?_) (fun _ => cU (jX (by omega) h) (dF ⟨h, rfl, by dsimp only; omega, by dsimp only; omega⟩)))
      exact aHT hb (w, b, q + 1) rfl (by dsimp only; omega) (by dsimp only; omega) 20 0 s f p v (by omega) h
theorem aKP {b : List Int} (hb : iE b) (i : Nat) (hi : i < 9) (fl : Bool) (s0 : ByteArray) (hs0 : s0.size ≤ 1000) (s : List ByteArray) (f : List aD) (p : List aB) (v : List aA) (q : Int) (h : PD 0 s f p v) (h0 : 0 ≤ q) (hq : q ≤ 70000)
    (K : ∀ (s : List ByteArray) (f : List aD) (p : List aB) (v : List aA) (q' : Int), PD 0 s f p v → q ≤ q' → q' ≤ q + 1 → ExP (fun k => aJ.l8 k ((i + 1 : Nat) : Int) b q' s f p v) (QD 0 b 100000)) : ExP (fun k => aJ.j1 k (i : Int) fl s f p v (s0, b, q)) (QD 0 b 100000) := by
  have hz : ∀ w ∈ ([(⟨#[97]⟩ : ByteArray), (⟨#[98]⟩ : ByteArray), (⟨#[106, 49]⟩ : ByteArray), (⟨#[106, 50]⟩ : ByteArray), (⟨#[106, 51]⟩ : ByteArray), (⟨#[107, 45, 107]⟩ : ByteArray), (⟨#[118, 49]⟩ : ByteArray), (⟨#[118, 50]⟩ : ByteArray), (⟨#[122]⟩ : ByteArray)] : List ByteArray), w.size ≤ 1000 := fun w hw => pS hw (by decide)
  refine bU (fun k => by rw [aJ.j1]) (cO (fun _ => bA (by omega) (bA (by omega) ?_)) (fun _ => bA (by omega) (bA (by omega) ?_)))
  · rw [dN (n := 100) (by omega) (by omega)]
    exact eD (gU h (ws3 (by decide) (iD hz i) hs0) (by simp)) (fun t ht => K _ _ _ _ _ ht (by dsimp only; omega) (by dsimp only; omega))
  · rw [dN (n := 100) (by omega) (by omega)]
    obtain ⟨w, ⟨w0, w1, _⟩, e⟩ := eY hb q 60 h0 (by omega) (by omega)
    have w1 := w1 (by omega)
    refine cU e ?_
    dsimp only
    rw [show wrap64 (1 + w) = 1 + w from w64 (by omega) (by omega)]
    refine fM (gN (1 + w).toNat (1 + w) (by omega) (by omega) (by omega)) ?_
    have hds := pY (n := 1 + w) (by omega) (by omega)
    exact eD (gU h (ws4 (by decide) (iD hz i) (by omega) hs0) (by simp)) (fun t ht => K _ _ _ _ _ ht (by omega) (by omega))
theorem aFV {b : List Int} (hb : iE b) : ∀ (m i : Nat) (s : List ByteArray) (f : List aD) (p : List aB) (v : List aA) (q : Int), i + m = 9 → PD 0 s f p v → 0 ≤ q → q + 5 * m ≤ 60000 → ExP (fun k => aJ.l8 k (i : Int) b q s f p v) (QD 0 b 100000)
  | 0, i, s, f, p, v, q, hi, h, h0, hq => by
    refine bU (fun k => by rw [aJ.l8]) (dP (by omega) ?_)
    obtain ⟨w, ⟨w0, w1, _⟩, e⟩ := eY hb q 13 h0 (by omega) (by omega)
    have w1 := w1 (by omega)
    obtain ⟨n, rfl⟩ : ∃ n : Nat, w = (n : Int) := ⟨w.toNat, by omega⟩
    refine cU e ?_
    exact aKM hb n s f p v (q + 1) (by omega) h (by omega) (by omega)
  | m + 1, i, s, f, p, v, q, hi, h, h0, hq => by
    refine bU (fun k => by rw [aJ.l8]) (bA (by omega) ?_)
    obtain ⟨w, _, e⟩ := eY hb q 6 h0 (by omega) (by omega)
    refine cU e ?_
    dsimp only
    rw [dN (n := 100) (by omega) (by omega)]
    refine cO (fun _ => aFV hb m (i + 1) _ _ _ _ _ (by omega) h (by omega) (by omega)) (fun _ => ?_)
    obtain ⟨z, hz, e3⟩ := kK hb (q + 1) (by omega) (by omega) ([(⟨#[101, 97, 115, 116]⟩ : ByteArray), (⟨#[119, 101, 115, 116]⟩ : ByteArray)] : List ByteArray) (by decide) (by decide)
    refine cU e3 ?_
    have K : ∀ (s : List ByteArray) (f : List aD) (p : List aB) (v : List aA) (q' : Int), PD 0 s f p v → q + 1 + 1 ≤ q' → q' ≤ q + 1 + 1 + 1 → ExP (fun k => aJ.l8 k ((i + 1 : Nat) : Int) b q' s f p v) (QD 0 b 100000) := fun s f p v q' h h1 h2 => aFV hb m (i + 1) s f p v q' (by omega) h (by omega) (by omega)
    have hzs := pS hz (by decide)
    exact cO (fun _ => aKP hb i (by omega) _ z hzs s f p v _ h (by omega) (by omega) K) (fun _ => aKP hb i (by omega) _ z hzs s f p v _ h (by omega) (by omega) K)
theorem aKC {b : List Int} (hb : iE b) : ∀ (m : Nat) (s : List ByteArray) (f : List aD) (p : List aB) (v : List aA) (q : Int), m ≤ 4 → PD 0 s f p v → 0 ≤ q → q + 5 * m ≤ 50000 → ExP (fun k => aJ.l1 k (m : Int) b q s f p v) (QD 0 b 100000)
  | 0, s, f, p, v, q, hm, h, h0, hq => by
    have K := aFV hb 9 0 s f p v q (by omega) h h0 (by omega)
    refine bU (fun k => by rw [aJ.l1]) (dP (by omega) ?_)
    exact K
  | m + 1, s, f, p, v, q, hm, h, h0, hq => by
    have hls := h.ls
    have K := aHS hb 9 0 s f p v q (by omega) h h0 (by omega)
    refine bU (fun k => by rw [aJ.l1]) (bA (by omega) (cO (fun hl => ?_) (fun _ => ?_)))
    rotate_left
    · exact K
    obtain ⟨x, hx, e1⟩ := kK hb q h0 (by omega) s (by omega) (by omega)
    refine cU e1 ?_
    dsimp only
    obtain ⟨y, hy, e2⟩ := kK hb (q + 1) (by omega) (by omega) s (by omega) (by omega)
    refine cU e2 ?_
    dsimp only
    refine eD (gU h (ws3 (by decide) (h.s1 x hx) (h.s1 y hy)) (by simp)) (fun t ht => ?_)
    rw [show wrap64 (((m + 1 : Nat) : Int) - 1) = (m : Int) by unfold wrap64; omega]
    exact aKC hb m _ _ _ _ _ (by omega) ht (by omega) (by omega)
theorem aGD {b : List Int} (hb : iE b) (X : List ByteArray) (hX : X.length = 4) (hXs : ∀ w ∈ X, w.size ≤ 1000) : ∀ (m i : Nat) (s : List ByteArray) (q : Int), i + m = 4 → s.length ≤ i → (∀ x ∈ s, x.size ≤ 1000) → 0 ≤ q → q + 2 * m ≤ 40000 → ExP (fun k => aJ.l0 k X (i : Int) b q s [] [] []) (QD 0 b 100000)
  | 0, i, s, q, hi, hs, hs1, h0, hq => by
    refine bU (fun k => by rw [aJ.l0]) (dP (by omega) ?_)
    obtain ⟨w, ⟨w0, w1, _⟩, e⟩ := eY hb q 4 h0 (by omega) (by omega)
    have w1 := w1 (by omega)
    obtain ⟨n, rfl⟩ : ∃ n : Nat, w = (n : Int) := ⟨w.toNat, by omega⟩
    refine cU e ?_
    exact aKC hb n s [] [] [] (q + 1) (by omega) ⟨by omega, by simp, by simp, by simp, hs1, fun x hx => (by cases hx), fun x hx => (by cases hx), fun x hx => (by cases hx)⟩ (by omega) (by omega)
  | m + 1, i, s, q, hi, hs, hs1, h0, hq => by
    refine bU (fun k => by rw [aJ.l0]) (bA (by omega) ?_)
    obtain ⟨w, _, e⟩ := eY hb q 5 h0 (by omega) (by omega)
    refine cU e ?_
    dsimp only
    rw [dN (n := 100) (by omega) (by omega)]
    refine cO (fun _ => bA (by omega) (bA (by omega) ?_)) (fun _ => aGD hb X hX hXs m (i + 1) s _ (by omega) (by omega) hs1 (by omega) (by omega))
    refine aGD hb X hX hXs m (i + 1) _ _ (by omega) (by simp; omega) (fun x hx => ?_) (by omega) (by omega)
    rcases List.mem_append.1 hx with hx | hx
    · exact hs1 x hx
    · rw [List.mem_singleton] at hx; subst hx; exact iD hXs i
theorem aDX {b : List Int} (hb : iE b) : ExP (fun k => aJ.f k b 0) (QD 0 b 100000) := by
  unfold aJ.f
  exact aGD hb _ rfl (fun w hw => pS hw (by decide)) 4 0 [] 0 (by omega) (by simp) (fun x hx => (by cases hx)) (by omega) (by omega)
theorem wB : ∀ (m : Nat) (s acc : ByteArray) (n : Nat), n ≤ m → n ≤ 100000 → s.size * n ≤ 1000000 → acc.size + s.size * n ≤ 2000000 → ExP (fun k => eG.l0 k s (n : Int) acc) (fun q => q.size ≤ acc.size + s.size * n)
  | 0, s, acc, n, hm, _, _, _ => by
    refine bU (fun k => by rw [eG.l0]) (dP (by omega) (dF (by omega)))
  | m + 1, s, acc, n, hm, hn, hs, ha => by
    refine bU (fun k => by rw [eG.l0]) (cO (fun c => ?_) (fun c => dF (by omega)))
    have e1 : wrap64 (Int.tdiv (n : Int) 2) = ((n / 2 : Nat) : Int) := by rw [Int.tdiv_eq_ediv_of_nonneg (by omega), w64 (by omega) (by omega)]; omega
    have e2 : Int.tmod (n : Int) 2 = ((n % 2 : Nat) : Int) := by rw [Int.tmod_eq_emod_of_nonneg (by omega)]; omega
    have h1 : s.size ≤ s.size * n := Nat.le_mul_of_pos_right _ (by omega)
    have h2 : (s ++ s).size * (n / 2) = s.size * (2 * (n / 2)) := by rw [ByteArray.size_append, ← Nat.mul_assoc]; congr 1; omega
    rw [e1, e2]
    refine cO (fun c2 => ?_) (fun c2 => ?_)
    · have h3 : s.size * n = s.size + s.size * (2 * (n / 2)) := by
        have : n = 1 + 2 * (n / 2) := by omega
        have h := congrArg (s.size * ·) this
        simp only [Nat.mul_add, Nat.mul_one] at h
        exact h
      refine bA (by omega) (bA (by omega) ?_)
      refine lW (wB m (s ++ s) (acc ++ s) (n / 2) (by omega) (by omega) (by omega) (by rw [h2, ByteArray.size_append]; omega)) (fun q hq => ?_)
      rw [h2, ByteArray.size_append] at hq; omega
    · have h3 : s.size * n = s.size * (2 * (n / 2)) := by congr 1; omega
      refine bA (by omega) ?_
      refine lW (wB m (s ++ s) acc (n / 2) (by omega) (by omega) (by omega) (by rw [h2]; omega)) (fun q hq => ?_)
      rw [h2] at hq; omega
def pcs (c : UInt8) : List UInt8 → List (List UInt8)
  | [] => [[]]
  | b :: l => if b = c then [] :: pcs c l else (b :: (pcs c l).headD []) :: (pcs c l).tail
theorem uE (c : UInt8) : ∀ l, pcs c l ≠ []
  | [] => by simp [pcs]
  | b :: l => by unfold pcs; split <;> simp
theorem xU (c : UInt8) (l : List UInt8) : Lib.index (c :: l) [c] = 0 := by simp [Lib.index, List.isPrefixOf]
theorem xS (b c : UInt8) (l : List UInt8) (h : b ≠ c) : Lib.index (b :: l) [c] = if Lib.index l [c] == -1 then -1 else Lib.index l [c] + 1 := by
  have h' : (c == b) = false := by simpa using fun e => h e.symm
  simp [Lib.index, List.isPrefixOf, h']
theorem uH (c : UInt8) : ∀ s : List UInt8, Lib.splitK [c] 0 (Lib.count s [c]) s = pcs c s
  | [] => by rw [Lib.count_miss (by simp [Lib.index])]; rfl
  | b :: l => by
    have ih := uH c l
    by_cases h : b = c
    · subst h
      rw [Lib.count_cons_eq, Nat.add_comm, Lib.splitK, xU, if_neg (by decide)]
      simp [pcs, ih]
    · rw [Lib.count_cons_ne b c l h]
      have hi := xS b c l h
      by_cases hm : Lib.index l [c] = -1
      · rw [Lib.count_miss hm] at ih ⊢
        simp only [Lib.splitK] at ih ⊢
        simp [pcs, h, ← ih]
      · have hge := Lib.index_ge l [c]
        obtain ⟨i, hi'⟩ : ∃ i : Nat, Lib.index l [c] = i := ⟨(Lib.index l [c]).toNat, by omega⟩
        rw [Lib.count_hit (by simp) hi', Nat.add_comm] at ih ⊢
        have e1 : ¬ (Lib.index l [c] == -1) = true := by simpa using hm
        have hi2 : Lib.index (b :: l) [c] = ((i + 1 : Nat) : Int) := by rw [hi, if_neg e1, hi']; omega
        have e2 : ¬ (Lib.index (b :: l) [c] == -1) = true := by
          intro e; have := beq_iff_eq.1 e; omega
        rw [Lib.splitK, if_neg e1, hi'] at ih
        rw [Lib.splitK, if_neg e2, hi2, pcs, if_neg h, ← ih]
        simp [Nat.add_assoc, Nat.add_comm]
        rw [show 1 + (i + 1) = (i + 1) + 1 by omega, List.drop_succ_cons]
def iC (c : UInt8) : List UInt8 → List UInt8
  | [] => []
  | b :: l => if b = c then [] else b :: iC c l
theorem zT (c : UInt8) : ∀ s : List UInt8, (Lib.cut s [c]).1 = iC c s
  | [] => by simp [Lib.cut, Lib.index, iC]
  | b :: l => by
    have ih := zT c l
    by_cases h : b = c
    · subst h
      simp [Lib.cut, xU, iC]
    · have hi := xS b c l h
      have hge := Lib.index_ge l [c]
      by_cases hm : Lib.index l [c] = -1
      · have e : Lib.index (b :: l) [c] = -1 := by rw [hi, if_pos (by simpa using hm)]
        simp only [Lib.cut, hm, e, iC, if_neg h] at ih ⊢
        simpa using ih
      · have e1 : ¬ (Lib.index l [c] == -1) = true := by simpa using hm
        have e : Lib.index (b :: l) [c] = Lib.index l [c] + 1 := by rw [hi, if_neg e1]
        have g0 : 0 ≤ Lib.index l [c] := by omega
        have g1 : 0 ≤ Lib.index l [c] + 1 := by omega
        simp only [Lib.cut, e, iC, if_neg h, if_pos g0, if_pos g1] at ih ⊢
        rw [← ih, show (Lib.index l [c] + 1).toNat = (Lib.index l [c]).toNat + 1 by omega, List.take_succ_cons]
theorem tH (s : ByteArray) (c : UInt8) : (iP s ⟨#[c]⟩).map (fun x => x.data.toList) = pcs c s.data.toList := by
  unfold iP
  rw [Lib.splitB_data]
  exact uH c _
theorem aDV (s : ByteArray) (c : UInt8) : (aFE s ⟨#[c]⟩).1.data.toList = iC c s.data.toList := by
  unfold aFE
  exact zT c _
def mkB (l : List UInt8) : ByteArray := ⟨l.toArray⟩
theorem kI (x : ByteArray) : mkB x.data.toList = x := by cases x; simp [mkB]
theorem qP (l : List UInt8) : (mkB l).data.toList = l := by simp [mkB]
theorem gM (l : List UInt8) : (mkB l).size = l.length := by show l.toArray.size = l.length; simp
theorem iB (s : ByteArray) : s.data.toList.length = s.size := by show s.data.toList.length = s.data.size; simp
theorem aCS {l : List UInt8} : mkB l = (⟨#[]⟩ : ByteArray) ↔ l = [] := by
  constructor
  · intro h
    have := congrArg (fun x : ByteArray => x.data.toList) h
    simpa [mkB] using this
  · rintro rfl; rfl
theorem jQ (s : ByteArray) (i : Nat) (h : i < s.size) : bt s (i : Int) = ((s.data.toList.getD i 0).toNat : Int) := by
  have h' : i < s.data.toList.length := by rw [iB]; exact h
  unfold bt
  rw [dif_pos (by simpa using h), gZ _ _ _ h']
  simp only [Int.toNat_natCast]
  rfl
theorem yI (s : ByteArray) (i : Nat) (h : i < s.size) : s.extract i (i + 1) = mkB [s.data.toList.getD i 0] := by
  have h' : i < s.data.toList.length := by rw [iB]; exact h
  apply ByteArray.ext
  apply Array.ext'
  rw [gZ _ _ _ h']
  simp only [ByteArray.data_extract, Array.toList_extract, mkB, List.extract_eq_take_drop]
  rw [show i + 1 - i = 1 by omega, List.drop_eq_getElem_cons h']
  simp
theorem tJ (s : ByteArray) (i : Nat) : s.extract 0 i = mkB (s.data.toList.take i) := by
  apply ByteArray.ext
  apply Array.ext'
  simp [ByteArray.data_extract, mkB, List.extract_eq_take_drop]
theorem xL (a b : List UInt8) : mkB a ++ mkB b = mkB (a ++ b) := by
  apply ByteArray.ext
  simp [ByteArray.data_append, mkB]
theorem tQ (b : UInt8) : b.toNat < 256 := b.toNat_lt
theorem rF (c : UInt8) : ∀ l : List UInt8, (iC c l).length ≤ l.length
  | [] => Nat.le_refl _
  | b :: l => by
    have := rF c l
    unfold iC
    split
    · simp
    · simp; omega
def okW (b : UInt8) : Bool := decide (32 ≤ b.toNat ∧ b.toNat ≤ 126)
def wsp : List UInt8 → List UInt8 → List ByteArray → Option (List ByteArray)
  | [], _, out => some out
  | b :: l, cur, out => if b = 32 then (if cur = [] then wsp l cur out else wsp l [] (out ++ [mkB cur])) else if (33 ≤ b.toNat ∧ b.toNat ≤ 126) ∧ cur.length + 1 ≤ 24 then wsp l (cur ++ [b]) out else none
def goP : List (List UInt8) → List ByteArray → Option (List ByteArray)
  | [], out => some out
  | p :: ps, out => if p = [] then goP ps out else if p.length > 24 then none else goP ps (out ++ [mkB p])
theorem aBW {b : UInt8} : b = 32 ↔ b.toNat = 32 := ⟨fun h => by subst h; rfl, fun h => UInt8.toNat_inj.1 (by rw [h]; rfl)⟩
theorem aJY {b : UInt8} : b = 35 ↔ b.toNat = 35 := ⟨fun h => by subst h; rfl, fun h => UInt8.toNat_inj.1 (by rw [h]; rfl)⟩
theorem xH : ∀ (bs cur : List UInt8) (out : List ByteArray), cur.length ≤ 24 → wsp (bs ++ [32]) cur out = if bs.all okW = true then goP ((cur ++ (pcs 32 bs).headD []) :: (pcs 32 bs).tail) out else none
  | [], cur, out, hc => by
    have : ¬ cur.length > 24 := by omega
    simp only [List.nil_append, wsp, pcs, goP, List.all_nil, List.headD_cons, List.append_nil, List.tail_cons]
    by_cases h : cur = [] <;> simp [h, this]
  | b :: l, cur, out, hc => by
    rw [List.cons_append, wsp]
    by_cases h : b = 32
    · subst h
      have i1 := xH l [] out (by simp)
      have i2 := xH l [] (out ++ [mkB cur]) (by simp)
      have hne := uE 32 l
      have e : ([] ++ (pcs 32 l).headD []) :: (pcs 32 l).tail = pcs 32 l := by
        cases hp : pcs 32 l with
        | nil => exact absurd hp hne
        | cons p ps => simp
      rw [e] at i1 i2
      have ok : okW 32 = true := by decide
      have : ¬ cur.length > 24 := by omega
      simp only [pcs, if_true, List.headD_cons, List.append_nil, List.tail_cons, List.all_cons, ok, Bool.true_and, goP]
      by_cases hcur : cur = []
      · subst hcur; simp [i1]
      · simp [hcur, this, i2]
    · rw [if_neg h]
      have hb : b.toNat ≠ 32 := fun e => h (aBW.2 e)
      simp only [pcs, if_neg h, List.headD_cons, List.tail_cons, List.all_cons]
      by_cases h1 : 33 ≤ b.toNat ∧ b.toNat ≤ 126
      · have ok : okW b = true := decide_eq_true (by omega)
        by_cases h2 : cur.length + 1 ≤ 24
        · rw [if_pos ⟨h1, h2⟩, xH l (cur ++ [b]) out (by simp; omega), ok, Bool.true_and]
          simp
        · rw [if_neg (fun q => h2 q.2), ok, Bool.true_and]
          have e1 : cur ++ b :: (pcs 32 l).headD [] ≠ [] := by simp
          have e2 : (cur ++ b :: (pcs 32 l).headD []).length > 24 := by simp; omega
          rw [goP, if_neg e1, if_pos e2]
          simp
      · have ok : okW b = false := decide_eq_false (by omega)
        rw [if_neg (fun q => h1 q.1), ok]
        simp
theorem aER (bs : List UInt8) : wsp (bs ++ [32]) [] [] = if bs.all okW = true then goP (pcs 32 bs) [] else none := by
  have h := xH bs [] [] (by simp)
  have hne := uE 32 bs
  have e : ([] ++ (pcs 32 bs).headD []) :: (pcs 32 bs).tail = pcs 32 bs := by
    cases hp : pcs 32 bs with
    | nil => exact absurd hp hne
    | cons p ps => simp
  rw [e] at h; exact h
def qF : Option (List ByteArray) → List ByteArray × Bool
  | none => ([], false)
  | some o => if o.length > 16 then ([], false) else (o, true)
theorem aHB (o : Option (List ByteArray)) : (qF o).1.length ≤ 16 := by
  unfold qF
  split
  · simp
  · split
    · simp
    · rename_i h; simp; omega
def aIR : Option (List ByteArray) → List ByteArray × Bool
  | none => ([], false)
  | some o => (o, true)
theorem yN (s : ByteArray) (hs : s.size ≤ 1048576) : Ev (fun k => bX.f k s) (aIR (if (iC 35 s.data.toList).all okW = true then goP (pcs 32 (iC 35 s.data.toList)) [] else none)) := by
  unfold bX.f
  have eC : strings_Cut.f s (⟨#[35]⟩ : ByteArray) = some (aFE s (⟨#[35]⟩ : ByteArray)) := by
    unfold strings_Cut.f aDA; rw [if_pos (by omega)]
  have hb := aDV s 35
  refine oJ eC ?_
  generalize aFE s (⟨#[35]⟩ : ByteArray) = C at *
  have hbl := rF 35 s.data.toList
  rw [iB] at hbl
  have hC : C.1 = mkB (iC 35 s.data.toList) := by rw [← hb, kI]
  generalize iC 35 s.data.toList = B at *
  have hCs : C.1.size = B.length := by rw [hC, gM]
  have L1 : B.all okW = true → Ev (fun k => bX.l0 k (B.length : Int) C) (aIR (goP (pcs 32 B) [])) := fun _ => by
    refine Ev.step (fun k => by rw [bX.l0]) (bT (by omega) ?_)
    have eS : strings_Split.f C.1 (⟨#[32]⟩ : ByteArray) = some (iP C.1 (⟨#[32]⟩ : ByteArray)) := by
      unfold strings_Split.f qU; rw [if_pos ⟨by omega, by decide⟩]
    refine oJ eS ?_
    have hm := tH C.1 32
    rw [hb] at hm
    have hlen : (iP C.1 (⟨#[32]⟩ : ByteArray)).length ≤ 4294967296 := by
      have h1 := Lib.splitB_length_le (⟨#[32]⟩ : ByteArray) 0 (Lib.countB C.1 (⟨#[32]⟩ : ByteArray)) C.1
      have h2 := Lib.countB_le (⟨#[32]⟩ : ByteArray) (by decide) C.1.size C.1 (Nat.le_refl _)
      unfold iP; omega
    generalize iP C.1 (⟨#[32]⟩ : ByteArray) = ws at *
    rw [← hm]
    have key := eO ByteArray.empty ws (P := fun i r => i ≤ ws.length → ∀ out : List ByteArray, out.length ≤ i → Ev (fun k => bX.l1 k out (i : Int) ws) (aIR (goP (r.map (fun x => x.data.toList)) out)))
      (fun _ out _ => by refine Ev.step (fun k => by rw [bX.l1]) ?_; exact bT (by omega) (aX rfl)) (fun i x r hi hx hmm _ ih _ out ho => ?_)
    · exact key (by omega) [] (by simp)
    refine Ev.step (fun k => by rw [bX.l1]) (aO (by omega) (aO (by omega) ?_))
    rw [eZ, hx, dN hi (by omega), List.map_cons, goP]
    have hxl := iB x
    refine aY (fun c => ?_) (fun c => ?_)
    · have : x.data.toList = [] := by rw [cR.1 c]
      rw [if_pos this]
      exact ih (by omega) out (by omega)
    · have : ¬ x.data.toList = [] := fun e => c (cR.2 (by rw [← kI x, e]; rfl))
      rw [if_neg this]
      refine aY (fun c2 => ?_) (fun c2 => ?_)
      · rw [if_pos (by omega)]; exact aX rfl
      · rw [if_neg (by omega), kI]
        exact aO (by omega) (ih (by omega) _ (by simp; omega))
  have key := eO (0 : UInt8) B (P := fun i r => (r.all okW = true → B.all okW = true) → i ≤ B.length → Ev (fun k => bX.l0 k (i : Int) C) (aIR (if r.all okW = true then goP (pcs 32 B) [] else none)))
    (fun h _ => by rw [if_pos (by rfl)]; exact L1 (h rfl)) (fun i x r hi hx hm _ ih h _ => ?_)
  · exact key (fun h => h) (by omega)
  have hbt : bt C.1 (i : Int) = (x.toNat : Int) := by rw [jQ _ i (by omega), hb, hx]
  refine Ev.step (fun k => by rw [bX.l0]) (aO (by omega) (aO (by omega) ?_))
  rw [hbt, dN hi (by omega), List.all_cons]
  refine aY (fun c => ?_) (fun c => aY (fun c2 => ?_) (fun c2 => ?_))
  · have ok : okW x = false := decide_eq_false (by omega)
    rw [ok]; exact aX rfl
  · have ok : okW x = false := decide_eq_false (by omega)
    rw [ok]; exact aX rfl
  · have ok : okW x = true := decide_eq_true (by omega)
    rw [ok, Bool.true_and]
    exact ih (fun q => h (by rw [List.all_cons, ok, Bool.true_and]; exact q)) (by omega)
theorem xA (s : ByteArray) (hs : s.size ≤ 1048576) : Ev (fun k => fX.f k s) (qF (wsp (iC 35 s.data.toList ++ [32]) [] [])) := by
  unfold fX.f
  rw [aER]
  refine Ev.bind (yN s hs) ?_
  generalize (if (iC 35 s.data.toList).all okW = true then goP (pcs 32 (iC 35 s.data.toList)) [] else none) = o
  cases o with
  | none => exact bT (by decide) (aX rfl)
  | some o =>
    refine aO rfl (aY (fun c => aX ?_) (fun c => aX ?_))
    · show _ = qF (some o)
      have c : (o.length : Int) > 16 := c
      unfold qF; simp only; rw [if_pos (by omega)]
    · show _ = qF (some o)
      have c : ¬ (o.length : Int) > 16 := c
      unfold qF; simp only; rw [if_neg (by omega)]; rfl
theorem aEH (s : ByteArray) (hs : s.size ≤ 140737488351232) : Ev (fun k => eH.f k s) (mkB (iC 35 s.data.toList)) := by
  unfold eH.f
  have hl := iB s
  have key := eO (0 : UInt8) s.data.toList (P := fun i r => i ≤ s.data.toList.length → s.data.toList.drop i = r → Ev (fun k => eH.l0 k s (i : Int)) (mkB (s.data.toList.take i ++ iC 35 r)))
    (fun _ _ => by
      refine Ev.step (fun k => by rw [eH.l0]) (bT (by omega) (aX ?_))
      rw [List.take_of_length_le (Nat.le_refl _), iC, List.append_nil, kI]) (fun i x r hi hx hm hd ih _ _ => ?_)
  · have := key (by omega) rfl
    simpa using this
  refine Ev.step (fun k => by rw [eH.l0]) (aO (by omega) (aO (by omega) ?_))
  rw [jQ s i (by omega), hx, dN (n := s.data.toList.length) hi (by omega)]
  refine aY (fun c => aO (by omega) (aX ?_)) (fun c => fF (ih (by omega) hd) ?_)
  · have : x = 35 := aJY.2 (by omega)
    subst this
    simp [iC, tJ]
  · have : ¬ x = 35 := fun e => c (by rw [aJY.1 e]; rfl)
    rw [iC, if_neg this]
    have ht : s.data.toList.take (i + 1) = s.data.toList.take i ++ [x] := by
      rw [List.take_succ_eq_append_getElem hi]
      rw [gZ _ _ _ hi] at hx
      rw [hx]
    rw [ht]; simp
theorem wH (s : ByteArray) (hs : s.size ≤ 1048576) : Ev (fun k => cQ.f k s) (qF (wsp (iC 35 s.data.toList ++ [32]) [] [])) := by
  unfold cQ.f
  refine Ev.bind (aEH s (by omega)) ?_
  have hbl := rF 35 s.data.toList
  rw [iB] at hbl
  generalize iC 35 s.data.toList = B at *
  have e32 : (⟨#[32]⟩ : ByteArray) = mkB [32] := rfl
  refine aO (by rw [e32, gM, gM]; simp; omega) ?_
  have key := eO (0 : UInt8) (B ++ [32]) (P := fun i r => i ≤ (B ++ [32]).length → ∀ (cur : List UInt8) (out : List ByteArray), cur.length ≤ 24 → out.length ≤ i → Ev (fun k => cQ.l0 k out (mkB cur) (i : Int) (mkB B)) (qF (wsp r cur out)))
    (fun _ cur out hc ho => by
      refine Ev.step (fun k => by rw [cQ.l0]) ?_
      rw [e32, xL, gM]
      refine bT (by omega) ?_
      unfold wsp qF
      refine aY (fun c => aX ?_) (fun c => aX ?_)
      · simp only; rw [if_pos (by omega)]
      · simp only; rw [if_neg (by omega)]) (fun i x r hi hx hm _ ih _ cur out hc ho => ?_)
  · exact key (by omega) [] [] (by simp) (by simp)
  have hBl : (B ++ [32]).length ≤ 1048577 := by simp; omega
  refine Ev.step (fun k => by rw [cQ.l0]) ?_
  have hsz : (mkB (B ++ [32])).size = (B ++ [32]).length := gM _
  have hbt : bt (mkB (B ++ [32])) (i : Int) = (x.toNat : Int) := by rw [jQ _ i (by omega), qP, hx]
  have hex : (mkB (B ++ [32])).extract ((i : Int)).toNat ((i + 1 : Nat) : Int).toNat = mkB [x] := by
    rw [Int.toNat_natCast, Int.toNat_natCast, yI _ i (by omega), qP, hx]
  have hx8 := tQ x
  rw [e32, xL, dN hi (by omega), hbt, hex, xL]
  refine aO (by omega) (aO (by omega) ?_)
  rw [wsp]
  refine aY (fun c => ?_) (fun c => ?_)
  · rw [if_pos (aBW.2 (by omega))]
    refine aY (fun c2 => ?_) (fun c2 => ?_)
    · have : cur = [] := aCS.1 (cR.1 c2)
      rw [if_pos this]
      exact ih (by omega) cur out hc (by omega)
    · have : ¬ cur = [] := fun e => c2 (cR.2 (aCS.2 e))
      rw [if_neg this]
      refine aO (by omega) ?_
      exact ih (by omega) [] (out ++ [mkB cur]) (by simp) (by simp; omega)
  · rw [if_neg (fun e => c (by rw [aBW.1 e]; rfl))]
    refine aO (by omega) (aO (by omega) (aO (by rw [gM, gM]; simp; omega) ?_))
    rw [w64 (by omega) (by omega)]
    refine Ev.bind (mE _ _ _) (fI (fun c1 => ?_) (fun c1 => ?_))
    · have h1 : 33 ≤ x.toNat ∧ x.toNat ≤ 126 := by have := of_decide_eq_true c1; omega
      refine aY (fun c2 => ?_) (fun c2 => ?_)
      · rw [gM] at c2; simp at c2
        rw [if_neg (by omega)]; exact aX rfl
      · rw [gM] at c2; simp at c2
        rw [if_pos ⟨h1, by omega⟩]
        exact ih (by omega) (cur ++ [x]) out (by simp; omega) (by omega)
    · have h1 : ¬ (33 ≤ x.toNat ∧ x.toNat ≤ 126) := by have := of_decide_eq_false c1; omega
      rw [if_neg (fun q => h1 q.1)]; exact aX rfl
def hU : List UInt8 → List UInt8 → List ByteArray
  | cur, [] => if cur = [] then [] else [mkB cur]
  | cur, b :: r => if b = 10 then mkB cur :: hU [] r else hU (cur ++ [b]) r
def dl : List (List UInt8) → List ByteArray
  | [] => []
  | [p] => if p = [] then [] else [mkB p]
  | p :: q :: r => mkB p :: dl (q :: r)
theorem xK : ∀ (l cur : List UInt8), hU cur l = dl ((cur ++ (pcs 10 l).headD []) :: (pcs 10 l).tail)
  | [], cur => by simp [hU, pcs, dl]
  | b :: l, cur => by
    by_cases h : b = 10
    · subst h
      have ih := xK l []
      have hne := uE 10 l
      cases hp : pcs 10 l with
      | nil => exact absurd hp hne
      | cons p ps =>
        rw [hp] at ih
        simp only [List.headD_cons, List.tail_cons, List.nil_append] at ih
        simp [hU, pcs, hp, dl, ih]
    · have ih := xK l (cur ++ [b])
      simp only [hU, pcs, if_neg h, List.headD_cons, List.tail_cons]
      rw [ih]; simp
theorem aFR (l : List UInt8) : hU [] l = dl (pcs 10 l) := by
  have h := xK l []
  have hne := uE 10 l
  cases hp : pcs 10 l with
  | nil => exact absurd hp hne
  | cons p ps => rw [hp] at h; simpa using h
theorem rZ (s : ByteArray) (a i : Nat) (h : i ≤ s.size) : s.extract a i = mkB ((s.data.toList.drop a).take (i - a)) := by
  apply ByteArray.ext
  apply Array.ext'
  simp [ByteArray.data_extract, mkB, List.extract_eq_take_drop]
theorem aBX : ∀ (ws : List ByteArray), ws ≠ [] → dl (ws.map fun x => x.data.toList) = if ws.getD (ws.length - 1) ByteArray.empty = (⟨#[]⟩ : ByteArray) then ws.take (ws.length - 1) else ws
  | [], h => absurd rfl h
  | [x], _ => by
    simp only [List.map_cons, List.map_nil, dl, List.length_cons, List.length_nil]
    by_cases h : x = (⟨#[]⟩ : ByteArray)
    · subst h; simp
    · have : ¬ x.data.toList = [] := fun e => h (by rw [← kI x, e]; rfl)
      simp [this, h, kI]
  | x :: y :: r, _ => by
    have ih := aBX (y :: r) (by simp)
    simp only [List.map_cons] at ih ⊢
    rw [dl, ih, kI]
    have e1 : (x :: y :: r).length - 1 = (y :: r).length - 1 + 1 := by simp
    rw [e1, List.getD_cons_succ, List.take_succ_cons]
    split <;> rfl
theorem xR (s : ByteArray) (hs : s.size ≤ 1048576) : Ev (fun _ => iA.f s) (hU [] s.data.toList) := by
  unfold iA.f
  have eS : strings_Split.f s (⟨#[10]⟩ : ByteArray) = some (iP s (⟨#[10]⟩ : ByteArray)) := by
    unfold strings_Split.f qU; rw [if_pos ⟨by omega, by decide⟩]
  refine oJ eS ?_
  have hm := tH s 10
  have hlen : (iP s (⟨#[10]⟩ : ByteArray)).length ≤ 4294967296 := by
    have h1 := Lib.splitB_length_le (⟨#[10]⟩ : ByteArray) 0 (Lib.countB s (⟨#[10]⟩ : ByteArray)) s
    have h2 := Lib.countB_le (⟨#[10]⟩ : ByteArray) (by decide) s.size s (Nat.le_refl _)
    unfold iP; omega
  rw [aFR, ← hm]
  have hne : iP s (⟨#[10]⟩ : ByteArray) ≠ [] := fun e => by rw [e] at hm; exact uE 10 _ hm.symm
  generalize iP s (⟨#[10]⟩ : ByteArray) = ws at *
  rw [aBX ws hne]
  have hpos := List.length_pos_iff.2 hne
  have hw : wrap64 ((ws.length : Int) - 1) = ((ws.length - 1 : Nat) : Int) := by rw [w64 (by omega) (by omega)]; omega
  rw [hw, eZ]
  refine aO (by omega) (aO (by omega) (aY (fun c => ?_) (fun c => ?_)))
  · rw [if_pos (cR.1 c), Int.toNat_natCast]
    exact aO (by omega) (aX rfl)
  · rw [if_neg (fun e => c (cR.2 e))]; exact aX rfl
theorem qV : ∀ (l cur : List UInt8), ∀ x ∈ hU cur l, x.size ≤ cur.length + l.length
  | [], cur, x, hx => by
    unfold hU at hx
    split at hx
    · cases hx
    · rw [List.mem_singleton] at hx; subst hx; rw [gM]; simp
  | b :: l, cur, x, hx => by
    unfold hU at hx
    split at hx
    · rcases List.mem_cons.1 hx with rfl | hx
      · rw [gM]; simp
      · have := qV l [] x hx; simp at this ⊢; omega
    · have := qV l (cur ++ [b]) x hx; simp at this ⊢; omega
theorem tT (s : ByteArray) (hs : s.size ≤ 1048576) : Ev (fun k => cH.f k s) (hU [] s.data.toList) := by
  unfold cH.f
  have hl := iB s
  have key := eO (0 : UInt8) s.data.toList (P := fun i r => i ≤ s.data.toList.length → ∀ (out : List ByteArray) (a : Nat), a ≤ i → out.length ≤ i → Ev (fun k => cH.l0 k s out (a : Int) (i : Int)) (out ++ hU ((s.data.toList.drop a).take (i - a)) r))
    (fun _ out a ha ho => by
      refine Ev.step (fun k => by rw [cH.l0]) ?_
      refine bT (by omega) ?_
      have e : (s.data.toList.drop a).take (s.data.toList.length - a) = s.data.toList.drop a := List.take_of_length_le (by rw [List.length_drop]; omega)
      rw [e, hU]
      refine aY (fun c => ?_) (fun c => ?_)
      · have hne : ¬ s.data.toList.drop a = [] := fun q => by have := List.drop_eq_nil_iff.1 q; omega
        rw [if_neg hne]
        refine aO (by omega) (aO (by omega) (aO (by omega) (aX ?_)))
        rw [Int.toNat_natCast, rZ _ _ _ (Nat.le_refl _), List.take_of_length_le (by rw [List.length_drop]; omega)]
      · have he : s.data.toList.drop a = [] := List.drop_eq_nil_iff.2 (by omega)
        rw [if_pos he, List.append_nil]; exact aX rfl) (fun i x r hi hx hm _ ih _ out a ha ho => ?_)
  · have := key (by omega) [] 0 (by omega) (by simp)
    simpa using this
  have hxb := tQ x
  refine Ev.step (fun k => by rw [cH.l0]) ?_
  refine aO (by omega) (aO (by omega) ?_)
  rw [jQ s i (by omega), hx, dN hi (by omega), hU]
  refine aY (fun c => ?_) (fun c => ?_)
  · have h10 : x = 10 := UInt8.toNat_inj.1 (by show x.toNat = 10; omega)
    rw [if_pos h10]
    refine aO (by omega) (aO (by omega) (aO (by omega) (aO (by omega) ?_)))
    rw [Int.toNat_natCast, Int.toNat_natCast, rZ _ _ _ (by omega)]
    have := ih (by omega) (out ++ [mkB ((s.data.toList.drop a).take (i - a))]) (i + 1) (Nat.le_refl _) (by simp; omega)
    rw [Nat.sub_self, List.take_zero] at this
    refine fF this ?_
    simp
  · have h10 : ¬ x = 10 := fun e => c (by rw [e]; rfl)
    rw [if_neg h10]
    refine fF (ih (by omega) out a (by omega) (by omega)) ?_
    have e : (s.data.toList.drop a).take (i + 1 - a) = (s.data.toList.drop a).take (i - a) ++ [x] := by
      rw [show i + 1 - a = (i - a) + 1 by omega, List.take_succ_eq_append_getElem (by rw [List.length_drop]; omega), List.getElem_drop]
      rw [gZ _ _ _ hi] at hx
      simp only [show a + (i - a) = i by omega, hx]
    rw [e]
def lL : List UInt8 → Int → Option Int
  | [], n => some n
  | b :: r, n => if 48 ≤ b.toNat ∧ b.toNat ≤ 57 then lL r (10 * n + ((b.toNat : Int) - 48)) else none
theorem zM : ∀ (r : List UInt8) (n v : Int), 0 ≤ n → lL r n = some v → 0 ≤ v
  | [], n, v, h0, h => by injection h with h; omega
  | b :: r, n, v, h0, h => by
    rw [lL] at h
    split at h
    · exact zM r _ v (by omega) h
    · cases h
def kX (s : ByteArray) : Int := if 1 ≤ s.size ∧ s.size ≤ 4 then (if s.size > 1 ∧ s.data.toList.getD 0 0 = 48 then -1 else (lL s.data.toList 0).getD (-1)) else -1
def aDQ : Option Int → Int × Bool
  | some v => (v, true)
  | none => (0, false)
def aDY (s : ByteArray) : Int × Bool := if 0 ≤ kX s then (kX s, true) else (0, false)
def kB (i : Nat) (n : Int) : Prop := 0 ≤ n ∧ n ≤ 9999 ∧ (i = 0 → n ≤ 0) ∧ (i = 1 → n ≤ 9) ∧ (i = 2 → n ≤ 99) ∧ (i = 3 → n ≤ 999)
theorem lO {i : Nat} {n : Int} (h : kB i n) (hi : i < 4) {c : Nat} (h0 : 48 ≤ c) (h1 : c ≤ 57) : kB (i + 1) (10 * n + ((c : Int) - 48)) := by
  obtain ⟨a, b, c0, c1, c2, c3⟩ := h
  unfold kB; omega
theorem aCR {b : UInt8} : b = 48 ↔ b.toNat = 48 := ⟨fun h => by subst h; rfl, fun h => UInt8.toNat_inj.1 (by rw [h]; rfl)⟩
theorem aKD (c : Int) (h0 : 48 ≤ c) (h1 : c ≤ 57) : IntKind.wrap .u8 (c - 48) = c - 48 := by
  have : c = 48 ∨ c = 49 ∨ c = 50 ∨ c = 51 ∨ c = 52 ∨ c = 53 ∨ c = 54 ∨ c = 55 ∨ c = 56 ∨ c = 57 := by omega
  rcases this with rfl | rfl | rfl | rfl | rfl | rfl | rfl | rfl | rfl | rfl <;> decide +kernel
theorem aML (s : ByteArray) (hs : s.size ≤ 4) : Ev (fun k => bG.l0 k s 0 0) ((lL s.data.toList 0).getD (-1)) := by
  have hl := iB s
  have key := eO (0 : UInt8) s.data.toList (P := fun i r => ∀ n : Int, kB i n → Ev (fun k => bG.l0 k s n (i : Int)) ((lL r n).getD (-1)))
    (fun n _ => by refine Ev.step (fun k => by rw [bG.l0]) ?_; exact bT (by omega) (aX rfl)) (fun i x r hi hx hm _ ih n hn => ?_)
  · exact key 0 (by unfold kB; omega)
  have hx8 := tQ x
  refine Ev.step (fun k => by rw [bG.l0]) (aO (by omega) (aO (by omega) ?_))
  rw [jQ s i (by omega), hx, dN hi (by omega), lL]
  refine aY (fun c => ?_) (fun c => aY (fun c2 => ?_) (fun c2 => ?_))
  · rw [if_neg (by omega)]; exact aX rfl
  · rw [if_neg (by omega)]; exact aX rfl
  · rw [if_pos ⟨by omega, by omega⟩]
    have hn' := lO hn (by omega) (c := x.toNat) (by omega) (by omega)
    obtain ⟨a, b, _⟩ := hn
    rw [w64 (x := n * 10) (by omega) (by omega), w64 (x := (x.toNat : Int)) (by omega) (by omega), w64 (x := n * 10 + (x.toNat : Int)) (by omega) (by omega), w64 (x := n * 10 + (x.toNat : Int) - 48) (by omega) (by omega), show n * 10 + (x.toNat : Int) - 48 = 10 * n + ((x.toNat : Int) - 48) by omega]
    exact ih _ hn'
theorem aMD (s : ByteArray) (hs : s.size ≤ 4) : Ev (fun k => bG.l1 k s 0 0) ((lL s.data.toList 0).getD (-1)) := by
  have hl := iB s
  have key := eO (0 : UInt8) s.data.toList (P := fun i r => ∀ n : Int, kB i n → Ev (fun k => bG.l1 k s n (i : Int)) ((lL r n).getD (-1)))
    (fun n _ => by refine Ev.step (fun k => by rw [bG.l1]) ?_; exact bT (by omega) (aX rfl)) (fun i x r hi hx hm _ ih n hn => ?_)
  · exact key 0 (by unfold kB; omega)
  have hx8 := tQ x
  refine Ev.step (fun k => by rw [bG.l1]) (aO (by omega) (aO (by omega) ?_))
  rw [jQ s i (by omega), hx, dN hi (by omega), lL]
  refine aY (fun c => ?_) (fun c => aY (fun c2 => ?_) (fun c2 => ?_))
  · rw [if_neg (by omega)]; exact aX rfl
  · rw [if_neg (by omega)]; exact aX rfl
  · rw [if_pos ⟨by omega, by omega⟩]
    have hn' := lO hn (by omega) (c := x.toNat) (by omega) (by omega)
    obtain ⟨a, b, _⟩ := hn
    rw [w64 (x := n * 10) (by omega) (by omega), w64 (x := (x.toNat : Int)) (by omega) (by omega), w64 (x := n * 10 + (x.toNat : Int)) (by omega) (by omega), w64 (x := n * 10 + (x.toNat : Int) - 48) (by omega) (by omega), show n * 10 + (x.toNat : Int) - 48 = 10 * n + ((x.toNat : Int) - 48) by omega]
    exact ih _ hn'
theorem sA (s : ByteArray) : Ev (fun k => bG.f k s) (kX s) := by
  unfold bG.f kX
  refine Ev.bind (mE _ _ _) (fI (fun c => ?_) (fun c => ?_))
  · have := of_decide_eq_true c
    rw [if_pos (by omega)]
    refine aY (fun c1 => aO (by omega) ?_) (fun c1 => ?_)
    · have hb : bt s 0 = ((s.data.toList.getD 0 0).toNat : Int) := jQ s 0 (by omega)
      rw [hb]
      refine aY (fun c2 => ?_) (fun c2 => ?_)
      · rw [if_pos ⟨by omega, aCR.2 (by omega)⟩]; exact aX rfl
      · rw [if_neg (fun q => c2 (by rw [aCR.1 q.2]; rfl))]; exact aML s (by omega)
    · rw [if_neg (fun q => by omega)]; exact aMD s (by omega)
  · have := of_decide_eq_false c
    rw [if_neg (by omega)]; exact aX rfl
theorem aMR (s : ByteArray) (hs : s.size ≤ 4) : Ev (fun k => cE.l0 k s 0 0) (aDQ (lL s.data.toList 0)) := by
  have hl := iB s
  have key := eO (0 : UInt8) s.data.toList (P := fun i r => ∀ n : Int, kB i n → Ev (fun k => cE.l0 k s n (i : Int)) (aDQ (lL r n)))
    (fun n _ => by refine Ev.step (fun k => by rw [cE.l0]) ?_; exact bT (by omega) (aX rfl)) (fun i x r hi hx hm _ ih n hn => ?_)
  · exact key 0 (by unfold kB; omega)
  have hx8 := tQ x
  refine Ev.step (fun k => by rw [cE.l0]) (aO (by omega) (aO (by omega) ?_))
  rw [jQ s i (by omega), hx, dN hi (by omega), lL]
  refine aY (fun c => ?_) (fun c => aY (fun c2 => ?_) (fun c2 => ?_))
  · rw [if_neg (by omega)]; exact aX rfl
  · rw [if_neg (by omega)]; exact aX rfl
  · rw [if_pos ⟨by omega, by omega⟩]
    have hn' := lO hn (by omega) (c := x.toNat) (by omega) (by omega)
    obtain ⟨a, b, _⟩ := hn
    rw [aKD _ (by omega) (by omega), w64 (x := 10 * n) (by omega) (by omega), w64 (x := (x.toNat : Int) - 48) (by omega) (by omega), w64 (x := 10 * n + ((x.toNat : Int) - 48)) (by omega) (by omega)]
    exact ih _ hn'
theorem aNB (s : ByteArray) (hs : s.size ≤ 4) : Ev (fun k => cE.l1 k s 0 0) (aDQ (lL s.data.toList 0)) := by
  have hl := iB s
  have key := eO (0 : UInt8) s.data.toList (P := fun i r => ∀ n : Int, kB i n → Ev (fun k => cE.l1 k s n (i : Int)) (aDQ (lL r n)))
    (fun n _ => by refine Ev.step (fun k => by rw [cE.l1]) ?_; exact bT (by omega) (aX rfl)) (fun i x r hi hx hm _ ih n hn => ?_)
  · exact key 0 (by unfold kB; omega)
  have hx8 := tQ x
  refine Ev.step (fun k => by rw [cE.l1]) (aO (by omega) (aO (by omega) ?_))
  rw [jQ s i (by omega), hx, dN hi (by omega), lL]
  refine aY (fun c => ?_) (fun c => aY (fun c2 => ?_) (fun c2 => ?_))
  · rw [if_neg (by omega)]; exact aX rfl
  · rw [if_neg (by omega)]; exact aX rfl
  · rw [if_pos ⟨by omega, by omega⟩]
    have hn' := lO hn (by omega) (c := x.toNat) (by omega) (by omega)
    obtain ⟨a, b, _⟩ := hn
    rw [aKD _ (by omega) (by omega), w64 (x := 10 * n) (by omega) (by omega), w64 (x := (x.toNat : Int) - 48) (by omega) (by omega), w64 (x := 10 * n + ((x.toNat : Int) - 48)) (by omega) (by omega)]
    exact ih _ hn'
theorem zI (o : Option Int) (h : ∀ v, o = some v → 0 ≤ v) : aDQ o = if 0 ≤ o.getD (-1) then (o.getD (-1), true) else (0, false) := by
  cases o with
  | none => rfl
  | some v => have := h v rfl; simp [aDQ, this]
theorem aLH (s : ByteArray) : Ev (fun k => cE.f k s) (aDY s) := by
  unfold cE.f aDY kX
  have hp : ∀ v, lL s.data.toList 0 = some v → 0 ≤ v := fun v h => zM _ _ _ (by omega) h
  refine aY (fun c => ?_) (fun c => aY (fun c1 => ?_) (fun c1 => ?_))
  · rw [if_neg (by omega)]; exact aX rfl
  · rw [if_neg (by omega)]; exact aX rfl
  · rw [if_pos (show 1 ≤ s.size ∧ s.size ≤ 4 by omega)]
    refine aY (fun c2 => aO (by omega) ?_) (fun c2 => ?_)
    · have hb : bt s 0 = ((s.data.toList.getD 0 0).toNat : Int) := jQ s 0 (by omega)
      rw [hb]
      refine aY (fun c3 => ?_) (fun c3 => ?_)
      · have e : (if s.size > 1 ∧ s.data.toList.getD 0 0 = 48 then (-1 : Int) else (lL s.data.toList 0).getD (-1)) = -1 := if_pos ⟨by omega, aCR.2 (by omega)⟩
        rw [e]; exact aX (by simp)
      · have e : (if s.size > 1 ∧ s.data.toList.getD 0 0 = 48 then (-1 : Int) else (lL s.data.toList 0).getD (-1)) = (lL s.data.toList 0).getD (-1) := if_neg (fun q => c3 (by rw [aCR.1 q.2]; rfl))
        rw [e, ← zI _ hp]; exact aMR s (by omega)
    · have e : (if s.size > 1 ∧ s.data.toList.getD 0 0 = 48 then (-1 : Int) else (lL s.data.toList 0).getD (-1)) = (lL s.data.toList 0).getD (-1) := if_neg (fun q => by omega)
      rw [e, ← zI _ hp]; exact aNB s (by omega)
theorem aCV {s : ByteArray} : (aDY s).2 = true ↔ 0 ≤ kX s := by
  unfold aDY
  split <;> simp_all
theorem aGW {s : ByteArray} (h : 0 ≤ kX s) : (aDY s).1 = kX s := by unfold aDY; rw [if_pos h]
def pE (w : List UInt8) : Prop := w ≠ [] ∧ w.length ≤ 24 ∧ ∀ b ∈ w, (33 ≤ b.toNat ∧ b.toNat ≤ 126) ∧ b ≠ 35
theorem tF : ∀ (w rest cur : List UInt8) (out : List ByteArray), (∀ b ∈ w, 33 ≤ b.toNat ∧ b.toNat ≤ 126) → cur.length + w.length ≤ 24 → wsp (w ++ rest) cur out = wsp rest (cur ++ w) out
  | [], rest, cur, out, _, _ => by simp
  | b :: w, rest, cur, out, h, hl => by
    have hb := h b (List.mem_cons_self ..)
    simp only [List.length_cons] at hl
    rw [List.cons_append, wsp, if_neg (fun e => by rw [aBW] at e; omega), if_pos ⟨hb, by omega⟩, tF w rest (cur ++ [b]) out (fun x hx => h x (List.mem_cons_of_mem _ hx)) (by simp; omega)]
    simp
def spc : List ByteArray → List UInt8
  | [] => []
  | w :: r => 32 :: (w.data.toList ++ spc r)
def jn : List ByteArray → List UInt8
  | [] => []
  | w :: r => w.data.toList ++ spc r
theorem xN : ∀ (ws : List ByteArray) (cur : List UInt8) (out : List ByteArray), cur ≠ [] → (∀ w ∈ ws, pE w.data.toList) → wsp (spc ws ++ [32]) cur out = some (out ++ [mkB cur] ++ ws)
  | [], cur, out, hc, _ => by simp [spc, wsp, hc]
  | w :: r, cur, out, hc, h => by
    obtain ⟨g1, g2, g3⟩ := h w (List.mem_cons_self ..)
    have ih := xN r w.data.toList (out ++ [mkB cur]) g1 (fun x hx => h x (List.mem_cons_of_mem _ hx))
    rw [kI] at ih
    have key := tF w.data.toList (spc r ++ [32]) [] (out ++ [mkB cur]) (fun b hb => (g3 b hb).1) (by simpa using g2)
    rw [spc, List.cons_append, wsp, if_pos rfl, List.append_assoc, if_neg hc, key, List.nil_append, ih]
    simp
theorem aLC : ∀ (ws : List ByteArray), ws ≠ [] → (∀ w ∈ ws, pE w.data.toList) → wsp (jn ws ++ [32]) [] [] = some ws
  | [], h, _ => absurd rfl h
  | w :: r, _, h => by
    obtain ⟨g1, g2, g3⟩ := h w (List.mem_cons_self ..)
    rw [jn, List.append_assoc, tF w.data.toList _ [] [] (fun b hb => (g3 b hb).1) (by simpa using g2), List.nil_append, xN r _ _ g1 (fun x hx => h x (List.mem_cons_of_mem _ hx)), kI]
    rfl
theorem aEU : ∀ ws : List ByteArray, (∀ w ∈ ws, pE w.data.toList) → ∀ x ∈ spc ws, x ≠ 35 ∧ x ≠ 10
  | [], _, x, hx => by simp [spc] at hx
  | w :: r, h, x, hx => by
    rw [spc] at hx
    rcases List.mem_cons.1 hx with rfl | hx
    · decide
    · rcases List.mem_append.1 hx with hx | hx
      · have := (h w (List.mem_cons_self ..)).2.2 x hx
        exact ⟨this.2, fun e => by subst e; have := this.1.1; revert this; decide⟩
      · exact aEU r (fun y hy => h y (List.mem_cons_of_mem _ hy)) x hx
theorem aKE : ∀ ws : List ByteArray, (∀ w ∈ ws, pE w.data.toList) → ∀ x ∈ jn ws, x ≠ 35 ∧ x ≠ 10
  | [], _, x, hx => by simp [jn] at hx
  | w :: r, h, x, hx => by
    rw [jn] at hx
    rcases List.mem_append.1 hx with hx | hx
    · have := (h w (List.mem_cons_self ..)).2.2 x hx
      exact ⟨this.2, fun e => by subst e; have := this.1.1; revert this; decide⟩
    · exact aEU r (fun y hy => h y (List.mem_cons_of_mem _ hy)) x hx
theorem aCO : ∀ ws : List ByteArray, (∀ w ∈ ws, pE w.data.toList) → (spc ws).length ≤ 25 * ws.length
  | [], _ => by simp [spc]
  | w :: r, h => by
    have h1 := (h w (List.mem_cons_self ..)).2.1
    have h2 := aCO r (fun y hy => h y (List.mem_cons_of_mem _ hy))
    simp only [spc, List.length_cons, List.length_append]; omega
theorem aLR (ws : List ByteArray) (h : ∀ w ∈ ws, pE w.data.toList) : (jn ws).length ≤ 25 * ws.length := by
  cases ws with
  | nil => simp [jn]
  | cons w r =>
    have h1 := (h w (List.mem_cons_self ..)).2.1
    have h2 := aCO r (fun y hy => h y (List.mem_cons_of_mem _ hy))
    simp only [jn, List.length_cons, List.length_append]; omega
theorem vW : ∀ (a : List UInt8) (c : UInt8), (∀ x ∈ a, x ≠ c) → iC c a = a
  | [], c, _ => by simp [iC]
  | x :: a, c, h => by rw [iC, if_neg (h x (List.mem_cons_self ..)), vW a c (fun y hy => h y (List.mem_cons_of_mem _ hy))]
theorem iF {s : ByteArray} (h : dK s = true) : pE s.data.toList := by
  unfold dK at h
  rw [Bool.and_eq_true, decide_eq_true_iff] at h
  obtain ⟨h1, h2⟩ := h
  have hl := iB s
  refine ⟨fun e => by rw [e] at hl; simp at hl; omega, by omega, fun b hb => ?_⟩
  obtain ⟨i, hi, rfl⟩ := List.getElem_of_mem hb
  have h3 := of_decide_eq_true h2 i (by omega) (Nat.zero_le _)
  rw [jQ s i (by omega), gZ _ _ _ hi] at h3
  generalize s.data.toList[i] = b at *
  have : (97 ≤ (b.toNat : Int) ∧ (b.toNat : Int) ≤ 122) ∨ (48 ≤ (b.toNat : Int) ∧ (b.toNat : Int) ≤ 57) ∨ (b.toNat : Int) = 45 := by
    simp [okc] at h3; omega
  exact ⟨by omega, fun e => by rw [e] at this; revert this; decide⟩
def dgt (k : Nat) : UInt8 := UInt8.ofNat (48 + k)
theorem wP {k : Nat} (h : k < 10) : (dgt k).toNat = 48 + k := by
  unfold dgt
  rw [UInt8.toNat_ofNat']; omega
def yR : List Nat → Int → Int
  | [], a => a
  | k :: ks, a => yR ks (10 * a + (k : Int))
theorem dd (n : Nat) (h : n < 10000) : ∃ ks : List Nat, (∀ k ∈ ks, k < 10) ∧ 1 ≤ ks.length ∧ ks.length ≤ 4 ∧ (ks.length > 1 → ks.getD 0 0 ≠ 0) ∧ Lib.decDigits n = ks.map dgt ∧ yR ks 0 = (n : Int) := by
  by_cases c1 : n < 10
  · exact ⟨[n], by simp; omega, by simp, by simp, by simp, by rw [lQ c1]; rfl, by simp [yR]⟩
  rw [qA c1]
  by_cases c2 : n / 10 < 10
  · exact ⟨[n / 10, n % 10], by simp; omega, by simp, by simp, by simp; omega, by rw [lQ c2]; rfl, by simp [yR]; omega⟩
  rw [qA c2]
  by_cases c3 : n / 10 / 10 < 10
  · exact ⟨[n / 10 / 10, n / 10 % 10, n % 10], by simp; omega, by simp, by simp, by simp; omega, by rw [lQ c3]; rfl, by simp [yR]; omega⟩
  rw [qA c3, lQ (by omega : n / 10 / 10 / 10 < 10)]
  exact ⟨[n / 10 / 10 / 10, n / 10 / 10 % 10, n / 10 % 10, n % 10], by simp; omega, by simp, by simp, by simp; omega, rfl, by simp [yR]; omega⟩
theorem zD : ∀ (ks : List Nat) (a : Int), (∀ k ∈ ks, k < 10) → lL (ks.map dgt) a = some (yR ks a)
  | [], a, _ => rfl
  | k :: ks, a, h => by
    have hk := wP (h k (List.mem_cons_self ..))
    have hk10 := h k (List.mem_cons_self ..)
    rw [List.map_cons, lL, hk, if_pos (by omega), zD ks _ (fun x hx => h x (List.mem_cons_of_mem _ hx)), yR]
    congr 2; omega
theorem aCE {n : Int} (h0 : 0 ≤ n) (h1 : n < 10000) : kX (mD n) = n ∧ pE (mD n).data.toList := by
  obtain ⟨ks, k1, k2, k3, k4, k5, k6⟩ := dd n.toNat (by omega)
  have e : (mD n).data.toList = ks.map dgt := by rw [← k5]; simp [mD]
  have hs : (mD n).size = ks.length := by rw [← iB, e, List.length_map]
  constructor
  · unfold kX
    rw [hs, if_pos ⟨k2, k3⟩, e]
    rw [if_neg, zD ks 0 k1, k6]
    · simp; omega
    · rintro ⟨q1, q2⟩
      have := k4 q1
      have hk := wP (k1 _ (kY 0 ks 0 (by omega)))
      rw [gZ _ _ _ (by rw [List.length_map]; omega), List.getElem_map, ← gZ 0 ks 0 (by omega)] at q2
      rw [q2] at hk
      have e48 : (48 : UInt8).toNat = 48 := rfl
      omega
  · rw [e]
    refine ⟨fun q => by simp at q; rw [q] at k2; simp at k2, by rw [List.length_map]; omega, fun b hb => ?_⟩
    obtain ⟨k, hk, rfl⟩ := List.mem_map.1 hb
    have hd := wP (k1 k hk)
    have hk10 := k1 k hk
    exact ⟨by omega, fun q => by rw [q] at hd; have e35 : (35 : UInt8).toNat = 35 := rfl; omega⟩
def gw (l : List ByteArray) (i : Nat) : ByteArray := l.getD i ByteArray.empty
def fU : ByteArray := (⟨#[115, 116, 117, 102, 102]⟩ : ByteArray)
def jN : ByteArray := (⟨#[102, 111, 101]⟩ : ByteArray)
def eL : ByteArray := (⟨#[118, 101, 115, 115, 101, 108]⟩ : ByteArray)
def fL : ByteArray := (⟨#[106, 111, 105, 110, 116]⟩ : ByteArray)
def fD : ByteArray := (⟨#[118, 97, 108, 118, 101]⟩ : ByteArray)
def gA {α : Type} (p : α → α → Bool) (x : α) : List α → List α
  | [] => [x]
  | y :: r => if p y x = true then y :: gA p x r else x :: y :: r
theorem oV {α : Type} (p : α → α → Bool) (x : α) : ∀ l : List α, (gA p x l).Perm (x :: l)
  | [] => List.Perm.refl _
  | y :: r => by
    unfold gA
    split
    · exact ((oV p x r).cons y).trans (List.Perm.swap x y r)
    · exact List.Perm.refl _
theorem kW {α : Type} (p : α → α → Bool) (x z : α) (l : List α) : z ∈ gA p x l ↔ z = x ∨ z ∈ l := by
  rw [(oV p x l).mem_iff, List.mem_cons]
theorem qK {α : Type} (p : α → α → Bool) (x : α) (l : List α) : (gA p x l).length = l.length + 1 := (oV p x l).length_eq
theorem oW {α : Type} {p : α → α → Bool} (ht : ∀ x y z, p x y = true → p y z = true → p x z = true) (x : α) : ∀ l : List α, (l.Pairwise fun a b => p a b = true) → (∀ y ∈ l, p y x = true ∨ p x y = true) → (gA p x l).Pairwise fun a b => p a b = true
  | [], _, _ => List.pairwise_singleton _ _
  | y :: r, h, hx => by
    obtain ⟨h1, h2⟩ := List.pairwise_cons.1 h
    unfold gA
    split
    · rename_i c
      refine List.pairwise_cons.2 ⟨fun z hz => ?_, oW ht x r h2 (fun z hz => hx z (List.mem_cons_of_mem _ hz))⟩
      rcases (kW p x z r).1 hz with rfl | hz
      · exact c
      · exact h1 z hz
    · rename_i c
      have hxy := (hx y (List.mem_cons_self ..)).resolve_left c
      refine List.pairwise_cons.2 ⟨fun z hz => ?_, h⟩
      rcases List.mem_cons.1 hz with rfl | hz
      · exact hxy
      · exact ht _ _ _ hxy (h1 z hz)
theorem aHI {α : Type} {p : α → α → Bool} : ∀ {l : List α}, (l.Pairwise fun a b => p a b = true) → ∀ a ∈ l, ∀ b ∈ l, p a b = true ∨ a = b ∨ p b a = true
  | [], _, a, ha, _, _ => by cases ha
  | x :: l, h, a, ha, b, hb => by
    obtain ⟨h1, h2⟩ := List.pairwise_cons.1 h
    rcases List.mem_cons.1 ha with e | ha'
    · rcases List.mem_cons.1 hb with e2 | hb'
      · exact .inr (.inl (e.trans e2.symm))
      · exact .inl (e ▸ h1 b hb')
    · rcases List.mem_cons.1 hb with e2 | hb'
      · exact .inr (.inr (e2 ▸ h1 a ha'))
      · exact aHI h2 a ha' b hb'
theorem nX {α : Type} {p : α → α → Bool} : ∀ (r : List α) (y : α), (∀ x ∈ r, p y x = true) → (r.Pairwise fun a b => p a b = true) → dE p (some y) r = true
  | [], _, _, _ => rfl
  | x :: r, y, h, hp => by
    obtain ⟨h1, h2⟩ := List.pairwise_cons.1 hp
    show (p y x && dE p (some x) r) = true
    rw [h x (List.mem_cons_self ..), nX r x h1 h2]; rfl
theorem qT {α : Type} {p : α → α → Bool} (l : List α) (h : l.Pairwise fun a b => p a b = true) : dE p none l = true := by
  cases l with
  | nil => rfl
  | cons x r => obtain ⟨h1, h2⟩ := List.pairwise_cons.1 h; exact nX r x h1 h2
def kR (f : List aD) (a b : ByteArray) : Bool := f.any fun x => (decide (x.f0 = a) && decide (x.f1 = b)) || (decide (x.f0 = b) && decide (x.f1 = a))
def iU (v : List aA) (a : ByteArray) : Bool := v.any fun x => decide (x.f0 = a)
def nO (a b : ByteArray) : aD := ⟨mnS a b, mxS a b⟩
def zL (s : List ByteArray) (f : List aD) (p : List aB) (v : List aA) (a : ByteArray) : PC :=
  if iQ s a = true then (s, f, p, v, 4) else if 8 ≤ s.length then (s, f, p, v, 6) else (gA lt a s, f, p, v, 0)
def yP (s : List ByteArray) (f : List aD) (p : List aB) (v : List aA) (a b : ByteArray) : PC :=
  if a = b then (s, f, p, v, 3) else if kR f a b = true then (s, f, p, v, 4) else if iQ s a = true ∧ iQ s b = true then (if 12 ≤ f.length then (s, f, p, v, 6) else (s, gA fR (nO a b) f, p, v, 0)) else (s, f, p, v, 5)
def mX (s : List ByteArray) (f : List aD) (p : List aB) (v : List aA) (x : aB) : PC :=
  if dQ p x.f0 = true then (s, f, p, v, 4) else if 14 ≤ p.length then (s, f, p, v, 6) else (s, f, gA eX x p, v, 0)
def xQ (s : List ByteArray) (f : List aD) (p : List aB) (v : List aA) (a b c d : ByteArray) : PC :=
  if b = c then (s, f, p, v, 3) else if iU v a = true then (s, f, p, v, 4) else if dQ p b = true ∧ dQ p c = true then (if 18 ≤ v.length then (s, f, p, v, 6) else (s, f, p, gA eM ⟨a, mnS b c, mxS b c, d⟩ v, 0)) else (s, f, p, v, 5)
def put (s : List ByteArray) (f : List aD) (p : List aB) (v : List aA) (ws : List ByteArray) : PC :=
  if gw ws 0 = fU then (if ws.length = 2 ∧ dK (gw ws 1) = true then zL s f p v (gw ws 1) else (s, f, p, v, 3))
  else if gw ws 0 = jN then (if ws.length = 3 ∧ dK (gw ws 1) = true ∧ dK (gw ws 2) = true then yP s f p v (gw ws 1) (gw ws 2) else (s, f, p, v, 3))
  else if gw ws 0 = eL then (if ws.length = 4 ∧ dK (gw ws 1) = true ∧ (1 ≤ kX (gw ws 2) ∧ kX (gw ws 2) ≤ 1000) ∧ dK (gw ws 3) = true then mX s f p v ⟨gw ws 1, kX (gw ws 2), gw ws 3⟩ else (s, f, p, v, 3))
  else if gw ws 0 = fL then (if ws.length = 3 ∧ dK (gw ws 1) = true ∧ dK (gw ws 2) = true then mX s f p v ⟨gw ws 1, 0, gw ws 2⟩ else (s, f, p, v, 3))
  else if gw ws 0 = fD then (if ws.length = 5 ∧ dK (gw ws 1) = true ∧ dK (gw ws 2) = true ∧ dK (gw ws 3) = true ∧ dK (gw ws 4) = true then xQ s f p v (gw ws 1) (gw ws 2) (gw ws 3) (gw ws 4) else (s, f, p, v, 3))
  else (s, f, p, v, 2)
theorem nW {a b : ByteArray} (h : a ≠ b) : lt (mnS a b) (mxS a b) = true ∧ ((mnS a b = a ∧ mxS a b = b) ∨ (mnS a b = b ∧ mxS a b = a)) := by
  unfold mnS mxS
  rcases mP a b with c | c | c
  · have d := lM c
    unfold lt at c d ⊢
    rw [c, d]
    simp [c]
  · exact absurd c h
  · have d := lM c
    unfold lt at c d ⊢
    rw [c, d]
    simp [c]
theorem sQ (a : ByteArray) : mnS a a = a ∧ mxS a a = a := by unfold mnS mxS; constructor <;> split <;> rfl
theorem ltT (x y z : ByteArray) (h : lt x y = true) (k : lt y z = true) : lt x z = true := lt_trans h k
theorem mO (x y z : aB) (h : eX x y = true) (k : eX y z = true) : eX x z = true := ltT _ _ _ h k
theorem mL (x y z : aA) (h : eM x y = true) (k : eM y z = true) : eM x z = true := ltT _ _ _ h k
theorem nZ (x y z : aD) (h : fR x y = true) (k : fR y z = true) : fR x z = true := by
  unfold fR rJ at *
  simp only [Bool.or_eq_true, Bool.and_eq_true, decide_eq_true_eq] at *
  rcases h with h | ⟨h, h'⟩
  · rcases k with k | ⟨k, _⟩
    · exact .inl (lt_trans h k)
    · exact .inl (k ▸ h)
  · rcases k with k | ⟨k, k'⟩
    · exact .inl (h ▸ k)
    · exact .inr ⟨h.trans k, lt_trans h' k'⟩
theorem aDL (x y : aD) (h : ¬ (x.f0 = y.f0 ∧ x.f1 = y.f1)) : fR x y = true ∨ fR y x = true := by
  unfold fR rJ
  simp only [Bool.or_eq_true, Bool.and_eq_true, decide_eq_true_eq]
  rcases mP x.f0 y.f0 with c | c | c
  · exact .inl (.inl c)
  · rcases mP x.f1 y.f1 with d | d | d
    · exact .inl (.inr ⟨c, d⟩)
    · exact absurd ⟨c, d⟩ h
    · exact .inr (.inr ⟨c.symm, d⟩)
  · exact .inr (.inl c)
structure Vd (s : List ByteArray) (f : List aD) (p : List aB) (v : List aA) : Prop where
  ls : s.length ≤ 8
  lf : f.length ≤ 12
  lp : p.length ≤ 14
  lv : v.length ≤ 18
  s1 : ∀ x ∈ s, dK x = true
  s2 : s.Pairwise fun x y => lt x y = true
  f1 : ∀ x ∈ f, pU s x = true
  f2 : f.Pairwise fun x y => fR x y = true
  p1 : ∀ x ∈ p, hZ x = true
  p2 : p.Pairwise fun x y => eX x y = true
  v1 : ∀ x ∈ v, iW p x = true
  v2 : v.Pairwise fun x y => eM x y = true
theorem wW {s : List ByteArray} {f : List aD} {p : List aB} {v : List aA} : lE s f p v = true ↔ Vd s f p v := by
  constructor
  · intro h
    simp only [lE, kA, nM, kU, jP, Bool.and_eq_true, decide_eq_true_eq, List.all_eq_true] at h
    obtain ⟨⟨l1, l2⟩, ⟨⟨n1, n2⟩, f1, f2⟩, ⟨l3, p1, p2⟩, l4, v1, v2⟩ := h
    exact ⟨l1, l2, l3, l4, n1, nA ltT _ n2, f1, nA nZ _ f2, p1, nA mO _ p2, v1, nA mL _ v2⟩
  · intro h
    simp only [lE, kA, nM, kU, jP, Bool.and_eq_true, decide_eq_true_eq, List.all_eq_true]
    exact ⟨⟨h.ls, h.lf⟩, ⟨⟨h.s1, qT _ h.s2⟩, h.f1, qT _ h.f2⟩, ⟨h.lp, h.p1, qT _ h.p2⟩, h.lv, h.v1, qT _ h.v2⟩
theorem pM : Vd [] [] [] [] := wW.1 (by decide)
theorem aJJ {s : List ByteArray} {a : ByteArray} (h : ¬ iQ s a = true) : ∀ y ∈ s, lt y a = true ∨ lt a y = true := fun y hy => by
  rcases mP y a with c | c | c
  · exact .inl c
  · exact absurd (iY.2 (c ▸ hy)) h
  · exact .inr c
theorem vL {f : List aD} {a b : ByteArray} (hab : a ≠ b) (h : ¬ kR f a b = true) : ∀ y ∈ f, fR y (nO a b) = true ∨ fR (nO a b) y = true := fun y hy => by
  refine aDL _ _ (fun ⟨e1, e2⟩ => h ?_)
  unfold kR
  rw [List.any_eq_true]
  refine ⟨y, hy, ?_⟩
  unfold nO at e1 e2
  dsimp only at e1 e2
  simp only [Bool.or_eq_true, Bool.and_eq_true, decide_eq_true_eq]
  rcases (nW hab).2 with ⟨h1, h2⟩ | ⟨h1, h2⟩
  · exact .inl ⟨e1.trans h1, e2.trans h2⟩
  · exact .inr ⟨e1.trans h1, e2.trans h2⟩
theorem oC {p : List aB} {x : aB} (h : ¬ dQ p x.f0 = true) : ∀ y ∈ p, eX y x = true ∨ eX x y = true := fun y hy => by
  rcases mP y.f0 x.f0 with c | c | c
  · exact .inl c
  · exact absurd (List.any_eq_true.2 ⟨y, hy, decide_eq_true c⟩) h
  · exact .inr c
theorem rS {v : List aA} {x : aA} (h : ¬ iU v x.f0 = true) : ∀ y ∈ v, eM y x = true ∨ eM x y = true := fun y hy => by
  rcases mP y.f0 x.f0 with c | c | c
  · exact .inl c
  · exact absurd (List.any_eq_true.2 ⟨y, hy, decide_eq_true c⟩) h
  · exact .inr c
theorem qG {p : List aB} (x : aB) {a : ByteArray} (h : dQ p a = true) : dQ (gA eX x p) a = true := by
  unfold dQ at *
  rw [List.any_eq_true] at *
  obtain ⟨y, hy, e⟩ := h
  exact ⟨y, (kW _ _ _ _).2 (.inr hy), e⟩
theorem aLU {s : List ByteArray} {f : List aD} {p : List aB} {v : List aA} (h : Vd s f p v) (ws : List ByteArray) : Vd (put s f p v ws).1 (put s f p v ws).2.1 (put s f p v ws).2.2.1 (put s f p v ws).2.2.2.1 := by
  have hP : ∀ x : aB, hZ x = true → Vd (mX s f p v x).1 (mX s f p v x).2.1 (mX s f p v x).2.2.1 (mX s f p v x).2.2.2.1 := fun x hx => by
    unfold mX
    split
    · exact h
    · rename_i c
      split
      · exact h
      · rename_i d
        refine ⟨h.ls, h.lf, by dsimp only; rw [qK]; omega, h.lv, h.s1, h.s2, h.f1, h.f2, fun y hy => ?_, oW mO x p h.p2 (oC c), fun y hy => ?_, h.v2⟩
        · rcases (kW _ _ _ _).1 hy with rfl | hy
          · exact hx
          · exact h.p1 y hy
        · have := h.v1 y hy
          simp only [iW, Bool.and_eq_true] at this ⊢
          exact ⟨this.1, this.2.1, qG x this.2.2.1, qG x this.2.2.2.1, this.2.2.2.2⟩
  unfold put
  split
  · split
    · rename_i hn
      unfold zL
      split
      · exact h
      · rename_i c
        split
        · exact h
        · rename_i d
          refine ⟨by dsimp only; rw [qK]; omega, h.lf, h.lp, h.lv, fun y hy => ?_, oW ltT _ s h.s2 (aJJ c), fun y hy => ?_, h.f2, h.p1, h.p2, h.v1, h.v2⟩
          · rcases (kW _ _ _ _).1 hy with rfl | hy
            · exact hn.2
            · exact h.s1 y hy
          · have := h.f1 y hy
            simp only [pU, Bool.and_eq_true, iY] at this ⊢
            exact ⟨this.1, (kW _ _ _ _).2 (.inr this.2.1), (kW _ _ _ _).2 (.inr this.2.2)⟩
    · exact h
  · split
    · split
      · rename_i hn
        unfold yP
        split
        · exact h
        · rename_i hab
          split
          · exact h
          · rename_i c
            split
            · rename_i hh
              split
              · exact h
              · rename_i d
                refine ⟨h.ls, by dsimp only; rw [qK]; omega, h.lp, h.lv, h.s1, h.s2, fun y hy => ?_, oW nZ _ f h.f2 (vL hab c), h.p1, h.p2, h.v1, h.v2⟩
                rcases (kW _ _ _ _).1 hy with rfl | hy
                · obtain ⟨g, g2⟩ := nW hab
                  unfold pU nO
                  dsimp only
                  rw [g, Bool.true_and, Bool.and_eq_true]
                  rcases g2 with ⟨g1, g2⟩ | ⟨g1, g2⟩
                  · rw [g1, g2]; exact hh
                  · rw [g1, g2]; exact ⟨hh.2, hh.1⟩
                · exact h.f1 y hy
            · exact h
      · exact h
    · split
      · split
        · rename_i hn
          refine hP _ ?_
          unfold hZ
          dsimp only
          rw [hn.2.1, hn.2.2.2, aBO (by omega)]; rfl
        · exact h
      · split
        · split
          · rename_i hn
            refine hP _ ?_
            unfold hZ
            dsimp only
            rw [hn.2.1, hn.2.2, aBO (by omega)]; rfl
          · exact h
        · split
          · split
            · rename_i hn
              unfold xQ
              split
              · exact h
              · rename_i hbc
                split
                · exact h
                · rename_i c
                  split
                  · rename_i hh
                    split
                    · exact h
                    · rename_i d
                      refine ⟨h.ls, h.lf, h.lp, by dsimp only; rw [qK]; omega, h.s1, h.s2, h.f1, h.f2, h.p1, h.p2, fun y hy => ?_, oW mL _ v h.v2 (rS (x := ⟨_, _, _, _⟩) c)⟩
                      rcases (kW _ _ _ _).1 hy with rfl | hy
                      · obtain ⟨g, g2⟩ := nW hbc
                        unfold iW
                        dsimp only
                        rw [g, hn.2.1, hn.2.2.2.2, Bool.true_and, Bool.true_and, Bool.and_true, Bool.and_eq_true]
                        rcases g2 with ⟨g1, g2⟩ | ⟨g1, g2⟩
                        · rw [g1, g2]; exact hh
                        · rw [g1, g2]; exact ⟨hh.2, hh.1⟩
                      · exact h.v1 y hy
                  · exact h
            · exact h
          · exact h
theorem aLK (a b : ByteArray) : (a == b) = decide (a = b) := by
  cases a with | mk a => cases b with | mk b =>
  rw [Bool.eq_iff_iff, decide_eq_true_iff, ByteArray.mk.injEq]
  show (a == b) = true ↔ _
  exact beq_iff_eq
theorem wE {α : Type} [Inhabited α] {p : α → α → Bool} (hO : Go.Sort.SWO p) (ht : ∀ x y z, p x y = true → p y z = true → p x z = true) (hi : ∀ x, p x x = false) (x : α) (l : List α) (h2 : l.Pairwise fun a b => p a b = true) (hx : ∀ y ∈ l, p y x = true ∨ p x y = true) :
    lF p (l ++ [x]) = gA p x l := by
  obtain ⟨_, h, k⟩ := lT hO (l ++ [x])
  have hp := h.trans ((List.perm_append_singleton x l).trans (oV p x l).symm)
  have hw := oW ht x l h2 hx
  refine List.Perm.eq_of_pairwise (le := fun a b => p b a = false) (fun a b ha hb h1 h2 => ?_) k (hw.imp (fun {a b} q => ?_)) hp
  · rcases aHI hw a (hp.mem_iff.1 ha) b hb with q | q | q
    · rw [q] at h2; cases h2
    · exact q
    · rw [q] at h1; cases h1
  · cases c : p b a with
    | false => rfl
    | true => have := ht _ _ _ q c; rw [hi] at this; cases this
theorem tB : pZ aD.f0 aD.f1 = fR := by
  funext x y
  unfold pZ fR rJ lt
  rw [show ((x.f0).toList == (y.f0).toList) = decide (x.f0 = y.f0) by rw [Bool.eq_iff_iff, beq_iff_eq, decide_eq_true_iff, cR]]
theorem aHJ : aAO aB.f0 = eX := rfl
theorem aFG : aAO aA.f0 = eM := rfl
theorem vE (x : aD) : fR x x = false := by unfold fR rJ; rw [qZ, qZ]; simp
theorem aEX {f : List aD} (hl : f.length ≤ 1000) (x : aD) (h2 : f.Pairwise fun a b => fR a b = true) (hx : ∀ y ∈ f, fR y x = true ∨ fR x y = true) : dO.f (f ++ [x]) = some (gA fR x f) := by
  unfold dO.f
  rw [if_pos (by rw [List.length_append]; simp; omega)]
  have h := wE (xB aD.f0 aD.f1) (tB ▸ nZ) (tB ▸ vE) x f (tB ▸ h2) (tB ▸ hx)
  rw [h, tB]
theorem zO {f : List aB} (hl : f.length ≤ 1000) (x : aB) (h2 : f.Pairwise fun a b => eX a b = true) (hx : ∀ y ∈ f, eX y x = true ∨ eX x y = true) : dC.f (f ++ [x]) = some (gA eX x f) := by
  unfold dC.f
  rw [if_pos (by rw [List.length_append]; simp; omega), aHJ]
  exact congrArg some (wE (aHJ ▸ rN aB.f0) mO (fun x => qZ _) x f h2 hx)
theorem aHA {f : List aA} (hl : f.length ≤ 1000) (x : aA) (h2 : f.Pairwise fun a b => eM a b = true) (hx : ∀ y ∈ f, eM y x = true ∨ eM x y = true) : dM.f (f ++ [x]) = some (gA eM x f) := by
  unfold dM.f
  rw [if_pos (by rw [List.length_append]; simp; omega), aFG]
  exact congrArg some (wE (aFG ▸ rN aA.f0) mL (fun x => qZ _) x f h2 hx)
theorem qM (x : ByteArray) : ∀ l : List ByteArray, (∀ y ∈ l, y ≠ x) → kF x l = gA lt x l
  | [], _ => rfl
  | y :: r, h => by
    unfold kF gA
    rw [qM x r (fun z hz => h z (List.mem_cons_of_mem _ hz)), if_neg (h y (List.mem_cons_self ..))]
theorem zU (f : List aD) (a b : ByteArray) (hf : f.length ≤ 1000) : Ev (fun k => fC.f k (f.map kH) a b) (kR f a b) := by
  unfold fC.f kR
  have hl : (f.map kH).length = f.length := List.length_map ..
  refine eO cW f (P := fun i r => Ev (fun k => fC.l0 k (f.map kH) a b (i : Int)) (r.any fun x => (decide (x.f0 = a) && decide (x.f1 = b)) || (decide (x.f0 = b) && decide (x.f1 = a))))
    (by refine Ev.step (fun k => by rw [fC.l0]) ?_; exact bT (by omega) (aX rfl)) (fun i x r hi hx hm _ ih => ?_)
  refine Ev.step (fun k => by rw [fC.l0]) (aO (by omega) (aO (by omega) ?_))
  rw [dN hi (by omega), aLZ, aGF jV cW _ f i hi, hx]
  simp only [kH, cR, Bool.and_true]
  refine fI (fun c => aX ?_) (fun c => fI (fun d => aX ?_) (fun d => fF ih ?_))
  · rw [List.any_cons, c]; rfl
  · rw [List.any_cons, d]; simp
  · rw [List.any_cons, c, d]; rfl
def nB (x : ByteArray) : List aA → ByteArray × ByteArray × ByteArray × ByteArray × Bool
  | [] => ((⟨#[]⟩ : ByteArray), (⟨#[]⟩ : ByteArray), (⟨#[]⟩ : ByteArray), (⟨#[]⟩ : ByteArray), false)
  | y :: r => if y.f0 = x then (y.f0, y.f1, y.f2, y.f3, true) else nB x r
theorem rR (x : ByteArray) : ∀ l : List aA, (nB x l).2.2.2.2 = iU l x
  | [] => rfl
  | y :: r => by
    rw [show iU (y :: r) x = (decide (y.f0 = x) || iU r x) from rfl, ← rR x r, show nB x (y :: r) = if y.f0 = x then (y.f0, y.f1, y.f2, y.f3, true) else nB x r from rfl]
    by_cases c : y.f0 = x
    · rw [if_pos c, decide_eq_true c]; rfl
    · rw [if_neg c, decide_eq_false c]; rfl
theorem aHD (s : List ByteArray) (f : List aD) (p : List aB) (v : List aA) (x : ByteArray) (hv : v.length ≤ 1000) :
    Ev (fun k => cS.f k s f p v x) (nB x v) := by
  unfold cS.f
  refine eO cJ v (P := fun i r => Ev (fun k => cS.l0 k v x (i : Int)) (nB x r))
    (by refine Ev.step (fun k => by rw [cS.l0]) ?_; exact bT (by omega) (aX rfl)) (fun i y r hi hx _ _ ih => ?_)
  refine Ev.step (fun k => by rw [cS.l0]) (aO (by omega) (aO (by omega) ?_))
  rw [dN hi (by omega), rdV, hx]
  unfold nB
  refine aY (fun c => aX (by rw [if_pos (cR.1 c)])) (fun c => fF ih (by rw [if_neg (fun e => c (cR.2 e))]))
def rot (t : PC) : Int × List ByteArray × List aD × List aB × List aA := (t.2.2.2.2, t.1, t.2.1, t.2.2.1, t.2.2.2.1)
theorem xE {A B : Prop} [Decidable A] [Decidable B] {s : List ByteArray} {f : List aD} {p : List aB} {v : List aA} (h : A ↔ B) (x : PC) : (if A then rot x else (3, s, f, p, v)) = rot (if B then x else (s, f, p, v, 3)) := by
  by_cases q : A
  · rw [if_pos q, if_pos (h.1 q)]
  · rw [if_neg q, if_neg (fun z => q (h.2 z))]; rfl
theorem aJA {A B : Prop} [Decidable A] [Decidable B] (h : A ↔ B) (x y : PC) : rot (if A then x else y) = rot (if B then x else y) := by
  by_cases q : A
  · rw [if_pos q, if_pos (h.1 q)]
  · rw [if_neg q, if_neg (fun z => q (h.2 z))]
section
variable {s : List ByteArray} {f : List aD} {p : List aB} {v : List aA} (h : Vd s f p v)
theorem pA (w0 : ByteArray) (hw : w0 ≠ eL) (us : List ByteArray) (hl : us.length ≤ 1000) (hz : ∀ w ∈ us, w.size ≤ 1000000) (n : Int) {R : Int × List ByteArray × List aD × List aB × List aA}
    (hE : Ev (fun k => dI.l0 k s f p v (w0 :: us) n (us.length : Int)) R) : Ev (fun k => dI.l0 k s f p v (w0 :: us) n 0) (if us.all dK = true then R else (3, s, f, p, v)) := by
  refine eO ByteArray.empty us (P := fun i r => Ev (fun k => dI.l0 k s f p v (w0 :: us) n (i : Int)) (if r.all dK = true then R else (3, s, f, p, v))) ?_ (fun i x r hi hx hm _ ih => ?_)
  · exact fF hE (by rw [List.all_nil, if_pos rfl])
  refine Ev.step (fun k => by rw [dI.l0]) ?_
  refine aO (by show (i : Int) < ((us.length + 1 - 1 : Nat) : Int); omega) (aO (by omega) (bT (fun e => hw (cR.1 e)) ?_))
  rw [show (w0 :: us).drop (1 : Int).toNat = us from rfl, eZ, hx, dN hi (by omega)]
  refine Ev.bind (fP x (by have := hz x hm; omega)) (fI (fun c => fF ih ?_) (fun c => aX ?_))
  · rw [List.all_cons, c, Bool.true_and]
  · rw [List.all_cons, c, Bool.false_and, if_neg (by simp)]
include h
theorem aNE (a : ByteArray) : Ev (fun k => dI.l0 k s f p v [fU, a] 0 1) (rot (zL s f p v a)) := by
  have hl := h.ls
  refine Ev.step (fun k => by rw [dI.l0]) ?_
  refine bT (show ¬ (1 : Int) < 1 by omega) (aO rfl (aO (show (1 : Int) < 2 by omega) ?_))
  rw [show aP ByteArray.empty [fU, a] 1 = a from rfl]
  unfold zL
  refine Ev.bind (uA s a (by omega)) (fI (fun c => aX ?_) (fun c => ?_))
  · rw [if_pos c]; rfl
  · rw [if_neg (show ¬ iQ s a = true by rw [c]; simp)]
    refine aY (fun d => aX ?_) (fun d => ?_)
    · rw [if_pos (by omega)]; rfl
    · rw [if_neg (show ¬ 8 ≤ s.length by omega)]
      refine Ev.bind (aIQ s [a] h.s2 (by simp; omega)) (aX ?_)
      rw [show xZ s [a] = kF a s from rfl, qM a s (fun y hy e => by rw [iY.2 (e ▸ hy)] at c; cases c)]; rfl
theorem aNH (a b : ByteArray) : Ev (fun k => dI.l0 k s f p v [jN, a, b] 0 2) (rot (yP s f p v a b)) := by
  have hl := h.lf
  have hs := h.ls
  refine Ev.step (fun k => by rw [dI.l0]) ?_
  refine bT (show ¬ (2 : Int) < 2 by omega) (bT (fun e => absurd (show jN = fU from cR.1 e) (by decide)) (aO rfl (aO (show (1 : Int) < 3 by omega) (aO (show (2 : Int) < 3 by omega) ?_))))
  rw [show aP ByteArray.empty [jN, a, b] 1 = a from rfl, show aP ByteArray.empty [jN, a, b] 2 = b from rfl]
  unfold yP
  by_cases hab : a = b
  · subst hab
    rw [if_pos rfl]
    exact aO (by rw [(sQ a).1, (sQ a).2]) (aX rfl)
  rw [if_neg hab]
  obtain ⟨g, g2⟩ := nW hab
  have e1 : kR f (mnS a b) (mxS a b) = kR f a b := by
    rcases g2 with ⟨g1, g2⟩ | ⟨g1, g2⟩
    · rw [g1, g2]
    · rw [g1, g2]; unfold kR; congr 1; funext x; rw [Bool.or_comm]
  have e2 : (iQ s (mnS a b) = true ∧ iQ s (mxS a b) = true) ↔ (iQ s a = true ∧ iQ s b = true) := by
    rcases g2 with ⟨g1, g2⟩ | ⟨g1, g2⟩
    · rw [g1, g2]
    · rw [g1, g2, and_comm]
  refine bT (fun e => nI g (cR.1 e)) (Ev.bind (xW s f p v (by omega)) (Ev.bind (zU f _ _ (by omega)) ?_))
  rw [e1]
  refine fI (fun c => aX ?_) (fun c => ?_)
  · rw [if_pos c]; rfl
  rw [if_neg (show ¬ kR f a b = true by rw [c]; simp)]
  refine Ev.bind (uA s _ (by omega)) (fI (fun c1 => Ev.bind (uA s _ (by omega)) (fI (fun c2 => ?_) (fun c2 => aX ?_))) (fun c1 => aX ?_))
  · rw [if_pos (show iQ s a = true ∧ iQ s b = true from e2.1 ⟨c1, c2⟩)]
    refine aY (fun d => aX ?_) (fun d => aO (by omega) (oJ (aEX (by omega) _ h.f2 ?_) (aX ?_)))
    · rw [if_pos (by omega)]; rfl
    · exact vL hab (by rw [c]; simp)
    · rw [if_neg (by omega)]; rfl
  · rw [if_neg (fun q => by have := (e2.2 q).2; rw [c2] at this; cases this)]; rfl
  · rw [if_neg (fun q => by have := (e2.2 q).1; rw [c1] at this; cases this)]; rfl
theorem aMI (a b c : ByteArray) (n : Int) : Ev (fun k => dI.l0 k s f p v [eL, a, b, c] n 3) (rot (mX s f p v ⟨a, n, c⟩)) := by
  have hl := h.lp
  refine Ev.step (fun k => by rw [dI.l0]) ?_
  refine bT (show ¬ (3 : Int) < 3 by omega) (bT (fun e => absurd (show eL = fU from cR.1 e) (by decide)) (bT (fun e => absurd (show eL = jN from cR.1 e) (by decide)) (aO rfl (aO (show (1 : Int) < 4 by omega) ?_))))
  rw [show aP ByteArray.empty [eL, a, b, c] 1 = a from rfl, show wrap64 ((([eL, a, b, c] : List ByteArray).length : Int) - 1) = 3 from w64 (x := 3) (by omega) (by omega), show aP ByteArray.empty [eL, a, b, c] 3 = c from rfl]
  unfold mX
  refine Ev.bind (mS s f p v a (by omega)) ?_
  rw [iV]
  refine fI (fun c1 => aX ?_) (fun c1 => ?_)
  · rw [if_pos c1]; rfl
  rw [if_neg (show ¬ dQ p a = true by rw [c1]; simp)]
  refine aY (fun d => aX ?_) (fun d => aO (by omega) (aO (show (3 : Int) < 4 by omega) (aO (by omega) (oJ (zO (by omega) _ h.p2 (oC (by dsimp only; rw [c1]; simp))) (aX ?_)))))
  · rw [if_pos (by omega)]; rfl
  · rw [if_neg (by omega)]; rfl
theorem aNF (a b : ByteArray) : Ev (fun k => dI.l0 k s f p v [fL, a, b] 0 2) (rot (mX s f p v ⟨a, 0, b⟩)) := by
  have hl := h.lp
  refine Ev.step (fun k => by rw [dI.l0]) ?_
  refine bT (show ¬ (2 : Int) < 2 by omega) (bT (fun e => absurd (show fL = fU from cR.1 e) (by decide)) (bT (fun e => absurd (show fL = jN from cR.1 e) (by decide)) (bT (fun e => absurd (show fL = eL from cR.1 e) (by decide)) (aO rfl (aO (show (1 : Int) < 3 by omega) ?_)))))
  rw [show aP ByteArray.empty [fL, a, b] 1 = a from rfl, show wrap64 ((([fL, a, b] : List ByteArray).length : Int) - 1) = 2 from w64 (x := 2) (by omega) (by omega), show aP ByteArray.empty [fL, a, b] 2 = b from rfl]
  unfold mX
  refine Ev.bind (mS s f p v a (by omega)) ?_
  rw [iV]
  refine fI (fun c1 => aX ?_) (fun c1 => ?_)
  · rw [if_pos c1]; rfl
  rw [if_neg (show ¬ dQ p a = true by rw [c1]; simp)]
  refine aY (fun d => aX ?_) (fun d => aO (by omega) (aO (show (2 : Int) < 3 by omega) (aO (by omega) (oJ (zO (by omega) _ h.p2 (oC (by dsimp only; rw [c1]; simp))) (aX ?_)))))
  · rw [if_pos (by omega)]; rfl
  · rw [if_neg (by omega)]; rfl
theorem aMU (a b c d : ByteArray) : Ev (fun k => dI.l0 k s f p v [fD, a, b, c, d] 0 4) (rot (xQ s f p v a b c d)) := by
  have hl := h.lv
  have hp := h.lp
  refine Ev.step (fun k => by rw [dI.l0]) ?_
  refine bT (show ¬ (4 : Int) < 4 by omega) (bT (fun e => absurd (show fD = fU from cR.1 e) (by decide)) (bT (fun e => absurd (show fD = jN from cR.1 e) (by decide)) (bT (fun e => absurd (show fD = eL from cR.1 e) (by decide)) (bT (fun e => absurd (show fD = fL from cR.1 e) (by decide)) (aO rfl (aO (show (2 : Int) < 5 by omega) (aO (show (3 : Int) < 5 by omega) ?_)))))))
  rw [show aP ByteArray.empty [fD, a, b, c, d] 1 = a from rfl, show aP ByteArray.empty [fD, a, b, c, d] 2 = b from rfl, show aP ByteArray.empty [fD, a, b, c, d] 3 = c from rfl, show aP ByteArray.empty [fD, a, b, c, d] 4 = d from rfl]
  unfold xQ
  refine Ev.bind (mS s f p v _ (by omega)) (Ev.bind (mS s f p v _ (by omega)) (aO (show (1 : Int) < 5 by omega) (Ev.bind (aHD s f p v a (by omega)) ?_)))
  rw [iV, iV, rR]
  by_cases hab : b = c
  · subst hab
    rw [if_pos rfl]
    exact aO (by rw [(sQ b).1, (sQ b).2]) (aX rfl)
  rw [if_neg hab]
  obtain ⟨g, g2⟩ := nW hab
  have e2 : (dQ p (mnS b c) = true ∧ dQ p (mxS b c) = true) ↔ (dQ p b = true ∧ dQ p c = true) := by
    rcases g2 with ⟨g1, g2⟩ | ⟨g1, g2⟩
    · rw [g1, g2]
    · rw [g1, g2, and_comm]
  refine bT (fun e => nI g (cR.1 e)) (fI (fun c0 => aX ?_) (fun c0 => ?_))
  · rw [if_pos c0]; rfl
  rw [if_neg (show ¬ iU v a = true by rw [c0]; simp)]
  refine fI (fun c1 => fI (fun c2 => ?_) (fun c2 => aX ?_)) (fun c1 => aX ?_)
  · rw [if_pos (show dQ p b = true ∧ dQ p c = true from e2.1 ⟨c1, c2⟩)]
    refine aY (fun d => aX ?_) (fun d => aO (show (4 : Int) < 5 by omega) (aO (by omega) (oJ (aHA (by omega) _ h.v2 (rS (x := ⟨_, _, _, _⟩) (by dsimp only; rw [c0]; simp))) (aX ?_))))
    · rw [if_pos (by omega)]; rfl
    · rw [if_neg (by omega)]; rfl
  · rw [if_neg (fun q => by have := (e2.2 q).2; rw [c2] at this; cases this)]; rfl
  · rw [if_neg (fun q => by have := (e2.2 q).1; rw [c1] at this; cases this)]; rfl
theorem aJF (a b c : ByteArray) (ha : a.size ≤ 1000000) (hc : c.size ≤ 1000000) : Ev (fun k => dI.l0 k s f p v [eL, a, b, c] 0 0) (rot (if dK a = true ∧ (1 ≤ kX b ∧ kX b ≤ 1000) ∧ dK c = true then mX s f p v ⟨a, kX b, c⟩ else (s, f, p, v, 3))) := by
  refine Ev.step (fun k => by rw [dI.l0]) ?_
  refine aO (show (0 : Int) < 3 by omega) (aO (by omega) (aO rfl (bT (by omega) ?_)))
  rw [show aP ByteArray.empty (List.drop (1 : Int).toNat [eL, a, b, c]) 0 = a from rfl, show wrap64 (0 + 1) = 1 from w64 (x := 1) (by omega) (by omega)]
  refine Ev.bind (fP a (by omega)) (fI (fun c1 => ?_) (fun c1 => aX ?_))
  · refine Ev.step (fun k => by rw [dI.l0]) ?_
    refine aO (show (1 : Int) < 3 by omega) (aO (by omega) (aO rfl (aO rfl ?_)))
    rw [show aP ByteArray.empty (List.drop (1 : Int).toNat [eL, a, b, c]) 1 = b from rfl, show wrap64 (1 + 1) = 2 from w64 (x := 2) (by omega) (by omega)]
    refine Ev.bind (aLH b) (fI (fun c2 => ?_) (fun c2 => aX ?_))
    · have hn := aCV.1 c2
      rw [aGW hn]
      refine aY (fun d => aX ?_) (fun d => aY (fun d2 => aX ?_) (fun d2 => ?_))
      · rw [if_neg (fun q => by omega)]; rfl
      · rw [if_neg (fun q => by omega)]; rfl
      · refine Ev.step (fun k => by rw [dI.l0]) ?_
        refine aO (show (2 : Int) < 3 by omega) (aO (by omega) (aO rfl (bT (by omega) ?_)))
        rw [show aP ByteArray.empty (List.drop (1 : Int).toNat [eL, a, b, c]) 2 = c from rfl, show wrap64 (2 + 1) = 3 from w64 (x := 3) (by omega) (by omega)]
        refine Ev.bind (fP c (by omega)) (fI (fun c3 => ?_) (fun c3 => aX ?_))
        · rw [if_pos ⟨c1, ⟨by omega, by omega⟩, c3⟩]
          exact aMI h a b c _
        · rw [if_neg (fun q => by rw [c3] at q; exact Bool.false_ne_true q.2.2)]; rfl
    · rw [if_neg (fun q => by have := aCV.2 (show 0 ≤ kX b by omega); rw [c2] at this; cases this)]; rfl
  · rw [if_neg (fun q => by rw [c1] at q; exact Bool.false_ne_true q.1)]; rfl
theorem aJM (ws : List ByteArray) (h1 : 1 ≤ ws.length) (h2 : ws.length ≤ 1000) (hz : ∀ w ∈ ws, w.size ≤ 1000000) : Ev (fun k => dI.f k s f p v ws) (rot (put s f p v ws)) := by
  cases ws with
  | nil => simp at h1
  | cons w r =>
  have hz' : ∀ x ∈ r, x.size ≤ 1000000 := fun x hx => hz x (List.mem_cons_of_mem _ hx)
  rw [List.length_cons] at h2
  unfold dI.f
  rw [show aP ByteArray.empty (w :: r) 0 = w from rfl]
  refine aO (by rw [List.length_cons]; omega) ?_
  unfold put
  rw [show gw (w :: r) 0 = w from rfl]
  have hl1 : (1 : Int) ≤ ((w :: r).length : Int) := by rw [List.length_cons]; omega
  by_cases c1 : w = fU
  · subst c1
    rw [if_pos rfl]
    refine aO (by decide) (aY (fun n => aO hl1 ?_) (fun n => aX ?_))
    · have n : ((fU :: r).length : Int) = 2 := n
      match r, n with
      | [a], _ =>
        refine fF (pA fU (by decide) [a] (by simp) hz' 0 (aNE h a)) ?_
        simp only [List.all_cons, List.all_nil, Bool.and_true]
        exact xE (B := [fU, a].length = 2 ∧ dK a = true) ⟨fun q => ⟨rfl, q⟩, fun z => z.2⟩ (zL s f p v a)
    · have n : ¬ ((fU :: r).length : Int) = 2 := n
      rw [if_neg (fun q => n (by omega))]; rfl
  rw [if_neg c1]
  by_cases c2 : w = jN
  · subst c2
    rw [if_pos rfl]
    refine aO (by decide) (aY (fun n => aO hl1 ?_) (fun n => aX ?_))
    · have n : ((jN :: r).length : Int) = 3 := n
      match r, n with
      | [a, b], _ =>
        refine fF (pA jN (by decide) [a, b] (by simp) hz' 0 (aNH h a b)) ?_
        simp only [List.all_cons, List.all_nil, Bool.and_true]
        exact xE (B := [jN, a, b].length = 3 ∧ dK a = true ∧ dK b = true) ⟨fun q => ⟨rfl, by simpa using q⟩, fun z => by simpa using z.2⟩ (yP s f p v a b)
    · have n : ¬ ((jN :: r).length : Int) = 3 := n
      rw [if_neg (fun q => n (by omega))]; rfl
  rw [if_neg c2]
  by_cases c3 : w = eL
  · subst c3
    rw [if_pos rfl]
    refine aO (by decide) (aY (fun n => aO hl1 ?_) (fun n => aX ?_))
    · have n : ((eL :: r).length : Int) = 4 := n
      match r, n with
      | [a, b, c], _ =>
        refine fF (aJF h a b c (hz' a (by simp)) (hz' c (by simp))) ?_
        exact aJA (B := [eL, a, b, c].length = 4 ∧ dK a = true ∧ (1 ≤ kX b ∧ kX b ≤ 1000) ∧ dK c = true) ⟨fun q => ⟨rfl, q⟩, fun z => z.2⟩ (mX s f p v ⟨a, kX b, c⟩) (s, f, p, v, 3)
    · have n : ¬ ((eL :: r).length : Int) = 4 := n
      rw [if_neg (fun q => n (by omega))]; rfl
  rw [if_neg c3]
  by_cases c4 : w = fL
  · subst c4
    rw [if_pos rfl]
    refine aO (by decide) (aY (fun n => aO hl1 ?_) (fun n => aX ?_))
    · have n : ((fL :: r).length : Int) = 3 := n
      match r, n with
      | [a, b], _ =>
        refine fF (pA fL (by decide) [a, b] (by simp) hz' 0 (aNF h a b)) ?_
        simp only [List.all_cons, List.all_nil, Bool.and_true]
        exact xE (B := [fL, a, b].length = 3 ∧ dK a = true ∧ dK b = true) ⟨fun q => ⟨rfl, by simpa using q⟩, fun z => by simpa using z.2⟩ (mX s f p v ⟨a, 0, b⟩)
    · have n : ¬ ((fL :: r).length : Int) = 3 := n
      rw [if_neg (fun q => n (by omega))]; rfl
  rw [if_neg c4]
  by_cases c5 : w = fD
  · subst c5
    rw [if_pos rfl]
    refine aO (by decide) (aY (fun n => aO hl1 ?_) (fun n => aX ?_))
    · have n : ((fD :: r).length : Int) = 5 := n
      match r, n with
      | [a, b, c, d], _ =>
        refine fF (pA fD (by decide) [a, b, c, d] (by simp) hz' 0 (aMU h a b c d)) ?_
        simp only [List.all_cons, List.all_nil, Bool.and_true]
        exact xE (B := [fD, a, b, c, d].length = 5 ∧ dK a = true ∧ dK b = true ∧ dK c = true ∧ dK d = true) ⟨fun q => ⟨rfl, by simpa using q⟩, fun z => by simpa using z.2⟩ (xQ s f p v a b c d)
    · have n : ¬ ((fD :: r).length : Int) = 5 := n
      rw [if_neg (fun q => n (by omega))]; rfl
  rw [if_neg c5]
  refine bT ?_ (aX rfl)
  unfold mpH
  simp only [List.any_cons, List.any_nil, aLK, Bool.or_false, Bool.or_eq_true, decide_eq_true_eq]
  rintro (e | e | e | e | e)
  · exact c1 e
  · exact c2 e
  · exact c3 e
  · exact c4 e
  · exact c5 e
end
abbrev PR := List ByteArray × List aD × List aB × List aA × Int × Int
abbrev PS := List ByteArray × List aD × List aB × List aA
def VdS (t : PS) : Prop := Vd t.1 t.2.1 t.2.2.1 t.2.2.2
def jY (t : PS) (ws : List ByteArray) : PC := put t.1 t.2.1 t.2.2.1 t.2.2.2 ws
def stC (t : PC) : PS := (t.1, t.2.1, t.2.2.1, t.2.2.2.1)
def jC (s : ByteArray) : List ByteArray × Bool := qF (wsp (iC 35 s.data.toList ++ [32]) [] [])
def gD : List ByteArray → Int → PS → PR
  | [], _, t => (t.1, t.2.1, t.2.2.1, t.2.2.2, 0, 0)
  | l :: r, i, t =>
    if (jC l).2 = true then
      (if 0 < (jC l).1.length then
        (if (jY t (jC l).1).2.2.2.2 = 0 then gD r (i + 1) (stC (jY t (jC l).1)) else ([], [], [], [], i + 1, (jY t (jC l).1).2.2.2.2))
      else gD r (i + 1) t)
    else ([], [], [], [], i + 1, 1)
def gI (s : ByteArray) : PR :=
  if 10000 < s.size then ([], [], [], [], 0, 7) else if 200 < (hU [] s.data.toList).length then ([], [], [], [], 0, 7) else gD (hU [] s.data.toList) 0 ([], [], [], [])
theorem wD {t : PS} (h : VdS t) (ws : List ByteArray) : VdS (stC (jY t ws)) := aLU h ws
theorem xG : ∀ (bs cur : List UInt8) (out o : List ByteArray), cur.length ≤ 24 → (∀ w ∈ out, w.size ≤ 24) → wsp bs cur out = some o → ∀ w ∈ o, w.size ≤ 24
  | [], cur, out, o, _, ho, h => by injection h with h; subst h; exact ho
  | b :: l, cur, out, o, hc, ho, h => by
    rw [wsp] at h
    split at h
    · split at h
      · exact xG l cur out o hc ho h
      · refine xG l [] _ o (by simp) (fun w hw => ?_) h
        rcases List.mem_append.1 hw with hw | hw
        · exact ho w hw
        · rw [List.mem_singleton] at hw
          subst hw
          rw [gM]; exact hc
    · split at h
      · rename_i hv
        exact xG l _ out o (by simp; omega) ho h
      · cases h
theorem aEL (s : ByteArray) : (jC s).1.length ≤ 16 ∧ ∀ w ∈ (jC s).1, w.size ≤ 24 := by
  refine ⟨aHB _, ?_⟩
  unfold jC
  cases ho : wsp (iC 35 s.data.toList ++ [32]) [] [] with
  | none => intro w hw; simp [qF] at hw
  | some o =>
    have hg := xG _ [] [] o (by simp) (fun w hw => by cases hw) ho
    intro w hw
    unfold qF at hw
    simp only at hw
    split at hw
    · simp at hw
    · exact hg w hw
theorem rA : ∀ (l : List ByteArray) (i : Int) (t : PS), VdS t → Vd (gD l i t).1 (gD l i t).2.1 (gD l i t).2.2.1 (gD l i t).2.2.2.1
  | [], i, t, h => h
  | l :: r, i, t, h => by
    unfold gD
    split
    · split
      · split
        · exact rA r _ _ (wD h _)
        · exact pM
      · exact rA r _ _ h
    · exact pM
theorem aDJ (s : ByteArray) : Vd (gI s).1 (gI s).2.1 (gI s).2.2.1 (gI s).2.2.2.1 := by
  unfold gI
  split
  · exact pM
  · split
    · exact pM
    · exact rA _ _ _ pM
theorem nF (a : ByteArray) (ha : a.size ≤ 1048576) : Ev (fun k => cB.f k a) (gI a) := by
  have h2 := xR a ha
  have hm := qV a.data.toList []
  unfold cB.f gI
  generalize hU [] a.data.toList = ls at *
  refine Ev.bind h2 (aY (fun c => aX (by rw [if_pos (by omega)])) (fun c => ?_))
  rw [if_neg (by omega)]
  refine aY (fun d => aX (by rw [if_pos (by omega)])) (fun d => ?_)
  rw [if_neg (by omega)]
  have hz : ∀ x ∈ ls, x.size ≤ 1048576 := fun x hx => by have := hm x hx; rw [iB] at this; simp at this; omega
  have key := eO ByteArray.empty ls (P := fun i r => ∀ t : PS, VdS t → Ev (fun k => cB.l0 k (i : Int) t.1 t.2.1 t.2.2.1 t.2.2.2 ls) (gD r (i : Int) t))
    (fun t ht => by refine Ev.step (fun k => by rw [cB.l0]) ?_; exact bT (by omega) (aX rfl)) (fun i x r hi hx hm _ ih t ht => ?_)
  · exact key ([], [], [], []) pM
  refine Ev.step (fun k => by rw [cB.l0]) (aO (by omega) (aO (by omega) ?_))
  obtain ⟨w1, w2⟩ := aEL x
  have hw : Ev (fun k => fX.f k x) (jC x) := xA x (hz x hm)
  rw [eZ, hx, dN hi (by omega)]
  unfold gD
  generalize jC x = W at *
  refine Ev.bind hw (fI (fun c1 => ?_) (fun c1 => aX ?_))
  · rw [if_pos c1]
    refine aY (fun c2 => ?_) (fun c2 => ?_)
    · rw [if_pos (show 0 < W.1.length by omega)]
      refine Ev.bind (aJM ht W.1 (by omega) (by omega) (fun w hw => by have := w2 w hw; omega)) (aY (fun c3 => ?_) (fun c3 => aX ?_))
      · rw [if_pos (show (jY t W.1).2.2.2.2 = 0 from c3)]
        exact ih (stC (jY t W.1)) (wD ht _)
      · rw [if_neg (show ¬ (jY t W.1).2.2.2.2 = 0 from c3)]; rfl
    · rw [if_neg (show ¬ 0 < W.1.length by omega)]
      exact ih t ht
  · rw [if_neg (by rw [c1]; simp)]; rfl
theorem mV (a b : ByteArray) : (a ++ b).data.toList = a.data.toList ++ b.data.toList := by simp [ByteArray.data_append]
def aKA (w : ByteArray) : Bool := decide (w.data.toList ≠ []) && (decide (w.data.toList.length ≤ 24) && w.data.toList.all fun b => decide ((33 ≤ b.toNat ∧ b.toNat ≤ 126) ∧ b ≠ 35))
theorem mT {w : ByteArray} (h : aKA w = true) : pE w.data.toList := by
  unfold aKA at h
  simp only [Bool.and_eq_true, decide_eq_true_eq, List.all_eq_true] at h
  exact ⟨h.1, h.2.1, h.2.2⟩
theorem rO : ∀ (a cur r : List UInt8), (∀ x ∈ a, x ≠ 10) → hU cur (a ++ 10 :: r) = mkB (cur ++ a) :: hU [] r
  | [], cur, r, _ => by simp [hU]
  | x :: a, cur, r, h => by
    rw [List.cons_append, hU, if_neg (h x (List.mem_cons_self ..)), rO a (cur ++ [x]) r (fun y hy => h y (List.mem_cons_of_mem _ hy))]
    simp
def iG (x : aD) : List ByteArray := [jN, x.f0, x.f1]
def iK (x : ByteArray) : List ByteArray := [fU, x]
def iL (x : aB) : List ByteArray := if x.f1 > 0 then [eL, x.f0, mD x.f1, x.f2] else [fL, x.f0, x.f2]
def hQ (x : aA) : List ByteArray := [fD, x.f0, x.f1, x.f2, x.f3]
theorem d32 : (⟨#[32]⟩ : ByteArray).data.toList = [32] := rfl
theorem d10 : (⟨#[10]⟩ : ByteArray).data.toList = [10] := rfl
theorem zS (x : ByteArray) : (kJ x).data.toList = jn (iK x) ++ [10] := by
  have e : (⟨#[115, 116, 117, 102, 102, 32]⟩ : ByteArray).data.toList = fU.data.toList ++ [32] := rfl
  simp only [kJ, iK, jn, spc, mV, e, d10, List.append_assoc, List.cons_append, List.nil_append, List.append_nil]; rfl
theorem yY (x : aD) : (jO x).data.toList = jn (iG x) ++ [10] := by
  have e : (⟨#[102, 111, 101, 32]⟩ : ByteArray).data.toList = jN.data.toList ++ [32] := rfl
  simp only [jO, iG, jn, spc, mV, e, d10, d32, List.append_assoc, List.cons_append, List.nil_append, List.append_nil]; rfl
theorem yF (x : aB) : (iN x).data.toList = jn (iL x) ++ [10] := by
  have e : (⟨#[118, 101, 115, 115, 101, 108, 32]⟩ : ByteArray).data.toList = eL.data.toList ++ [32] := rfl
  have e2 : (⟨#[106, 111, 105, 110, 116, 32]⟩ : ByteArray).data.toList = fL.data.toList ++ [32] := rfl
  unfold iN iL
  split
  · simp only [jn, spc, mV, e, d10, d32, List.append_assoc, List.cons_append, List.nil_append, List.append_nil]; rfl
  · simp only [jn, spc, mV, e2, d10, d32, List.append_assoc, List.cons_append, List.nil_append, List.append_nil]; rfl
theorem zG (x : aA) : (iH x).data.toList = jn (hQ x) ++ [10] := by
  have e : (⟨#[118, 97, 108, 118, 101, 32]⟩ : ByteArray).data.toList = fD.data.toList ++ [32] := rfl
  simp only [iH, hQ, jn, spc, mV, e, d10, d32, List.append_assoc, List.cons_append, List.nil_append, List.append_nil]; rfl
def lnL (W : List (List ByteArray)) : List UInt8 := (W.map fun ws => jn ws ++ [10]).flatten
theorem oU (a b : List (List ByteArray)) : lnL (a ++ b) = lnL a ++ lnL b := by unfold lnL; simp
theorem kC {α : Type} (g : α → ByteArray) (w : α → List ByteArray) (h : ∀ x, (g x).data.toList = jn (w x) ++ [10]) : ∀ (l : List α) (a : ByteArray), (cat g l a).data.toList = a.data.toList ++ lnL (l.map w)
  | [], a => by simp [cat, lnL]
  | x :: r, a => by
    rw [cat, kC g w h r, mV, h, List.map_cons]
    simp [lnL]
def mQ (ws : List ByteArray) : Prop := 1 ≤ ws.length ∧ ws.length ≤ 5 ∧ ∀ w ∈ ws, pE w.data.toList
theorem aCT : ∀ W : List (List ByteArray), (∀ ws ∈ W, mQ ws) → hU [] (lnL W) = W.map fun ws => mkB (jn ws)
  | [], _ => by simp [hU, lnL]
  | ws :: W, h => by
    have ih := aCT W (fun y hy => h y (List.mem_cons_of_mem _ hy))
    have hg := aKE ws (h ws (List.mem_cons_self ..)).2.2
    rw [show lnL (ws :: W) = jn ws ++ 10 :: lnL W by simp [lnL], rO _ [] _ (fun y hy => (hg y hy).2), ih]
    rfl
theorem wZ : ∀ W : List (List ByteArray), (∀ ws ∈ W, mQ ws) → (lnL W).length ≤ 126 * W.length
  | [], _ => by simp [lnL]
  | ws :: W, h => by
    have ih := wZ W (fun y hy => h y (List.mem_cons_of_mem _ hy))
    obtain ⟨h1, h2, h3⟩ := h ws (List.mem_cons_self ..)
    have := aLR ws h3
    rw [show lnL (ws :: W) = jn ws ++ 10 :: lnL W by simp [lnL], List.length_append, List.length_cons, List.length_cons]
    omega
theorem aDN {ws : List ByteArray} (h : mQ ws) : jC (mkB (jn ws)) = (ws, true) := by
  obtain ⟨h1, h2, h3⟩ := h
  unfold jC
  rw [qP, vW _ _ (fun y hy => (aKE _ h3 y hy).1), aLC _ (fun e => by rw [e] at h1; simp at h1) h3]
  unfold qF
  dsimp only
  rw [if_neg (by omega)]
theorem yE {α : Type} (g : α → List ByteArray) (st : List α → PS) (l : List α) (hg : ∀ x ∈ l, mQ (g x)) (step : ∀ a x b, l = a ++ x :: b → (jY (st a) (g x)).2.2.2.2 = 0 ∧ stC (jY (st a) (g x)) = st (a ++ [x])) (K : List ByteArray) :
    ∀ (r a : List α) (i : Int), a ++ r = l → ∃ j, gD ((r.map fun x => mkB (jn (g x))) ++ K) i (st a) = gD K j (st l)
  | [], a, i, h => by rw [List.append_nil] at h; subst h; exact ⟨i, rfl⟩
  | x :: r, a, i, h => by
    have hx := hg x (by rw [← h]; simp)
    obtain ⟨s1, s2⟩ := step a x r h.symm
    obtain ⟨j, ih⟩ := yE g st l hg step K r (a ++ [x]) (i + 1) (by rw [← h]; simp)
    refine ⟨j, ?_⟩
    rw [List.map_cons, List.cons_append, gD, aDN hx]
    dsimp only
    rw [if_pos rfl, if_pos (by have := hx.1; omega), if_pos s1, s2, ih]
theorem oG {α : Type} (p : α → α → Bool) (x : α) : ∀ l : List α, (∀ y ∈ l, p y x = true) → gA p x l = l ++ [x]
  | [], _ => rfl
  | y :: r, h => by rw [gA, if_pos (h y (List.mem_cons_self ..)), oG p x r (fun z hz => h z (List.mem_cons_of_mem _ hz))]; rfl
theorem jZ {p : List aB} {a : ByteArray} : dQ p a = true ↔ ∃ x ∈ p, x.f0 = a := by
  unfold dQ; rw [List.any_eq_true]; simp only [decide_eq_true_eq]
theorem wL {p : List aA} {a : ByteArray} : iU p a = true ↔ ∃ x ∈ p, x.f0 = a := by
  unfold iU; rw [List.any_eq_true]; simp only [decide_eq_true_eq]
theorem oT {α : Type} {q : α → α → Bool} {l a b : List α} {x : α} (h : l.Pairwise fun u v => q u v = true) (e : l = a ++ x :: b) : (∀ y ∈ a, q y x = true) ∧ a.length + 1 ≤ l.length ∧ x ∈ l := by
  subst e
  refine ⟨fun y hy => (List.pairwise_append.1 h).2.2 y hy x (List.mem_cons_self ..), by rw [List.length_append, List.length_cons]; omega, by simp⟩
section
variable {s : List ByteArray} {f : List aD} {p : List aB} {v : List aA} (h : Vd s f p v)
include h
theorem aMH (a : List ByteArray) (x : ByteArray) (b : List ByteArray) (e : s = a ++ x :: b) : (jY (a, [], [], []) (iK x)).2.2.2.2 = 0 ∧ stC (jY (a, [], [], []) (iK x)) = (a ++ [x], [], [], []) := by
  obtain ⟨c1, c2, c3⟩ := oT h.s2 e
  have hl := h.ls
  have k : jY (a, [], [], []) (iK x) = (a ++ [x], [], [], [], 0) := by
    unfold jY put iK
    dsimp only
    rw [if_pos (show gw [fU, x] 0 = fU from rfl), if_pos (show [fU, x].length = 2 ∧ dK (gw [fU, x] 1) = true from ⟨rfl, h.s1 x c3⟩), show gw [fU, x] 1 = x from rfl]
    unfold zL
    rw [if_neg (fun q => nI (c1 x (iY.1 q)) rfl), if_neg (by omega), oG lt x a c1]
  rw [k]; exact ⟨rfl, rfl⟩
theorem aMQ (a : List aD) (x : aD) (b : List aD) (e : f = a ++ x :: b) : (jY (s, a, [], []) (iG x)).2.2.2.2 = 0 ∧ stC (jY (s, a, [], []) (iG x)) = (s, a ++ [x], [], []) := by
  obtain ⟨c1, c2, c3⟩ := oT h.f2 e
  have hl := h.lf
  have hx := h.f1 x c3
  have ha : ∀ y ∈ a, pU s y = true := fun y hy => h.f1 y (by rw [e]; exact List.mem_append_left _ hy)
  simp only [pU, Bool.and_eq_true, iY] at hx ha
  have hm : nO x.f0 x.f1 = x := by
    unfold nO mnS mxS
    have l1 := hx.1
    have l2 := lM l1
    unfold lt at l1 l2
    rw [l1, l2]; rfl
  have k : jY (s, a, [], []) (iG x) = (s, a ++ [x], [], [], 0) := by
    unfold jY put iG
    dsimp only
    rw [if_neg (show ¬ gw [jN, x.f0, x.f1] 0 = fU from (by decide : ¬ jN = fU)), if_pos (show gw [jN, x.f0, x.f1] 0 = jN from rfl),
      if_pos (show [jN, x.f0, x.f1].length = 3 ∧ dK (gw [jN, x.f0, x.f1] 1) = true ∧ dK (gw [jN, x.f0, x.f1] 2) = true from ⟨rfl, h.s1 _ hx.2.1, h.s1 _ hx.2.2⟩), show gw [jN, x.f0, x.f1] 1 = x.f0 from rfl, show gw [jN, x.f0, x.f1] 2 = x.f1 from rfl]
    unfold yP
    rw [if_neg (nI hx.1), if_neg (fun q => ?_), if_pos ⟨iY.2 hx.2.1, iY.2 hx.2.2⟩, if_neg (by omega), hm, oG fR x a c1]
    unfold kR at q
    rw [List.any_eq_true] at q
    obtain ⟨y, hy, q⟩ := q
    simp only [Bool.or_eq_true, Bool.and_eq_true, decide_eq_true_eq] at q
    rcases q with ⟨q1, q2⟩ | ⟨q1, q2⟩
    · have : y = x := by cases y; cases x; simp only at q1 q2; rw [q1, q2]
      have g := c1 y hy
      rw [this, vE] at g; cases g
    · have g := (ha y hy).1
      rw [q1, q2, lM hx.1] at g; cases g
  rw [k]; exact ⟨rfl, rfl⟩
theorem aNI (a : List aB) (x : aB) (b : List aB) (e : p = a ++ x :: b) : (jY (s, f, a, []) (iL x)).2.2.2.2 = 0 ∧ stC (jY (s, f, a, []) (iL x)) = (s, f, a ++ [x], []) := by
  obtain ⟨c1, c2, c3⟩ := oT h.p2 e
  have hl := h.lp
  have hx := h.p1 x c3
  simp only [hZ, Bool.and_eq_true] at hx
  have hb := qB hx.2.1
  have kP : mX s f a [] x = (s, f, a ++ [x], [], 0) := by
    unfold mX
    rw [if_neg (fun q => ?_), if_neg (by omega), oG eX x a c1]
    obtain ⟨y, hy, q⟩ := jZ.1 q
    exact nI (c1 y hy) q
  have k : jY (s, f, a, []) (iL x) = (s, f, a ++ [x], [], 0) := by
    unfold jY iL
    dsimp only
    by_cases c : x.f1 > 0
    · have hn := (aCE (n := x.f1) (by omega) (by omega)).1
      rw [if_pos c]
      unfold put
      rw [if_neg (show ¬ gw [eL, x.f0, mD x.f1, x.f2] 0 = fU from (by decide : ¬ eL = fU)), if_neg (show ¬ gw [eL, x.f0, mD x.f1, x.f2] 0 = jN from (by decide : ¬ eL = jN)), if_pos (show gw [eL, x.f0, mD x.f1, x.f2] 0 = eL from rfl),
        show gw [eL, x.f0, mD x.f1, x.f2] 1 = x.f0 from rfl, show gw [eL, x.f0, mD x.f1, x.f2] 2 = mD x.f1 from rfl, show gw [eL, x.f0, mD x.f1, x.f2] 3 = x.f2 from rfl, hn,
        if_pos (show [eL, x.f0, mD x.f1, x.f2].length = 4 ∧ dK x.f0 = true ∧ (1 ≤ x.f1 ∧ x.f1 ≤ 1000) ∧ dK x.f2 = true from ⟨rfl, hx.1, ⟨by omega, by omega⟩, hx.2.2⟩)]
      exact kP
    · have hn : (⟨x.f0, 0, x.f2⟩ : aB) = x := by
        have c0 : x.f1 = 0 := by omega
        cases x; simp only at c0; rw [c0]
      rw [if_neg c]
      unfold put
      rw [if_neg (show ¬ gw [fL, x.f0, x.f2] 0 = fU from (by decide : ¬ fL = fU)), if_neg (show ¬ gw [fL, x.f0, x.f2] 0 = jN from (by decide : ¬ fL = jN)), if_neg (show ¬ gw [fL, x.f0, x.f2] 0 = eL from (by decide : ¬ fL = eL)), if_pos (show gw [fL, x.f0, x.f2] 0 = fL from rfl),
        show gw [fL, x.f0, x.f2] 1 = x.f0 from rfl, show gw [fL, x.f0, x.f2] 2 = x.f2 from rfl,
        if_pos (show [fL, x.f0, x.f2].length = 3 ∧ dK x.f0 = true ∧ dK x.f2 = true from ⟨rfl, hx.1, hx.2.2⟩), hn]
      exact kP
  rw [k]; exact ⟨rfl, rfl⟩
theorem aMZ (a : List aA) (x : aA) (b : List aA) (e : v = a ++ x :: b) : (jY (s, f, p, a) (hQ x)).2.2.2.2 = 0 ∧ stC (jY (s, f, p, a) (hQ x)) = (s, f, p, a ++ [x]) := by
  obtain ⟨c1, c2, c3⟩ := oT h.v2 e
  have hl := h.lv
  have hx := h.v1 x c3
  simp only [iW, Bool.and_eq_true] at hx
  obtain ⟨x0, x1, x2, x3, x4⟩ := hx
  have hpl := fun y hy => (Bool.and_eq_true .. ▸ h.p1 y hy : dK y.f0 = true ∧ _).1
  have n1 : dK x.f1 = true := by obtain ⟨y, hy, q⟩ := jZ.1 x2; exact q ▸ hpl y hy
  have n2 : dK x.f2 = true := by obtain ⟨y, hy, q⟩ := jZ.1 x3; exact q ▸ hpl y hy
  have hm : (⟨x.f0, mnS x.f1 x.f2, mxS x.f1 x.f2, x.f3⟩ : aA) = x := by
    unfold mnS mxS
    have l2 := lM x1
    unfold lt at x1 l2
    rw [x1, l2]; rfl
  have k : jY (s, f, p, a) (hQ x) = (s, f, p, a ++ [x], 0) := by
    unfold jY put hQ
    dsimp only
    rw [if_neg (show ¬ gw [fD, x.f0, x.f1, x.f2, x.f3] 0 = fU from (by decide : ¬ fD = fU)), if_neg (show ¬ gw [fD, x.f0, x.f1, x.f2, x.f3] 0 = jN from (by decide : ¬ fD = jN)), if_neg (show ¬ gw [fD, x.f0, x.f1, x.f2, x.f3] 0 = eL from (by decide : ¬ fD = eL)),
      if_neg (show ¬ gw [fD, x.f0, x.f1, x.f2, x.f3] 0 = fL from (by decide : ¬ fD = fL)), if_pos (show gw [fD, x.f0, x.f1, x.f2, x.f3] 0 = fD from rfl),
      show gw [fD, x.f0, x.f1, x.f2, x.f3] 1 = x.f0 from rfl, show gw [fD, x.f0, x.f1, x.f2, x.f3] 2 = x.f1 from rfl, show gw [fD, x.f0, x.f1, x.f2, x.f3] 3 = x.f2 from rfl, show gw [fD, x.f0, x.f1, x.f2, x.f3] 4 = x.f3 from rfl,
      if_pos (show [fD, x.f0, x.f1, x.f2, x.f3].length = 5 ∧ dK x.f0 = true ∧ dK x.f1 = true ∧ dK x.f2 = true ∧ dK x.f3 = true from ⟨rfl, x0, n1, n2, x4⟩)]
    unfold xQ
    rw [if_neg (nI x1), if_neg (fun q => ?_), if_pos ⟨x2, x3⟩, if_neg (by omega), hm, oG eM x a c1]
    obtain ⟨y, hy, q⟩ := wL.1 q
    exact nI (c1 y hy) q
  rw [k]; exact ⟨rfl, rfl⟩
theorem okS : ∀ x ∈ s, mQ (iK x) := fun x hx => ⟨by simp [iK], by simp [iK], fun w hw => by
  simp only [iK, List.mem_cons, List.mem_nil_iff, or_false] at hw
  rcases hw with rfl | rfl
  · exact mT (by decide)
  · exact iF (h.s1 w hx)⟩
theorem okF : ∀ x ∈ f, mQ (iG x) := fun x hx => ⟨by simp [iG], by simp [iG], fun w hw => by
  have hx := h.f1 x hx
  simp only [pU, Bool.and_eq_true, iY] at hx
  simp only [iG, List.mem_cons, List.mem_nil_iff, or_false] at hw
  rcases hw with rfl | rfl | rfl
  · exact mT (by decide)
  · exact iF (h.s1 _ hx.2.1)
  · exact iF (h.s1 _ hx.2.2)⟩
theorem okP : ∀ x ∈ p, mQ (iL x) := fun x hx => by
  have hx := h.p1 x hx
  simp only [hZ, Bool.and_eq_true] at hx
  have hb := qB hx.2.1
  unfold iL
  split
  · refine ⟨by simp, by simp, fun w hw => ?_⟩
    simp only [List.mem_cons, List.mem_nil_iff, or_false] at hw
    rcases hw with rfl | rfl | rfl | rfl
    · exact mT (by decide)
    · exact iF hx.1
    · exact (aCE (by omega) (by omega)).2
    · exact iF hx.2.2
  · refine ⟨by simp, by simp, fun w hw => ?_⟩
    simp only [List.mem_cons, List.mem_nil_iff, or_false] at hw
    rcases hw with rfl | rfl | rfl
    · exact mT (by decide)
    · exact iF hx.1
    · exact iF hx.2.2
theorem okV : ∀ x ∈ v, mQ (hQ x) := fun x hx => ⟨by simp [hQ], by simp [hQ], fun w hw => by
  have hx := h.v1 x hx
  simp only [iW, Bool.and_eq_true] at hx
  obtain ⟨x0, x1, x2, x3, x4⟩ := hx
  have hpl := fun y hy => (Bool.and_eq_true .. ▸ h.p1 y hy : dK y.f0 = true ∧ _).1
  have n1 : dK x.f1 = true := by obtain ⟨y, hy, q⟩ := jZ.1 x2; exact q ▸ hpl y hy
  have n2 : dK x.f2 = true := by obtain ⟨y, hy, q⟩ := jZ.1 x3; exact q ▸ hpl y hy
  simp only [hQ, List.mem_cons, List.mem_nil_iff, or_false] at hw
  rcases hw with rfl | rfl | rfl | rfl | rfl
  · exact mT (by decide)
  · exact iF x0
  · exact iF n1
  · exact iF n2
  · exact iF x4⟩
theorem aAT : gI (kT s f p v) = (s, f, p, v, 0, 0) := by
  have hd : (kT s f p v).data.toList = lnL (s.map iK ++ (f.map iG ++ (p.map iL ++ v.map hQ))) := by
    unfold kT
    rw [kC iH hQ zG, kC iN iL yF, kC jO iG yY, kC kJ iK zS, oU, oU, oU]
    simp
  have hok : ∀ ws ∈ s.map iK ++ (f.map iG ++ (p.map iL ++ v.map hQ)), mQ ws := fun ws hw => by
    simp only [List.mem_append, List.mem_map] at hw
    rcases hw with ⟨x, hx, rfl⟩ | ⟨x, hx, rfl⟩ | ⟨x, hx, rfl⟩ | ⟨x, hx, rfl⟩
    · exact okS h x hx
    · exact okF h x hx
    · exact okP h x hx
    · exact okV h x hx
  have hlen : (s.map iK ++ (f.map iG ++ (p.map iL ++ v.map hQ))).length ≤ 52 := by
    have := h.ls; have := h.lf; have := h.lp; have := h.lv
    simp only [List.length_append, List.length_map]; omega
  have hsz := wZ _ hok
  rw [← hd, iB] at hsz
  unfold gI
  rw [if_neg (by omega), hd, aCT _ hok, if_neg (by rw [List.length_map]; omega)]
  simp only [List.map_append, List.map_map]
  obtain ⟨j1, e1⟩ := yE iK (fun a => (a, [], [], [])) s (okS h) (aMH h) (((f.map fun x => mkB (jn (iG x))) ++ ((p.map fun x => mkB (jn (iL x))) ++ (v.map fun x => mkB (jn (hQ x)))))) s [] 0 rfl
  obtain ⟨j2, e2⟩ := yE iG (fun a => (s, a, [], [])) f (okF h) (aMQ h) ((p.map fun x => mkB (jn (iL x))) ++ (v.map fun x => mkB (jn (hQ x)))) f [] j1 rfl
  obtain ⟨j3, e3⟩ := yE iL (fun a => (s, f, a, [])) p (okP h) (aNI h) (v.map fun x => mkB (jn (hQ x))) p [] j2 rfl
  obtain ⟨j4, e4⟩ := yE hQ (fun a => (s, f, p, a)) v (okV h) (aMZ h) [] v [] j3 rfl
  rw [List.append_nil] at e4
  exact e1.trans (e2.trans (e3.trans e4))
end
theorem aAN (l : List ByteArray) (hl : l.length ≤ 140737488351232) : Ev (fun k => dW.f k l l) true := by
  unfold dW.f
  refine aO rfl ?_
  refine eO ByteArray.empty l (P := fun i r => Ev (fun k => dW.l0 k l l (i : Int)) true)
    (by refine Ev.step (fun k => by rw [dW.l0]) ?_; exact bT (by omega) (aX rfl)) (fun i x r hi hx hm _ ih => ?_)
  refine Ev.step (fun k => by rw [dW.l0]) (aO (by omega) (aO (by omega) (aO (by omega) (aO rfl ?_))))
  rw [dN hi (by omega)]
  exact ih
theorem tV (s : List ByteArray) (f : List aD) (p : List aB) (v : List aA) (hs : s.length ≤ 1000000) (hf : f.length ≤ 1000000) (hp : p.length ≤ 1000000) (hv : v.length ≤ 1000000) :
    Ev (fun k => bE.f k s f p v s f p v) true := by
  have L2 : Ev (fun k => bE.l2 k v v 0) true := by
    refine eO cJ v (P := fun i r => Ev (fun k => bE.l2 k v v (i : Int)) true)
      (by refine Ev.step (fun k => by rw [bE.l2]) ?_; exact bT (by omega) (aX rfl)) (fun i x r hi hx hm _ ih => ?_)
    refine Ev.step (fun k => by rw [bE.l2]) (aO (by omega) (aO (by omega) (aO (by omega) (aO (by simp) ?_))))
    rw [dN hi (by omega)]
    exact ih
  have L1 : Ev (fun k => bE.l1 k p v p v 0) true := by
    refine eO dB p (P := fun i r => Ev (fun k => bE.l1 k p v p v (i : Int)) true)
      (by refine Ev.step (fun k => by rw [bE.l1]) ?_; exact bT (by omega) L2) (fun i x r hi hx hm _ ih => ?_)
    refine Ev.step (fun k => by rw [bE.l1]) (aO (by omega) (aO (by omega) (aO (by omega) (aO (by simp) ?_))))
    rw [dN hi (by omega)]
    exact ih
  have L0 : Ev (fun k => bE.l0 k f p v f p v 0) true := by
    refine eO cW f (P := fun i r => Ev (fun k => bE.l0 k f p v f p v (i : Int)) true)
      (by refine Ev.step (fun k => by rw [bE.l0]) ?_; exact bT (by omega) L1) (fun i x r hi hx hm _ ih => ?_)
    refine Ev.step (fun k => by rw [bE.l0]) (aO (by omega) (aO (by omega) (aO (by omega) (aO (by simp) ?_))))
    rw [dN hi (by omega)]
    exact ih
  unfold bE.f
  exact Ev.bind (aAN s (by omega)) (aO rfl (aO rfl (aO rfl (aO rfl L0))))
def kZ (s : List ByteArray) (f : List aD) (p : List aB) (v : List aA) : ByteArray := if lE s f p v = true then kT s f p v else (⟨#[]⟩ : ByteArray)
theorem wT {s : List ByteArray} {f : List aD} {p : List aB} {v : List aA} (z : SzP s f p v) : Ev (fun k => aT.f k s f p v) (kZ s f p v) := by
  have hI := pX _ _ _ _ z
  have hv := @aBR s f p v
  unfold aT.f kZ
  generalize lE s f p v = b at *
  refine Ev.bind hI ?_
  cases b
  · exact bT (by simp) (aX rfl)
  · exact aO rfl (aMN _ _ _ _ (hv rfl) _ (by rw [z0]; omega))
theorem aAF {s : List ByteArray} {f : List aD} {p : List aB} {v : List aA} : (kZ s f p v).size ≤ 1048576 := by
  unfold kZ
  split
  · rename_i h
    have hp := aBR h
    have hd := wW.1 h
    have := hd.ls; have := hd.lf; have := hd.lp; have := hd.lv
    have h1 := oK kJ 100 s (⟨#[]⟩ : ByteArray) (fun x hx => by have := hp.s x hx; unfold kJ; simp only [ByteArray.size_append, zs, zn]; omega)
    have h2 := oK jO 100 f (cat kJ s (⟨#[]⟩ : ByteArray)) (fun x hx => by have := hp.f x hx; unfold jO; simp only [ByteArray.size_append, zf, z1, zn]; omega)
    have h3 := oK iN 20000 p (cat jO f (cat kJ s (⟨#[]⟩ : ByteArray))) (fun x hx => pQ (hp.p x hx))
    have h4 := oK iH 100 v (cat iN p (cat jO f (cat kJ s (⟨#[]⟩ : ByteArray)))) (fun x hx => by have := (hp.v x hx).a0; have := (hp.v x hx).a1; have := (hp.v x hx).a2; have := (hp.v x hx).a3; unfold iH; simp only [ByteArray.size_append, zv, z1, zn]; omega)
    rw [z0] at h1
    unfold kT
    omega
  · rw [z0]; omega
theorem mW (l : List ByteArray) (i : Nat) : aP ByteArray.empty l (i : Int) = gw l i := eZ _ _ _
section
variable (s : List ByteArray) (f : List aD) (p : List aB) (v : List aA) (ws : List ByteArray)
theorem lpS (hl : s.length ≤ 1000) : Ev (fun k => dD.l0 k s f p v ws 0) (gA lt (aP ByteArray.empty ws 1) s, f, p, v, 0) := by
  refine fF (eO ByteArray.empty s (P := fun i r => s.drop i = r → Ev (fun k => dD.l0 k s f p v ws (i : Int)) (s.take i ++ gA lt (aP ByteArray.empty ws 1) r, f, p, v, 0)) (fun _ => ?_) (fun i y r hi hy _ hr ih hd => ?_) rfl) (by simp)
  · refine Ev.step (fun k => by rw [dD.l0]) ?_
    refine bT (by omega) (aO (by omega) (aO (by omega) (aO (by rw [Int.toNat_natCast]; omega) (aO (by rw [Int.toNat_natCast]; omega) (aO (by rw [Int.toNat_natCast]; omega) (aX ?_))))))
    simp [gA]
  · refine Ev.step (fun k => by rw [dD.l0]) (aO (by omega) (aO (by omega) ?_))
    rw [eZ, hy, dN hi (by omega), Int.toNat_natCast]
    have ht : s.take (i + 1) = s.take i ++ [y] := by rw [List.take_succ_eq_append_getElem hi, ← gZ ByteArray.empty s i hi, hy]
    refine (fI (fun c => fF (ih hr) ?_) (fun c => aO (by omega) (aO (by omega) (aO (by omega) (aO (by omega) (aX ?_))))))
    · rw [ht, show gA lt (aP ByteArray.empty ws 1) (y :: r) = y :: gA lt (aP ByteArray.empty ws 1) r from if_pos c]; simp
    · have c : lt y (aP ByteArray.empty ws 1) = false := c
      rw [show gA lt (aP ByteArray.empty ws 1) (y :: r) = (aP ByteArray.empty ws 1) :: y :: r from if_neg (by rw [c]; simp), ← hd]; simp
theorem aNK (hl : f.length ≤ 1000) : Ev (fun k => cD.l0 k s f p v ws 0) (s, gA fR (⟨aP ByteArray.empty ws 2, aP ByteArray.empty ws 1⟩ : aD) f, p, v, 0) := by
  refine fF (eO cW f (P := fun i r => f.drop i = r → Ev (fun k => cD.l0 k s f p v ws (i : Int)) (s, f.take i ++ gA fR (⟨aP ByteArray.empty ws 2, aP ByteArray.empty ws 1⟩ : aD) r, p, v, 0)) (fun _ => ?_) (fun i y r hi hy _ hr ih hd => ?_) rfl) (by simp)
  · refine Ev.step (fun k => by rw [cD.l0]) ?_
    refine bT (by omega) (aO (by omega) (aO (by omega) (aO (by rw [Int.toNat_natCast]; omega) (aO (by rw [Int.toNat_natCast]; omega) (aO (by rw [Int.toNat_natCast]; omega) (aX ?_))))))
    simp [gA]
  · refine Ev.step (fun k => by rw [cD.l0]) (aO (by omega) (aO (by omega) ?_))
    rw [rdF, hy, dN hi (by omega), Int.toNat_natCast]
    have ht : f.take (i + 1) = f.take i ++ [y] := by rw [List.take_succ_eq_append_getElem hi, ← gZ cW f i hi, hy]
    refine Ev.bind (iZ _ _ _ _) (fI (fun c => fF (ih hr) ?_) (fun c => aO (by omega) (aO (by omega) (aO (by omega) (aO (by omega) (aX ?_))))))
    · rw [ht, show gA fR (⟨aP ByteArray.empty ws 2, aP ByteArray.empty ws 1⟩ : aD) (y :: r) = y :: gA fR (⟨aP ByteArray.empty ws 2, aP ByteArray.empty ws 1⟩ : aD) r from if_pos c]; simp
    · have c : fR y (⟨aP ByteArray.empty ws 2, aP ByteArray.empty ws 1⟩ : aD) = false := c
      rw [show gA fR (⟨aP ByteArray.empty ws 2, aP ByteArray.empty ws 1⟩ : aD) (y :: r) = (⟨aP ByteArray.empty ws 2, aP ByteArray.empty ws 1⟩ : aD) :: y :: r from if_neg (by rw [c]; simp), ← hd]; simp
theorem aNL (hl : f.length ≤ 1000) : Ev (fun k => cD.l1 k s f p v ws 0) (s, gA fR (⟨aP ByteArray.empty ws 1, aP ByteArray.empty ws 2⟩ : aD) f, p, v, 0) := by
  refine fF (eO cW f (P := fun i r => f.drop i = r → Ev (fun k => cD.l1 k s f p v ws (i : Int)) (s, f.take i ++ gA fR (⟨aP ByteArray.empty ws 1, aP ByteArray.empty ws 2⟩ : aD) r, p, v, 0)) (fun _ => ?_) (fun i y r hi hy _ hr ih hd => ?_) rfl) (by simp)
  · refine Ev.step (fun k => by rw [cD.l1]) ?_
    refine bT (by omega) (aO (by omega) (aO (by omega) (aO (by rw [Int.toNat_natCast]; omega) (aO (by rw [Int.toNat_natCast]; omega) (aO (by rw [Int.toNat_natCast]; omega) (aX ?_))))))
    simp [gA]
  · refine Ev.step (fun k => by rw [cD.l1]) (aO (by omega) (aO (by omega) ?_))
    rw [rdF, hy, dN hi (by omega), Int.toNat_natCast]
    have ht : f.take (i + 1) = f.take i ++ [y] := by rw [List.take_succ_eq_append_getElem hi, ← gZ cW f i hi, hy]
    refine Ev.bind (iZ _ _ _ _) (fI (fun c => fF (ih hr) ?_) (fun c => aO (by omega) (aO (by omega) (aO (by omega) (aO (by omega) (aX ?_))))))
    · rw [ht, show gA fR (⟨aP ByteArray.empty ws 1, aP ByteArray.empty ws 2⟩ : aD) (y :: r) = y :: gA fR (⟨aP ByteArray.empty ws 1, aP ByteArray.empty ws 2⟩ : aD) r from if_pos c]; simp
    · have c : fR y (⟨aP ByteArray.empty ws 1, aP ByteArray.empty ws 2⟩ : aD) = false := c
      rw [show gA fR (⟨aP ByteArray.empty ws 1, aP ByteArray.empty ws 2⟩ : aD) (y :: r) = (⟨aP ByteArray.empty ws 1, aP ByteArray.empty ws 2⟩ : aD) :: y :: r from if_neg (by rw [c]; simp), ← hd]; simp
theorem lpP (a : ByteArray) (n : Int) (e : ByteArray) (hl : p.length ≤ 1000) : Ev (fun k => bY.l0 k s f p v a n e 0) (s, f, gA eX (⟨a, n, e⟩ : aB) p, v, 0) := by
  refine fF (eO dB p (P := fun i r => p.drop i = r → Ev (fun k => bY.l0 k s f p v a n e (i : Int)) (s, f, p.take i ++ gA eX (⟨a, n, e⟩ : aB) r, v, 0)) (fun _ => ?_) (fun i y r hi hy _ hr ih hd => ?_) rfl) (by simp)
  · refine Ev.step (fun k => by rw [bY.l0]) ?_
    refine bT (by omega) (aO (by omega) (aO (by omega) (aO (by rw [Int.toNat_natCast]; omega) (aO (by rw [Int.toNat_natCast]; omega) (aO (by rw [Int.toNat_natCast]; omega) (aX ?_))))))
    simp [gA]
  · refine Ev.step (fun k => by rw [bY.l0]) (aO (by omega) (aO (by omega) ?_))
    rw [rdP, hy, dN hi (by omega), Int.toNat_natCast]
    have ht : p.take (i + 1) = p.take i ++ [y] := by rw [List.take_succ_eq_append_getElem hi, ← gZ dB p i hi, hy]
    refine (fI (fun c => fF (ih hr) ?_) (fun c => aO (by omega) (aO (by omega) (aO (by omega) (aO (by omega) (aX ?_))))))
    · rw [ht, show gA eX (⟨a, n, e⟩ : aB) (y :: r) = y :: gA eX (⟨a, n, e⟩ : aB) r from if_pos c]; simp
    · have c : eX y (⟨a, n, e⟩ : aB) = false := c
      rw [show gA eX (⟨a, n, e⟩ : aB) (y :: r) = (⟨a, n, e⟩ : aB) :: y :: r from if_neg (by rw [c]; simp), ← hd]; simp
theorem aNM (hl : v.length ≤ 1000) : Ev (fun k => bL.l0 k s f p v ws 0) (s, f, p, gA eM (⟨aP ByteArray.empty ws 1, aP ByteArray.empty ws 3, aP ByteArray.empty ws 2, aP ByteArray.empty ws 4⟩ : aA) v, 0) := by
  refine fF (eO cJ v (P := fun i r => v.drop i = r → Ev (fun k => bL.l0 k s f p v ws (i : Int)) (s, f, p, v.take i ++ gA eM (⟨aP ByteArray.empty ws 1, aP ByteArray.empty ws 3, aP ByteArray.empty ws 2, aP ByteArray.empty ws 4⟩ : aA) r, 0)) (fun _ => ?_) (fun i y r hi hy _ hr ih hd => ?_) rfl) (by simp)
  · refine Ev.step (fun k => by rw [bL.l0]) ?_
    refine bT (by omega) (aO (by omega) (aO (by omega) (aO (by rw [Int.toNat_natCast]; omega) (aO (by rw [Int.toNat_natCast]; omega) (aO (by rw [Int.toNat_natCast]; omega) (aX ?_))))))
    simp [gA]
  · refine Ev.step (fun k => by rw [bL.l0]) (aO (by omega) (aO (by omega) ?_))
    rw [rdV, hy, dN hi (by omega), Int.toNat_natCast]
    have ht : v.take (i + 1) = v.take i ++ [y] := by rw [List.take_succ_eq_append_getElem hi, ← gZ cJ v i hi, hy]
    refine (fI (fun c => fF (ih hr) ?_) (fun c => aO (by omega) (aO (by omega) (aO (by omega) (aO (by omega) (aX ?_))))))
    · rw [ht, show gA eM (⟨aP ByteArray.empty ws 1, aP ByteArray.empty ws 3, aP ByteArray.empty ws 2, aP ByteArray.empty ws 4⟩ : aA) (y :: r) = y :: gA eM (⟨aP ByteArray.empty ws 1, aP ByteArray.empty ws 3, aP ByteArray.empty ws 2, aP ByteArray.empty ws 4⟩ : aA) r from if_pos c]; simp
    · have c : eM y (⟨aP ByteArray.empty ws 1, aP ByteArray.empty ws 3, aP ByteArray.empty ws 2, aP ByteArray.empty ws 4⟩ : aA) = false := c
      rw [show gA eM (⟨aP ByteArray.empty ws 1, aP ByteArray.empty ws 3, aP ByteArray.empty ws 2, aP ByteArray.empty ws 4⟩ : aA) (y :: r) = (⟨aP ByteArray.empty ws 1, aP ByteArray.empty ws 3, aP ByteArray.empty ws 2, aP ByteArray.empty ws 4⟩ : aA) :: y :: r from if_neg (by rw [c]; simp), ← hd]; simp
theorem aNN (hl : v.length ≤ 1000) : Ev (fun k => bL.l1 k s f p v ws 0) (s, f, p, gA eM (⟨aP ByteArray.empty ws 1, aP ByteArray.empty ws 2, aP ByteArray.empty ws 3, aP ByteArray.empty ws 4⟩ : aA) v, 0) := by
  refine fF (eO cJ v (P := fun i r => v.drop i = r → Ev (fun k => bL.l1 k s f p v ws (i : Int)) (s, f, p, v.take i ++ gA eM (⟨aP ByteArray.empty ws 1, aP ByteArray.empty ws 2, aP ByteArray.empty ws 3, aP ByteArray.empty ws 4⟩ : aA) r, 0)) (fun _ => ?_) (fun i y r hi hy _ hr ih hd => ?_) rfl) (by simp)
  · refine Ev.step (fun k => by rw [bL.l1]) ?_
    refine bT (by omega) (aO (by omega) (aO (by omega) (aO (by rw [Int.toNat_natCast]; omega) (aO (by rw [Int.toNat_natCast]; omega) (aO (by rw [Int.toNat_natCast]; omega) (aX ?_))))))
    simp [gA]
  · refine Ev.step (fun k => by rw [bL.l1]) (aO (by omega) (aO (by omega) ?_))
    rw [rdV, hy, dN hi (by omega), Int.toNat_natCast]
    have ht : v.take (i + 1) = v.take i ++ [y] := by rw [List.take_succ_eq_append_getElem hi, ← gZ cJ v i hi, hy]
    refine (fI (fun c => fF (ih hr) ?_) (fun c => aO (by omega) (aO (by omega) (aO (by omega) (aO (by omega) (aX ?_))))))
    · rw [ht, show gA eM (⟨aP ByteArray.empty ws 1, aP ByteArray.empty ws 2, aP ByteArray.empty ws 3, aP ByteArray.empty ws 4⟩ : aA) (y :: r) = y :: gA eM (⟨aP ByteArray.empty ws 1, aP ByteArray.empty ws 2, aP ByteArray.empty ws 3, aP ByteArray.empty ws 4⟩ : aA) r from if_pos c]; simp
    · have c : eM y (⟨aP ByteArray.empty ws 1, aP ByteArray.empty ws 2, aP ByteArray.empty ws 3, aP ByteArray.empty ws 4⟩ : aA) = false := c
      rw [show gA eM (⟨aP ByteArray.empty ws 1, aP ByteArray.empty ws 2, aP ByteArray.empty ws 3, aP ByteArray.empty ws 4⟩ : aA) (y :: r) = (⟨aP ByteArray.empty ws 1, aP ByteArray.empty ws 2, aP ByteArray.empty ws 3, aP ByteArray.empty ws 4⟩ : aA) :: y :: r from if_neg (by rw [c]; simp), ← hd]; simp
end
theorem yS (s : List ByteArray) (f : List aD) (p : List aB) (v : List aA) (a b : ByteArray) (hf : f.length ≤ 1000) : Ev (fun k => dG.f k s f p v a b) (kR f a b) := by
  unfold dG.f kR
  refine eO cW f (P := fun i r => Ev (fun k => dG.l0 k f a b (i : Int)) (r.any fun x => (decide (x.f0 = a) && decide (x.f1 = b)) || (decide (x.f0 = b) && decide (x.f1 = a))))
    (by refine Ev.step (fun k => by rw [dG.l0]) ?_; exact bT (by omega) (aX rfl)) (fun i x r hi hx hm _ ih => ?_)
  refine Ev.step (fun k => by rw [dG.l0]) (aO (by omega) (aO (by omega) ?_))
  rw [dN hi (by omega), rdF, hx]
  simp only [cR]
  rw [List.any_cons]
  have hno : ∀ c : Bool, c = false → Ev (fun k => dG.l0 k f a b ((i + 1 : Nat) : Int)) (c || r.any fun x => (decide (x.f0 = a) && decide (x.f1 = b)) || (decide (x.f0 = b) && decide (x.f1 = a))) := fun c hc => by subst hc; exact ih
  refine aY (fun c1 => aY (fun c2 => aX ?_) (fun c2 => aY (fun c3 => aY (fun c4 => aX ?_) (fun c4 => hno _ ?_)) (fun c3 => hno _ ?_))) (fun c1 => aY (fun c3 => aY (fun c4 => aX ?_) (fun c4 => hno _ ?_)) (fun c3 => hno _ ?_))
  · simp [c1, c2]
  · simp [c3, c4]
  · rw [decide_eq_false c2, decide_eq_false c4]; simp
  · rw [decide_eq_false c2, decide_eq_false c3]; simp
  · simp [c3, c4]
  · rw [decide_eq_false c1, decide_eq_false c4]; simp
  · rw [decide_eq_false c1, decide_eq_false c3]; simp
theorem wR (s : List ByteArray) (f : List aD) (p : List aB) (v : List aA) (a : ByteArray) (hv : v.length ≤ 1000) : ∃ n : Int, Ev (fun k => dH.f k s f p v a) n ∧ (n ≥ 0 ↔ iU v a = true) := by
  unfold dH.f iU
  refine eO cJ v (P := fun i r => ∃ n : Int, Ev (fun k => dH.l0 k v a (i : Int)) n ∧ (n ≥ 0 ↔ (r.any fun x => decide (x.f0 = a)) = true))
    (⟨-1, by refine Ev.step (fun k => by rw [dH.l0]) ?_; exact bT (by omega) (aX rfl), by simp⟩) (fun i x r hi hx hm _ ih => ?_)
  obtain ⟨n, e, hn⟩ := ih
  by_cases c : x.f0 = a
  · refine ⟨(i : Int), Ev.step (fun k => by rw [dH.l0]) (aO (by omega) (aO (by omega) ?_)), by simp [c]⟩
    rw [rdV, hx]
    exact aO (cR.2 c) (aX rfl)
  · refine ⟨n, Ev.step (fun k => by rw [dH.l0]) (aO (by omega) (aO (by omega) ?_)), by rw [hn, List.any_cons, decide_eq_false c, Bool.false_or]⟩
    rw [rdV, hx, dN hi (by omega)]
    exact bT (fun q => c (cR.1 q)) e
section
variable {s : List ByteArray} {f : List aD} {p : List aB} {v : List aA} (h : Vd s f p v)
include h
theorem vV (x : aB) : Ev (fun k => bY.f k s f p v x.f0 x.f1 x.f2) (mX s f p v x) := by
  have hl := h.lp
  unfold bY.f mX
  refine Ev.bind (jU s f p v x.f0 (by omega)) ?_
  have hn := iX x.f0 p
  refine aY (fun c => aX ?_) (fun c => ?_)
  · rw [if_pos]
    cases q : dQ p x.f0 with
    | true => rfl
    | false => have := hn.2 q; omega
  · have q : dQ p x.f0 = false := hn.1 (by omega)
    rw [if_neg (show ¬ dQ p x.f0 = true by rw [q]; simp)]
    refine aY (fun d => aX ?_) (fun d => ?_)
    · rw [if_pos (show 14 ≤ p.length by omega)]
    · rw [if_neg (show ¬ 14 ≤ p.length by omega)]
      exact lpP s f p v x.f0 x.f1 x.f2 (by omega)
variable (ws : List ByteArray)
theorem aDE : Ev (fun k => dD.f k s f p v ws) (if ws.length = 2 ∧ dK (gw ws 1) = true then zL s f p v (gw ws 1) else (s, f, p, v, 3)) := by
  have hl := h.ls
  have hL := lpS s f p v ws (by omega)
  have e1 : aP ByteArray.empty ws 1 = gw ws 1 := mW ws 1
  unfold dD.f zL
  rw [e1] at hL ⊢
  refine aY (fun n => aO (by omega) (Ev.bind (dY _) (fI (fun c1 => ?_) (fun c1 => aX ?_)))) (fun n => aX ?_)
  · rw [if_pos (show ws.length = 2 ∧ dK (gw ws 1) = true from ⟨by omega, c1⟩)]
    refine Ev.bind (mA s _ (by omega)) (fI (fun c => aX ?_) (fun c => ?_))
    · rw [if_pos c]
    · rw [if_neg (show ¬ iQ s (gw ws 1) = true by rw [c]; simp)]
      refine aY (fun d => aX ?_) (fun d => ?_)
      · rw [if_pos (show 8 ≤ s.length by omega)]
      · rw [if_neg (show ¬ 8 ≤ s.length by omega)]; exact hL
  · rw [if_neg (fun q => by rw [c1] at q; exact Bool.false_ne_true q.2)]
  · rw [if_neg (fun q => n (by omega))]
theorem aIA : Ev (fun k => cD.f k s f p v ws) (if ws.length = 3 ∧ dK (gw ws 1) = true ∧ dK (gw ws 2) = true then yP s f p v (gw ws 1) (gw ws 2) else (s, f, p, v, 3)) := by
  have hl := h.lf
  have hs := h.ls
  have hL0 := aNK s f p v ws (by omega)
  have hL1 := aNL s f p v ws (by omega)
  have e1 : aP ByteArray.empty ws 1 = gw ws 1 := mW ws 1
  have e2 : aP ByteArray.empty ws 2 = gw ws 2 := mW ws 2
  unfold cD.f yP
  rw [e1, e2] at hL0 hL1
  rw [e1, e2]
  generalize gw ws 1 = a at *
  generalize gw ws 2 = b at *
  refine aY (fun n => aO (by omega) (Ev.bind (dY _) (fI (fun c1 => aO (by omega) (Ev.bind (dY _) (fI (fun c2 => ?_) (fun c2 => aX ?_)))) (fun c1 => aX ?_)))) (fun n => aX ?_)
  · rw [if_pos (show ws.length = 3 ∧ dK a = true ∧ dK b = true from ⟨by omega, c1, c2⟩)]
    refine aY (fun e => aX ?_) (fun e => ?_)
    · rw [if_pos (show a = b from cR.1 e)]
    have hab : ¬ a = b := fun q => e (cR.2 q)
    rw [if_neg hab]
    refine Ev.bind (yS s f p v a b (by omega)) (fI (fun c => aX ?_) (fun c => ?_))
    · rw [if_pos c]
    rw [if_neg (show ¬ kR f a b = true by rw [c]; simp)]
    refine Ev.bind (mA s _ (by omega)) (fI (fun k1 => Ev.bind (mA s _ (by omega)) (fI (fun k2 => ?_) (fun k2 => aX ?_))) (fun k1 => aX ?_))
    · rw [if_pos (show iQ s a = true ∧ iQ s b = true from ⟨k1, k2⟩)]
      refine aY (fun d => aX ?_) (fun d => ?_)
      · rw [if_pos (show 12 ≤ f.length by omega)]
      rw [if_neg (show ¬ 12 ≤ f.length by omega)]
      refine fI (fun g => ?_) (fun g => ?_)
      · have g' := lM (show lt b a = true from g)
        have hm : nO a b = ⟨b, a⟩ := by unfold nO mnS mxS; unfold lt at g'; rw [g, g']; rfl
        rw [hm]; exact hL0
      · have g' : lt a b = true := by
          rcases mP a b with q | q | q
          · exact q
          · exact absurd q hab
          · rw [show lt b a = false from g] at q; cases q
        have hm : nO a b = ⟨a, b⟩ := by unfold nO mnS mxS; unfold lt at g'; rw [g, g']; rfl
        rw [hm]; exact hL1
    · rw [if_neg (fun q => by rw [k2] at q; exact Bool.false_ne_true q.2)]
    · rw [if_neg (fun q => by rw [k1] at q; exact Bool.false_ne_true q.1)]
  · rw [if_neg (fun q => by rw [c2] at q; exact Bool.false_ne_true q.2.2)]
  · rw [if_neg (fun q => by rw [c1] at q; exact Bool.false_ne_true q.2.1)]
  · rw [if_neg (fun q => n (by omega))]
theorem aAJ : Ev (fun k => gC.f k s f p v ws) (if ws.length = 4 ∧ dK (gw ws 1) = true ∧ (1 ≤ kX (gw ws 2) ∧ kX (gw ws 2) ≤ 1000) ∧ dK (gw ws 3) = true then mX s f p v ⟨gw ws 1, kX (gw ws 2), gw ws 3⟩ else (s, f, p, v, 3)) := by
  have e1 : aP ByteArray.empty ws 1 = gw ws 1 := mW ws 1
  have e2 : aP ByteArray.empty ws 2 = gw ws 2 := mW ws 2
  have e3 : aP ByteArray.empty ws 3 = gw ws 3 := mW ws 3
  have hP := vV h ⟨gw ws 1, kX (gw ws 2), gw ws 3⟩
  unfold gC.f
  rw [e1, e2, e3]
  generalize gw ws 1 = a at *
  generalize gw ws 2 = b at *
  generalize gw ws 3 = c at *
  refine aY (fun n => aO (by omega) (Ev.bind (dY _) (fI (fun c1 => aO (by omega) (Ev.bind (sA _) (Ev.bind (mE _ _ _) (fI (fun c2 => aO (by omega) (Ev.bind (dY _) (fI (fun c3 => ?_) (fun c3 => aX ?_)))) (fun c2 => aX ?_))))) (fun c1 => aX ?_)))) (fun n => aX ?_)
  · rw [if_pos (show ws.length = 4 ∧ dK a = true ∧ (1 ≤ kX b ∧ kX b ≤ 1000) ∧ dK c = true from ⟨by omega, c1, qB c2, c3⟩)]
    exact Ev.bind (sA _) (Ev.bind hP (aX rfl))
  · rw [if_neg (fun q => by rw [c3] at q; exact Bool.false_ne_true q.2.2.2)]
  · rw [if_neg (fun q => by have := aBO q.2.2.1; rw [c2] at this; cases this)]
  · rw [if_neg (fun q => by rw [c1] at q; exact Bool.false_ne_true q.2.1)]
  · rw [if_neg (fun q => n (by omega))]
theorem aED : Ev (fun k => gO.f k s f p v ws) (if ws.length = 3 ∧ dK (gw ws 1) = true ∧ dK (gw ws 2) = true then mX s f p v ⟨gw ws 1, 0, gw ws 2⟩ else (s, f, p, v, 3)) := by
  have e1 : aP ByteArray.empty ws 1 = gw ws 1 := mW ws 1
  have e2 : aP ByteArray.empty ws 2 = gw ws 2 := mW ws 2
  have hP := vV h ⟨gw ws 1, 0, gw ws 2⟩
  unfold gO.f
  rw [e1, e2]
  generalize gw ws 1 = a at *
  generalize gw ws 2 = b at *
  refine aY (fun n => aO (by omega) (Ev.bind (dY _) (fI (fun c1 => aO (by omega) (Ev.bind (dY _) (fI (fun c2 => ?_) (fun c2 => aX ?_)))) (fun c1 => aX ?_)))) (fun n => aX ?_)
  · rw [if_pos (show ws.length = 3 ∧ dK a = true ∧ dK b = true from ⟨by omega, c1, c2⟩)]
    exact Ev.bind hP (aX rfl)
  · rw [if_neg (fun q => by rw [c2] at q; exact Bool.false_ne_true q.2.2)]
  · rw [if_neg (fun q => by rw [c1] at q; exact Bool.false_ne_true q.2.1)]
  · rw [if_neg (fun q => n (by omega))]
theorem aDU : Ev (fun k => bL.f k s f p v ws) (if ws.length = 5 ∧ dK (gw ws 1) = true ∧ dK (gw ws 2) = true ∧ dK (gw ws 3) = true ∧ dK (gw ws 4) = true then xQ s f p v (gw ws 1) (gw ws 2) (gw ws 3) (gw ws 4) else (s, f, p, v, 3)) := by
  have hl := h.lv
  have hp := h.lp
  have hL0 := aNM s f p v ws (by omega)
  have hL1 := aNN s f p v ws (by omega)
  have e1 : aP ByteArray.empty ws 1 = gw ws 1 := mW ws 1
  have e2 : aP ByteArray.empty ws 2 = gw ws 2 := mW ws 2
  have e3 : aP ByteArray.empty ws 3 = gw ws 3 := mW ws 3
  have e4 : aP ByteArray.empty ws 4 = gw ws 4 := mW ws 4
  unfold bL.f xQ
  rw [e1, e2, e3, e4] at hL0 hL1
  rw [e1, e2, e3, e4]
  generalize gw ws 1 = a at *
  generalize gw ws 2 = b at *
  generalize gw ws 3 = c at *
  generalize gw ws 4 = d at *
  obtain ⟨m, hm1, hm2⟩ := wR s f p v a (by omega)
  have q1 := iX b p
  have q2 := iX c p
  refine aY (fun n => aO (by omega) (Ev.bind (dY _) (fI (fun c1 => aO (by omega) (Ev.bind (dY _) (fI (fun c2 => aO (by omega) (Ev.bind (dY _) (fI (fun c3 => ?_) (fun c3 => aX ?_)))) (fun c2 => aX ?_)))) (fun c1 => aX ?_)))) (fun n => aX ?_)
  · refine aY (fun e => aX ?_) (fun e => aO (by omega) (Ev.bind (dY _) (fI (fun c4 => ?_) (fun c4 => aX ?_))))
    · rw [if_pos (show b = c from cR.1 e)]; split <;> rfl
    · have hbc : ¬ b = c := fun q => e (cR.2 q)
      rw [if_pos (show ws.length = 5 ∧ dK a = true ∧ dK b = true ∧ dK c = true ∧ dK d = true from ⟨by omega, c1, c2, c3, c4⟩), if_neg hbc]
      refine Ev.bind hm1 (aY (fun k => aX ?_) (fun k => ?_))
      · rw [if_pos (hm2.1 k)]
      rw [if_neg (show ¬ iU v a = true from fun q => k (hm2.2 q))]
      refine Ev.bind (jU s f p v b (by omega)) (aY (fun r1 => aX ?_) (fun r1 => Ev.bind (jU s f p v c (by omega)) (aY (fun r2 => aX ?_) (fun r2 => ?_))))
      · rw [if_neg (fun z => by have := q1.1 r1; rw [this] at z; exact Bool.false_ne_true z.1)]
      · rw [if_neg (fun z => by have := q2.1 r2; rw [this] at z; exact Bool.false_ne_true z.2)]
      · have b1 : dQ p b = true := by cases z : dQ p b with
          | true => rfl
          | false => exact absurd (q1.2 z) r1
        have b2 : dQ p c = true := by cases z : dQ p c with
          | true => rfl
          | false => exact absurd (q2.2 z) r2
        rw [if_pos (show dQ p b = true ∧ dQ p c = true from ⟨b1, b2⟩)]
        refine aY (fun g => aX ?_) (fun g => ?_)
        · rw [if_pos (show 18 ≤ v.length by omega)]
        rw [if_neg (show ¬ 18 ≤ v.length by omega)]
        refine fI (fun g => ?_) (fun g => ?_)
        · have g' := lM (show lt c b = true from g)
          have hm : mnS b c = c ∧ mxS b c = b := by unfold mnS mxS; unfold lt at g'; rw [g, g']; exact ⟨rfl, rfl⟩
          rw [hm.1, hm.2]; exact hL0
        · have g' : lt b c = true := by
            rcases mP b c with q | q | q
            · exact q
            · exact absurd q hbc
            · rw [show lt c b = false from g] at q; cases q
          have hm : mnS b c = b ∧ mxS b c = c := by unfold mnS mxS; unfold lt at g'; rw [g, g']; exact ⟨rfl, rfl⟩
          rw [hm.1, hm.2]; exact hL1
    · rw [if_neg (fun q => by rw [c4] at q; exact Bool.false_ne_true q.2.2.2.2)]
  · rw [if_neg (fun q => by rw [c3] at q; exact Bool.false_ne_true q.2.2.2.1)]
  · rw [if_neg (fun q => by rw [c2] at q; exact Bool.false_ne_true q.2.2.1)]
  · rw [if_neg (fun q => by rw [c1] at q; exact Bool.false_ne_true q.2.1)]
  · rw [if_neg (fun q => n (by omega))]
theorem aJI (h1 : 1 ≤ ws.length) : Ev (fun k => gW.f k s f p v ws) (put s f p v ws) := by
  have a1 := aDE h ws
  have a2 := aIA h ws
  have a3 := aAJ h ws
  have a4 := aED h ws
  have a5 := aDU h ws
  have e0 : aP ByteArray.empty ws 0 = gw ws 0 := mW ws 0
  unfold gW.f put
  rw [e0]
  refine aO (by omega) (aY (fun c => ?_) (fun c => ?_))
  · rw [if_pos (show gw ws 0 = fU from cR.1 c)]; exact Ev.bind a1 (aX rfl)
  rw [if_neg (show ¬ gw ws 0 = fU from fun q => c (cR.2 q))]
  refine aY (fun c => ?_) (fun c => ?_)
  · rw [if_pos (show gw ws 0 = jN from cR.1 c)]; exact Ev.bind a2 (aX rfl)
  rw [if_neg (show ¬ gw ws 0 = jN from fun q => c (cR.2 q))]
  refine aY (fun c => ?_) (fun c => ?_)
  · rw [if_pos (show gw ws 0 = eL from cR.1 c)]; exact Ev.bind a3 (aX rfl)
  rw [if_neg (show ¬ gw ws 0 = eL from fun q => c (cR.2 q))]
  refine aY (fun c => ?_) (fun c => ?_)
  · rw [if_pos (show gw ws 0 = fL from cR.1 c)]; exact Ev.bind a4 (aX rfl)
  rw [if_neg (show ¬ gw ws 0 = fL from fun q => c (cR.2 q))]
  refine aY (fun c => ?_) (fun c => ?_)
  · rw [if_pos (show gw ws 0 = fD from cR.1 c)]; exact Ev.bind a5 (aX rfl)
  rw [if_neg (show ¬ gw ws 0 = fD from fun q => c (cR.2 q))]
  exact aX rfl
end
theorem wV (a : ByteArray) (ha : a.size ≤ 1048576) : Ev (fun k => cX.f k a) (gI a) := by
  have h2 := tT a ha
  have hm := qV a.data.toList []
  unfold cX.f gI
  generalize hU [] a.data.toList = ls at *
  refine Ev.bind h2 (aY (fun c => aX (by rw [if_pos (by omega)])) (fun c => ?_))
  rw [if_neg (by omega)]
  refine aY (fun d => aX (by rw [if_pos (by omega)])) (fun d => ?_)
  rw [if_neg (by omega)]
  have hz : ∀ x ∈ ls, x.size ≤ 1048576 := fun x hx => by have := hm x hx; rw [iB] at this; simp at this; omega
  have key := eO ByteArray.empty ls (P := fun i r => ∀ t : PS, VdS t → Ev (fun k => cX.l0 k (i : Int) t.1 t.2.1 t.2.2.1 t.2.2.2 ls) (gD r (i : Int) t))
    (fun t ht => by
      have hv : Vd t.1 t.2.1 t.2.2.1 t.2.2.2 := ht
      have := hv.ls; have := hv.lf; have := hv.lp; have := hv.lv
      refine Ev.step (fun k => by rw [cX.l0]) ?_
      refine bT (by omega) (oJ (a := (t.1, t.2.1, t.2.2.1, t.2.2.2)) ?_ (aX rfl))
      unfold dT.f
      rw [if_pos (by omega), if_pos (by omega), if_pos (by omega), if_pos (by omega)]; rfl) (fun i x r hi hx hm _ ih t ht => ?_)
  · exact key ([], [], [], []) pM
  refine Ev.step (fun k => by rw [cX.l0]) (aO (by omega) (aO (by omega) ?_))
  have hw : Ev (fun k => cQ.f k x) (jC x) := wH x (hz x hm)
  rw [eZ, hx, dN hi (by omega)]
  unfold gD
  generalize jC x = W at *
  refine Ev.bind hw (fI (fun c1 => ?_) (fun c1 => aX ?_))
  · rw [if_pos c1]
    refine aY (fun c2 => ?_) (fun c2 => ?_)
    · rw [if_pos (show 0 < W.1.length by omega)]
      refine Ev.bind (aJI ht W.1 (by omega)) (aY (fun c3 => ?_) (fun c3 => aX ?_))
      · rw [if_pos (show (jY t W.1).2.2.2.2 = 0 from c3)]
        exact ih (stC (jY t W.1)) (wD ht _)
      · rw [if_neg (show ¬ (jY t W.1).2.2.2.2 = 0 from c3)]; rfl
    · rw [if_neg (show ¬ 0 < W.1.length by omega)]
      exact ih t ht
  · rw [if_neg (by rw [c1]; simp)]; rfl
end Go.Proofs.YtnobkcplpbkigaaGreatDoor.Pure
